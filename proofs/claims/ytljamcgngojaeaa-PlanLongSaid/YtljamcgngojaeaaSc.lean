/- The reference: the plan. The reference: the plan, proof. -/
import Derived.Test.YtljamcgngojaeaaSb
namespace Go.Proofs.Ytljamcgngojaeaa.T
open Go.Proofs.Ytljamcgngojaeaa.E
set_option maxRecDepth 100000
set_option linter.unusedVariables false
def tab15 : Tab Try.prog KK := ⟨mixed, fun f args H => match f, args with
  | 33, [.one (.c (.slc n 0 len none)), .one (.c (.int _ a))] => match getL .cell (at_ H n) with
    | some l => some (ct_rleft l a, [], [n])
    | none => none
  | 34, [.one (.agg [.slc n 0 len none]), .one (.c (.slc m 0 len' none)), .one (.c (.int _ d)), .one (.c (.bool b))] => match getL .cell (at_ H n), getL .item (at_ H m) with
    | some l, some its => some (ct_rneed l its d b, [], [n, m])
    | _, _ => none
  | f, args => tab14.pick f args H, fun f args H ct ks τ h => by
    split at h
    · split at h
      · cases h; exact rleft_ok _ _
      · cases h
    · split at h
      · cases h; exact rneed_ok _ _ _ _
      · cases h
    · exact tab14.ok _ _ _ _ _ _ h⟩
def ct_rof (l : List Cell) (most : Int) : Ct KK := { need := Cells l ∧ l.length ≤ 100000 ∧ i64ok most, pre := [.ro .cell l], args := [.agg [.slc 0 0 l.length none], i64 most], Y := Unit, ok := fun _ => True, ret := fun _ => .agg (planC 1 2 (ofF l most)), post := fun _ => [.gone, .arr .item (ofF l most).items, .arr .int (ofF l most).left] }
def inv_rof4 (l : List Cell) (most : Int) : Inv KK := { X := Nat × PS, fr := fun x => [.any, i64 most, .c (.ptr 1 0 0), .any, .c (.ptr 2 0 0), .c (.slc 3 0 l.length none), .c (.ptr 4 0 0), i64 x.1] ++ anys 94, H := fun x => [.ro .cell l, .cells 25 [.slc 0 0 l.length none], .cells 34 [.nils, .nils, .int .i64 0, .int .i64 0, .int .i64 0, .int .i64 0], .arr .bool (leftOf l most), .cells 34 [.slc 5 0 x.2.items.length none, .slc 6 0 x.2.left.length none, .int .i64 0, .int .i64 0, .int .i64 0, .int .i64 0], .arr .item x.2.items, .arr .int x.2.left], ok := fun x => x.1 ≤ l.length ∧ x.2 = ofS l (leftOf l most) x.1 ∧ x.2.items.length ≤ x.1 ∧ x.2.left.length ≤ x.1, meas := fun x => l.length - x.1 }
def needV (s : PS) (v : Nat) : Four := ⟨if 0 < v then s.n0 else 0, if 0 < v then s.b0 else 0, if 1 < v then s.n1 else 0, if 1 < v then s.b1 else 0⟩
abbrev HN (l : List Cell) (most : Int) (v : Nat) : VH KK := [.ro .cell l, .cells 25 [.slc 0 0 l.length none], .cells 34 [.nils, .nils, .int .i64 0, .int .i64 0, .int .i64 0, .int .i64 0], .gone, .cells 34 [.slc 5 0 (ofF l most).items.length none, .slc 6 0 (ofF l most).left.length none, .int .i64 (needV (ofF l most) v).n0, .int .i64 (needV (ofF l most) v).b0, .int .i64 (needV (ofF l most) v).n1, .int .i64 (needV (ofF l most) v).b1], .arr .item (ofF l most).items, .arr .int (ofF l most).left]
abbrev frN (v : VV) : List VV := [.any, .any, .c (.ptr 1 0 0), .any, .c (.ptr 2 0 0), .any, .c (.ptr 4 0 0), .any, .any, .any, v] ++ anys 91
def inv_rof15 (l : List Cell) (most : Int) : Inv KK := { X := Nat, fr := fun v => frN (i64 v), H := fun v => HN l most v, ok := fun v => v ≤ 2, meas := fun v : Nat => 2 - v }
def inv_rof17 (l : List Cell) (most : Int) (u : Nat) (v : Int) : Inv KK := { X := Unit, fr := fun _ => frN (i64 u), H := fun _ => HN l most u, ok := fun _ => v = (u : Int), meas := fun _ => 0 }
def ann_rof (l : List Cell) (most : Int) : Ann KK := ⟨fun id _ _ => match id with
  | 4 => some (inv_rof4 l most)
  | 15 => some (inv_rof15 l most)
  | _ => none, fun id fr _ => match id, fr.getD 10 .any with
  | 17, .one (.c (.int _ v)) => some (inv_rof17 l most 0 v)
  | 517, .one (.c (.int _ v)) => some (inv_rof17 l most 1 v)
  | _, _ => none⟩
theorem vc_rof (l : List Cell) (most : Int) : evFn tab15 (ann_rof l most) Try.f20 (ct_rof l most) = ( ((∀ (c : Cell), List.Mem c l → c.Ok) ∧ l.length ≤ 1000000 ∧ i64ok most) ∧ Into (K := KK) 0 [] [0] [VV.one (V1.c (C.slc 0 0 l.length none)), i64 most] [Atom.ro Kd.cell l, Atom.cells 25 [C.slc 0 0 l.length
 none], Atom.cells 34 [C.nils, C.nils, C.int .i64 (0 : Int), C.int .i64 (0 : Int), C.int .i64 (0 : Int), C.int .i64 (0 : Int)]] [VV.one (V1.c (C.slc 0 0 l.length none)), i64 most] [Atom.ro Kd.cell l] ∧
 ∀ (y : Unit), True → Enter 1 (inv_rof4 l most) (fun (x : Nat × PS) => True) [VV.one (V1.agg [C.slc 0 0 l.length none]), i64 most, VV.one (V1.c (C.ptr 1 0 0)), VV.any, VV.one (V1.c (C.ptr 2 0 0)), VV.one
 (V1.c (C.slc 3 0 l.length none)), VV.one (V1.c (C.ptr 4 0 0)), i64 (0 : Int), VV.any, VV.any, VV.any, VV.one (V1.c (C.ptr 1 0 0)), VV.one (V1.c (C.slc 0 0 l.length none)), i64 most, VV.one (V1.c (C.slc
 3 0 l.length none)), VV.any, VV.any, VV.any, VV.any, VV.any, VV.any, VV.any, VV.any, VV.any, VV.any, VV.any, VV.any, VV.any, VV.any, VV.any, VV.any, VV.any, VV.any, VV.any, VV.any, VV.any, VV.any, VV.any,
 VV.any, VV.any, VV.any, VV.any, VV.any, VV.any, VV.any, VV.any, VV.any, VV.any, VV.any, VV.any, VV.any, VV.any, VV.any, VV.any, VV.any, VV.any, VV.any, VV.any, VV.any, VV.any, VV.any, VV.any, VV.any, VV.any,
 VV.any, VV.any, VV.any, VV.any, VV.any, VV.any, VV.any, VV.any, VV.any, VV.any, VV.any, VV.any, VV.any, VV.any, VV.any, VV.any, VV.any, VV.any, VV.any, VV.any, VV.any, VV.any, VV.any, VV.any, VV.any, VV.any,
 VV.any, VV.any, VV.any, VV.any, VV.any, VV.any, VV.any, VV.any, VV.any, VV.any, VV.any, VV.any] [Atom.ro Kd.cell l, Atom.cells 25 [C.slc 0 0 l.length none], Atom.cells 34 [C.nils, C.nils, C.int .i64 (0
 : Int), C.int .i64 (0 : Int), C.int .i64 (0 : Int), C.int .i64 (0 : Int)], Atom.arr Kd.bool (leaveF l (min (max most (1 : Int)) (1048576 : Int))), Atom.cells 34 [C.nils, C.nils, C.int .i64 (0 : Int), C.int
 .i64 (0 : Int), C.int .i64 (0 : Int), C.int .i64 (0 : Int)]] ∧ ∀ (z : Nat × PS), z.fst ≤ l.length ∧ z.snd = ofS l (leftOf l most) z.fst ∧ z.snd.items.length ≤ z.fst ∧ z.snd.left.length ≤ z.fst → ite2 (decide
 ((↑z.fst : Int) < (↑l.length : Int))) (((0 : Int) ≤ (↑z.fst : Int) ∧ (↑z.fst : Int) < (↑l.length : Int)) ∧ 0 + (↑z.fst : Int).toNat < l.length ∧ True ∧ 0 + (↑z.fst : Int).toNat < l.length ∧ ((0 : Int)
 ≤ (↑z.fst : Int) ∧ (↑z.fst : Int) < (↑l.length : Int)) ∧ 0 + (↑z.fst : Int).toNat < (leftOf l most).length ∧ True ∧ 0 + (↑z.fst : Int).toNat < (leftOf l most).length ∧ ite2 (rd (leftOf l most) (0 + (↑z.fst
 : Int).toNat) false) (z.snd.left.length = z.snd.left.length ∧ (1 ≤ 1 ∧ True) ∧ (z.snd.left.length + 1) * 8 ≤ 140737488355328 ∧ i64ok ((↑z.fst : Int) + (1 : Int)) ∧ Enter 1 (inv_rof4 l most) (fun (z' :
 Nat × PS) => l.length - z'.fst < l.length - z.fst) [VV.any, i64 most, VV.one (V1.c (C.ptr 1 0 0)), VV.any, VV.one (V1.c (C.ptr 2 0 0)), VV.one (V1.c (C.slc 3 0 l.length none)), VV.one (V1.c (C.ptr 4 0
 0)), i64 ((↑z.fst : Int) + (1 : Int)), VV.one (V1.c (C.ptr 7 0 0)), VV.any, VV.any, VV.any, VV.any, VV.any, VV.any, i64 (↑z.fst : Int), VV.one (V1.c (C.ptr 1 0 0)), VV.one (V1.c (C.slc 0 0 l.length none)),
 i64 (↑l.length : Int), boolv true, i64 (↑z.fst : Int), i64 ((↑z.fst : Int) + (1 : Int)), VV.one (V1.c (C.ptr 1 0 0)), VV.one (V1.c (C.slc 0 0 l.length none)), i64 (↑z.fst : Int), VV.one (V1.c (C.ptr 0
 (0 + (↑z.fst : Int).toNat) 0)), VV.one (V1.agg [C.str (rd l (0 + (↑z.fst : Int).toNat) (KK.dflt Kd.cell)).path, C.int .i64 (rd l (0 + (↑z.fst : Int).toNat) (KK.dflt Kd.cell)).what, C.int .i64 (rd l (0
 + (↑z.fst : Int).toNat) (KK.dflt Kd.cell)).side, C.int .i64 (rd l (0 + (↑z.fst : Int).toNat) (KK.dflt Kd.cell)).mode, C.int .i64 (rd l (0 + (↑z.fst : Int).toNat) (KK.dflt Kd.cell)).keep, C.int .i64 (rd
 l (0 + (↑z.fst : Int).toNat) (KK.dflt Kd.cell)).take, C.int .i64 (rd l (0 + (↑z.fst : Int).toNat) (KK.dflt Kd.cell)).names, C.int .i64 (rd l (0 + (↑z.fst : Int).toNat) (KK.dflt Kd.cell)).bytes, C.int .i64
 (rd l (0 + (↑z.fst : Int).toNat) (KK.dflt Kd.cell)).hadN, C.int .i64 (rd l (0 + (↑z.fst : Int).toNat) (KK.dflt Kd.cell)).hadB]), VV.one (V1.c (C.slc 3 0 l.length none)), i64 (↑z.fst : Int), VV.one (V1.c
 (C.ptr 3 (0 + (↑z.fst : Int).toNat) 0)), boolv (rd (leftOf l most) (0 + (↑z.fst : Int).toNat) false), VV.one (V1.c (C.ptr 4 0 1)), VV.one (V1.c (C.slc 6 0 z.snd.left.length none)), i64 (↑z.fst : Int),
 VV.one (V1.c (C.slc 8 0 1 none)), VV.one (V1.c (C.slc 9 0 (z.snd.left.length + 1) none)), VV.one (V1.c (C.ptr 4 0 1)), VV.any, VV.any, VV.any, VV.any, VV.any, VV.any, VV.any, VV.any, VV.any, VV.any, VV.any,
 VV.any, VV.any, VV.any, VV.any, VV.any, VV.any, VV.any, VV.any, VV.any, VV.any, VV.any, VV.any, VV.any, VV.any, VV.any, VV.any, VV.any, VV.any, VV.any, VV.any, VV.any, VV.any, VV.any, VV.any, VV.any, VV.any,
 VV.any, VV.any, VV.any, VV.any, VV.any, VV.any, VV.any, VV.any, VV.any, VV.any, VV.any, VV.any, VV.any, VV.any, VV.any, VV.any, VV.any, VV.any, VV.any, VV.any, VV.any, VV.any, VV.any, VV.any, VV.any, VV.any,
 VV.any, VV.any] [Atom.ro Kd.cell l, Atom.cells 25 [C.slc 0 0 l.length none], Atom.cells 34 [C.nils, C.nils, C.int .i64 (0 : Int), C.int .i64 (0 : Int), C.int .i64 (0 : Int), C.int .i64 (0 : Int)], Atom.arr
 Kd.bool (leftOf l most), Atom.cells 34 [C.slc 5 0 z.snd.items.length none, C.slc 9 0 (z.snd.left.length + 1) none, C.int .i64 (0 : Int), C.int .i64 (0 : Int), C.int .i64 (0 : Int), C.int .i64 (0 : Int)],
 Atom.arr Kd.item z.snd.items, Atom.gone, Atom.cells 44 [C.str (rd l (0 + (↑z.fst : Int).toNat) (KK.dflt Kd.cell)).path, C.int .i64 (rd l (0 + (↑z.fst : Int).toNat) (KK.dflt Kd.cell)).what, C.int .i64 (rd
 l (0 + (↑z.fst : Int).toNat) (KK.dflt Kd.cell)).side, C.int .i64 (rd l (0 + (↑z.fst : Int).toNat) (KK.dflt Kd.cell)).mode, C.int .i64 (rd l (0 + (↑z.fst : Int).toNat) (KK.dflt Kd.cell)).keep, C.int .i64
 (rd l (0 + (↑z.fst : Int).toNat) (KK.dflt Kd.cell)).take, C.int .i64 (rd l (0 + (↑z.fst : Int).toNat) (KK.dflt Kd.cell)).names, C.int .i64 (rd l (0 + (↑z.fst : Int).toNat) (KK.dflt Kd.cell)).bytes, C.int
 .i64 (rd l (0 + (↑z.fst : Int).toNat) (KK.dflt Kd.cell)).hadN, C.int .i64 (rd l (0 + (↑z.fst : Int).toNat) (KK.dflt Kd.cell)).hadB], Atom.arr Kd.int [(↑z.fst : Int)], Atom.arr Kd.int (z.snd.left ++ [(↑z.fst
 : Int)])]) (ite2 (decide ((rd l (0 + (↑z.fst : Int).toNat) (KK.dflt Kd.cell)).what = (3 : Int))) (ite2 (decide ((rd l (0 + (↑z.fst : Int).toNat) (KK.dflt Kd.cell)).side = (1 : Int))) (i64ok ((↑z.snd.items.length
 : Int) + (1 : Int)) ∧ i64ok ((rd l (0 + (↑z.fst : Int).toNat) (KK.dflt Kd.cell)).side - (1 : Int)) ∧ i64ok ((2 : Int) - (rd l (0 + (↑z.fst : Int).toNat) (KK.dflt Kd.cell)).side) ∧ ite2 (decide ((rd l (0
 + (↑z.fst : Int).toNat) (KK.dflt Kd.cell)).what = (2 : Int))) (z.snd.items.length = z.snd.items.length ∧ (1 ≤ 1 ∧ True) ∧ (z.snd.items.length + 1) * 64 ≤ 140737488355328 ∧ i64ok ((↑z.fst : Int) + (1 :
 Int)) ∧ Enter 1 (inv_rof4 l most) (fun (z' : Nat × PS) => l.length - z'.fst < l.length - z.fst) [VV.any, i64 most, VV.one (V1.c (C.ptr 1 0 0)), VV.any, VV.one (V1.c (C.ptr 2 0 0)), VV.one (V1.c (C.slc
 3 0 l.length none)), VV.one (V1.c (C.ptr 4 0 0)), i64 ((↑z.fst : Int) + (1 : Int)), VV.one (V1.c (C.ptr 7 0 0)), VV.one (V1.c (C.ptr 8 0 0)), VV.any, VV.any, VV.any, VV.any, VV.any, i64 (↑z.fst : Int),
 VV.one (V1.c (C.ptr 1 0 0)), VV.one (V1.c (C.slc 0 0 l.length none)), i64 (↑l.length : Int), boolv true, i64 (↑z.fst : Int), i64 ((↑z.fst : Int) + (1 : Int)), VV.one (V1.c (C.ptr 1 0 0)), VV.one (V1.c
 (C.slc 0 0 l.length none)), i64 (↑z.fst : Int), VV.one (V1.c (C.ptr 0 (0 + (↑z.fst : Int).toNat) 0)), VV.one (V1.agg [C.str (rd l (0 + (↑z.fst : Int).toNat) (KK.dflt Kd.cell)).path, C.int .i64 (rd l (0
 + (↑z.fst : Int).toNat) (KK.dflt Kd.cell)).what, C.int .i64 (rd l (0 + (↑z.fst : Int).toNat) (KK.dflt Kd.cell)).side, C.int .i64 (rd l (0 + (↑z.fst : Int).toNat) (KK.dflt Kd.cell)).mode, C.int .i64 (rd
 l (0 + (↑z.fst : Int).toNat) (KK.dflt Kd.cell)).keep, C.int .i64 (rd l (0 + (↑z.fst : Int).toNat) (KK.dflt Kd.cell)).take, C.int .i64 (rd l (0 + (↑z.fst : Int).toNat) (KK.dflt Kd.cell)).names, C.int .i64
 (rd l (0 + (↑z.fst : Int).toNat) (KK.dflt Kd.cell)).bytes, C.int .i64 (rd l (0 + (↑z.fst : Int).toNat) (KK.dflt Kd.cell)).hadN, C.int .i64 (rd l (0 + (↑z.fst : Int).toNat) (KK.dflt Kd.cell)).hadB]), VV.one
 (V1.c (C.slc 3 0 l.length none)), i64 (↑z.fst : Int), VV.one (V1.c (C.ptr 3 (0 + (↑z.fst : Int).toNat) 0)), boolv (rd (leftOf l most) (0 + (↑z.fst : Int).toNat) false), VV.any, VV.any, VV.any, VV.any,
 VV.any, VV.any, VV.one (V1.c (C.ptr 7 0 1)), i64 (rd l (0 + (↑z.fst : Int).toNat) (KK.dflt Kd.cell)).what, boolv false, boolv false, VV.tup [], VV.tup [], VV.tup [], boolv false, boolv false, VV.one (V1.c
 (C.ptr 7 0 2)), i64 (rd l (0 + (↑z.fst : Int).toNat) (KK.dflt Kd.cell)).side, boolv false, boolv false, VV.tup [], VV.tup [], VV.tup [], boolv false, boolv false, VV.one (V1.c (C.ptr 4 0 0)), VV.one (V1.c
 (C.slc 5 0 z.snd.items.length none)), i64 (↑z.snd.items.length : Int), i64 ((↑z.snd.items.length : Int) + (1 : Int)), i64 (↑z.fst : Int), VV.one (V1.c (C.ptr 7 0 0)), VV.one (V1.c (C.str (rd l (0 + (↑z.fst
 : Int).toNat) (KK.dflt Kd.cell)).path)), VV.one (V1.c (C.ptr 7 0 1)), i64 (rd l (0 + (↑z.fst : Int).toNat) (KK.dflt Kd.cell)).what, VV.one (V1.c (C.ptr 7 0 2)), i64 (rd l (0 + (↑z.fst : Int).toNat) (KK.dflt
 Kd.cell)).side, VV.one (V1.c (C.int .i64 ((rd l (0 + (↑z.fst : Int).toNat) (KK.dflt Kd.cell)).side - (1 : Int)))), VV.one (V1.c (C.ptr 7 0 2)), i64 (rd l (0 + (↑z.fst : Int).toNat) (KK.dflt Kd.cell)).side,
 VV.one (V1.c (C.int .i64 ((2 : Int) - (rd l (0 + (↑z.fst : Int).toNat) (KK.dflt Kd.cell)).side))), VV.one (V1.agg [C.int .i64 ((↑z.snd.items.length : Int) + (1 : Int)), C.int .i64 (↑z.fst : Int), C.str
 (rd l (0 + (↑z.fst : Int).toNat) (KK.dflt Kd.cell)).path, C.int .i64 (rd l (0 + (↑z.fst : Int).toNat) (KK.dflt Kd.cell)).what, C.int .i64 ((rd l (0 + (↑z.fst : Int).toNat) (KK.dflt Kd.cell)).side - (1
 : Int)), C.int .i64 ((2 : Int) - (rd l (0 + (↑z.fst : Int).toNat) (KK.dflt Kd.cell)).side), C.int .i64 (0 : Int)]), VV.one (V1.c (C.ptr 7 0 1)), i64 (rd l (0 + (↑z.fst : Int).toNat) (KK.dflt Kd.cell)).what,
 boolv true, VV.one (V1.c (C.ptr 7 0 3)), i64 (rd l (0 + (↑z.fst : Int).toNat) (KK.dflt Kd.cell)).mode, VV.one (V1.c (C.ptr 8 0 6)), VV.one (V1.c (C.ptr 4 0 0)), VV.one (V1.c (C.slc 5 0 z.snd.items.length
 none)), VV.one (V1.agg [C.int .i64 ((↑z.snd.items.length : Int) + (1 : Int)), C.int .i64 (↑z.fst : Int), C.str (rd l (0 + (↑z.fst : Int).toNat) (KK.dflt Kd.cell)).path, C.int .i64 (rd l (0 + (↑z.fst :
 Int).toNat) (KK.dflt Kd.cell)).what, C.int .i64 ((rd l (0 + (↑z.fst : Int).toNat) (KK.dflt Kd.cell)).side - (1 : Int)), C.int .i64 ((2 : Int) - (rd l (0 + (↑z.fst : Int).toNat) (KK.dflt Kd.cell)).side),
 C.int .i64 (rd l (0 + (↑z.fst : Int).toNat) (KK.dflt Kd.cell)).mode]), VV.one (V1.c (C.slc 9 0 1 none)), VV.one (V1.c (C.slc 10 0 (z.snd.items.length + 1) none)), VV.one (V1.c (C.ptr 4 0 0)), VV.any, VV.any,
 VV.any, VV.any, VV.any, VV.any, VV.any, VV.any, VV.any, VV.any, VV.any, VV.any, VV.any, VV.any, VV.any, VV.any, VV.any, VV.any, VV.any] [Atom.ro Kd.cell l, Atom.cells 25 [C.slc 0 0 l.length none], Atom.cells
 34 [C.nils, C.nils, C.int .i64 (0 : Int), C.int .i64 (0 : Int), C.int .i64 (0 : Int), C.int .i64 (0 : Int)], Atom.arr Kd.bool (leftOf l most), Atom.cells 34 [C.slc 10 0 (z.snd.items.length + 1) none, C.slc
 6 0 z.snd.left.length none, C.int .i64 (0 : Int), C.int .i64 (0 : Int), C.int .i64 (0 : Int), C.int .i64 (0 : Int)], Atom.gone, Atom.arr Kd.int z.snd.left, Atom.cells 44 [C.str (rd l (0 + (↑z.fst : Int).toNat)
 (KK.dflt Kd.cell)).path, C.int .i64 (rd l (0 + (↑z.fst : Int).toNat) (KK.dflt Kd.cell)).what, C.int .i64 (rd l (0 + (↑z.fst : Int).toNat) (KK.dflt Kd.cell)).side, C.int .i64 (rd l (0 + (↑z.fst : Int).toNat)
 (KK.dflt Kd.cell)).mode, C.int .i64 (rd l (0 + (↑z.fst : Int).toNat) (KK.dflt Kd.cell)).keep, C.int .i64 (rd l (0 + (↑z.fst : Int).toNat) (KK.dflt Kd.cell)).take, C.int .i64 (rd l (0 + (↑z.fst : Int).toNat)
 (KK.dflt Kd.cell)).names, C.int .i64 (rd l (0 + (↑z.fst : Int).toNat) (KK.dflt Kd.cell)).bytes, C.int .i64 (rd l (0 + (↑z.fst : Int).toNat) (KK.dflt Kd.cell)).hadN, C.int .i64 (rd l (0 + (↑z.fst : Int).toNat)
 (KK.dflt Kd.cell)).hadB], Atom.cells 42 [C.int .i64 ((↑z.snd.items.length : Int) + (1 : Int)), C.int .i64 (↑z.fst : Int), C.str (rd l (0 + (↑z.fst : Int).toNat) (KK.dflt Kd.cell)).path, C.int .i64 (rd
 l (0 + (↑z.fst : Int).toNat) (KK.dflt Kd.cell)).what, C.int .i64 ((rd l (0 + (↑z.fst : Int).toNat) (KK.dflt Kd.cell)).side - (1 : Int)), C.int .i64 ((2 : Int) - (rd l (0 + (↑z.fst : Int).toNat) (KK.dflt
 Kd.cell)).side), C.int .i64 (rd l (0 + (↑z.fst : Int).toNat) (KK.dflt Kd.cell)).mode], Atom.arr Kd.item [(Item.mk ((↑z.snd.items.length : Int) + (1 : Int)) ((↑z.fst : Int)) ((rd l (0 + (↑z.fst : Int).toNat)
 (KK.dflt Kd.cell)).path) ((rd l (0 + (↑z.fst : Int).toNat) (KK.dflt Kd.cell)).what) ((rd l (0 + (↑z.fst : Int).toNat) (KK.dflt Kd.cell)).side - (1 : Int)) ((2 : Int) - (rd l (0 + (↑z.fst : Int).toNat)
 (KK.dflt Kd.cell)).side) ((rd l (0 + (↑z.fst : Int).toNat) (KK.dflt Kd.cell)).mode))], Atom.arr Kd.item (z.snd.items ++ [(Item.mk ((↑z.snd.items.length : Int) + (1 : Int)) ((↑z.fst : Int)) ((rd l (0 +
 (↑z.fst : Int).toNat) (KK.dflt Kd.cell)).path) ((rd l (0 + (↑z.fst : Int).toNat) (KK.dflt Kd.cell)).what) ((rd l (0 + (↑z.fst : Int).toNat) (KK.dflt Kd.cell)).side - (1 : Int)) ((2 : Int) - (rd l (0 +
 (↑z.fst : Int).toNat) (KK.dflt Kd.cell)).side) ((rd l (0 + (↑z.fst : Int).toNat) (KK.dflt Kd.cell)).mode))])]) (z.snd.items.length = z.snd.items.length ∧ (1 ≤ 1 ∧ True) ∧ (z.snd.items.length + 1) * 64
 ≤ 140737488355328 ∧ i64ok ((↑z.fst : Int) + (1 : Int)) ∧ Enter 1 (inv_rof4 l most) (fun (z' : Nat × PS) => l.length - z'.fst < l.length - z.fst) [VV.any, i64 most, VV.one (V1.c (C.ptr 1 0 0)), VV.any,
 VV.one (V1.c (C.ptr 2 0 0)), VV.one (V1.c (C.slc 3 0 l.length none)), VV.one (V1.c (C.ptr 4 0 0)), i64 ((↑z.fst : Int) + (1 : Int)), VV.one (V1.c (C.ptr 7 0 0)), VV.one (V1.c (C.ptr 8 0 0)), VV.any, VV.any,
 VV.any, VV.any, VV.any, i64 (↑z.fst : Int), VV.one (V1.c (C.ptr 1 0 0)), VV.one (V1.c (C.slc 0 0 l.length none)), i64 (↑l.length : Int), boolv true, i64 (↑z.fst : Int), i64 ((↑z.fst : Int) + (1 : Int)),
 VV.one (V1.c (C.ptr 1 0 0)), VV.one (V1.c (C.slc 0 0 l.length none)), i64 (↑z.fst : Int), VV.one (V1.c (C.ptr 0 (0 + (↑z.fst : Int).toNat) 0)), VV.one (V1.agg [C.str (rd l (0 + (↑z.fst : Int).toNat) (KK.dflt
 Kd.cell)).path, C.int .i64 (rd l (0 + (↑z.fst : Int).toNat) (KK.dflt Kd.cell)).what, C.int .i64 (rd l (0 + (↑z.fst : Int).toNat) (KK.dflt Kd.cell)).side, C.int .i64 (rd l (0 + (↑z.fst : Int).toNat) (KK.dflt
 Kd.cell)).mode, C.int .i64 (rd l (0 + (↑z.fst : Int).toNat) (KK.dflt Kd.cell)).keep, C.int .i64 (rd l (0 + (↑z.fst : Int).toNat) (KK.dflt Kd.cell)).take, C.int .i64 (rd l (0 + (↑z.fst : Int).toNat) (KK.dflt
 Kd.cell)).names, C.int .i64 (rd l (0 + (↑z.fst : Int).toNat) (KK.dflt Kd.cell)).bytes, C.int .i64 (rd l (0 + (↑z.fst : Int).toNat) (KK.dflt Kd.cell)).hadN, C.int .i64 (rd l (0 + (↑z.fst : Int).toNat) (KK.dflt
 Kd.cell)).hadB]), VV.one (V1.c (C.slc 3 0 l.length none)), i64 (↑z.fst : Int), VV.one (V1.c (C.ptr 3 (0 + (↑z.fst : Int).toNat) 0)), boolv (rd (leftOf l most) (0 + (↑z.fst : Int).toNat) false), VV.any,
 VV.any, VV.any, VV.any, VV.any, VV.any, VV.one (V1.c (C.ptr 7 0 1)), i64 (rd l (0 + (↑z.fst : Int).toNat) (KK.dflt Kd.cell)).what, boolv false, boolv false, VV.tup [], VV.tup [], VV.tup [], boolv false,
 boolv false, VV.one (V1.c (C.ptr 7 0 2)), i64 (rd l (0 + (↑z.fst : Int).toNat) (KK.dflt Kd.cell)).side, boolv false, boolv false, VV.tup [], VV.tup [], VV.tup [], boolv false, boolv false, VV.one (V1.c
 (C.ptr 4 0 0)), VV.one (V1.c (C.slc 5 0 z.snd.items.length none)), i64 (↑z.snd.items.length : Int), i64 ((↑z.snd.items.length : Int) + (1 : Int)), i64 (↑z.fst : Int), VV.one (V1.c (C.ptr 7 0 0)), VV.one
 (V1.c (C.str (rd l (0 + (↑z.fst : Int).toNat) (KK.dflt Kd.cell)).path)), VV.one (V1.c (C.ptr 7 0 1)), i64 (rd l (0 + (↑z.fst : Int).toNat) (KK.dflt Kd.cell)).what, VV.one (V1.c (C.ptr 7 0 2)), i64 (rd
 l (0 + (↑z.fst : Int).toNat) (KK.dflt Kd.cell)).side, VV.one (V1.c (C.int .i64 ((rd l (0 + (↑z.fst : Int).toNat) (KK.dflt Kd.cell)).side - (1 : Int)))), VV.one (V1.c (C.ptr 7 0 2)), i64 (rd l (0 + (↑z.fst
 : Int).toNat) (KK.dflt Kd.cell)).side, VV.one (V1.c (C.int .i64 ((2 : Int) - (rd l (0 + (↑z.fst : Int).toNat) (KK.dflt Kd.cell)).side))), VV.one (V1.agg [C.int .i64 ((↑z.snd.items.length : Int) + (1 :
 Int)), C.int .i64 (↑z.fst : Int), C.str (rd l (0 + (↑z.fst : Int).toNat) (KK.dflt Kd.cell)).path, C.int .i64 (rd l (0 + (↑z.fst : Int).toNat) (KK.dflt Kd.cell)).what, C.int .i64 ((rd l (0 + (↑z.fst : Int).toNat)
 (KK.dflt Kd.cell)).side - (1 : Int)), C.int .i64 ((2 : Int) - (rd l (0 + (↑z.fst : Int).toNat) (KK.dflt Kd.cell)).side), C.int .i64 (0 : Int)]), VV.one (V1.c (C.ptr 7 0 1)), i64 (rd l (0 + (↑z.fst : Int).toNat)
 (KK.dflt Kd.cell)).what, boolv false, VV.any, VV.any, VV.any, VV.one (V1.c (C.ptr 4 0 0)), VV.one (V1.c (C.slc 5 0 z.snd.items.length none)), VV.one (V1.agg [C.int .i64 ((↑z.snd.items.length : Int) + (1
 : Int)), C.int .i64 (↑z.fst : Int), C.str (rd l (0 + (↑z.fst : Int).toNat) (KK.dflt Kd.cell)).path, C.int .i64 (rd l (0 + (↑z.fst : Int).toNat) (KK.dflt Kd.cell)).what, C.int .i64 ((rd l (0 + (↑z.fst :
 Int).toNat) (KK.dflt Kd.cell)).side - (1 : Int)), C.int .i64 ((2 : Int) - (rd l (0 + (↑z.fst : Int).toNat) (KK.dflt Kd.cell)).side), C.int .i64 (0 : Int)]), VV.one (V1.c (C.slc 9 0 1 none)), VV.one (V1.c
 (C.slc 10 0 (z.snd.items.length + 1) none)), VV.one (V1.c (C.ptr 4 0 0)), VV.any, VV.any, VV.any, VV.any, VV.any, VV.any, VV.any, VV.any, VV.any, VV.any, VV.any, VV.any, VV.any, VV.any, VV.any, VV.any,
 VV.any, VV.any, VV.any] [Atom.ro Kd.cell l, Atom.cells 25 [C.slc 0 0 l.length none], Atom.cells 34 [C.nils, C.nils, C.int .i64 (0 : Int), C.int .i64 (0 : Int), C.int .i64 (0 : Int), C.int .i64 (0 : Int)],
 Atom.arr Kd.bool (leftOf l most), Atom.cells 34 [C.slc 10 0 (z.snd.items.length + 1) none, C.slc 6 0 z.snd.left.length none, C.int .i64 (0 : Int), C.int .i64 (0 : Int), C.int .i64 (0 : Int), C.int .i64
 (0 : Int)], Atom.gone, Atom.arr Kd.int z.snd.left, Atom.cells 44 [C.str (rd l (0 + (↑z.fst : Int).toNat) (KK.dflt Kd.cell)).path, C.int .i64 (rd l (0 + (↑z.fst : Int).toNat) (KK.dflt Kd.cell)).what, C.int
 .i64 (rd l (0 + (↑z.fst : Int).toNat) (KK.dflt Kd.cell)).side, C.int .i64 (rd l (0 + (↑z.fst : Int).toNat) (KK.dflt Kd.cell)).mode, C.int .i64 (rd l (0 + (↑z.fst : Int).toNat) (KK.dflt Kd.cell)).keep,
 C.int .i64 (rd l (0 + (↑z.fst : Int).toNat) (KK.dflt Kd.cell)).take, C.int .i64 (rd l (0 + (↑z.fst : Int).toNat) (KK.dflt Kd.cell)).names, C.int .i64 (rd l (0 + (↑z.fst : Int).toNat) (KK.dflt Kd.cell)).bytes,
 C.int .i64 (rd l (0 + (↑z.fst : Int).toNat) (KK.dflt Kd.cell)).hadN, C.int .i64 (rd l (0 + (↑z.fst : Int).toNat) (KK.dflt Kd.cell)).hadB], Atom.cells 42 [C.int .i64 ((↑z.snd.items.length : Int) + (1 :
 Int)), C.int .i64 (↑z.fst : Int), C.str (rd l (0 + (↑z.fst : Int).toNat) (KK.dflt Kd.cell)).path, C.int .i64 (rd l (0 + (↑z.fst : Int).toNat) (KK.dflt Kd.cell)).what, C.int .i64 ((rd l (0 + (↑z.fst : Int).toNat)
 (KK.dflt Kd.cell)).side - (1 : Int)), C.int .i64 ((2 : Int) - (rd l (0 + (↑z.fst : Int).toNat) (KK.dflt Kd.cell)).side), C.int .i64 (0 : Int)], Atom.arr Kd.item [(Item.mk ((↑z.snd.items.length : Int) +
 (1 : Int)) ((↑z.fst : Int)) ((rd l (0 + (↑z.fst : Int).toNat) (KK.dflt Kd.cell)).path) ((rd l (0 + (↑z.fst : Int).toNat) (KK.dflt Kd.cell)).what) ((rd l (0 + (↑z.fst : Int).toNat) (KK.dflt Kd.cell)).side
 - (1 : Int)) ((2 : Int) - (rd l (0 + (↑z.fst : Int).toNat) (KK.dflt Kd.cell)).side) ((0 : Int)))], Atom.arr Kd.item (z.snd.items ++ [(Item.mk ((↑z.snd.items.length : Int) + (1 : Int)) ((↑z.fst : Int))
 ((rd l (0 + (↑z.fst : Int).toNat) (KK.dflt Kd.cell)).path) ((rd l (0 + (↑z.fst : Int).toNat) (KK.dflt Kd.cell)).what) ((rd l (0 + (↑z.fst : Int).toNat) (KK.dflt Kd.cell)).side - (1 : Int)) ((2 : Int) -
 (rd l (0 + (↑z.fst : Int).toNat) (KK.dflt Kd.cell)).side) ((0 : Int)))])])) (ite2 (decide ((rd l (0 + (↑z.fst : Int).toNat) (KK.dflt Kd.cell)).side = (2 : Int))) (i64ok ((↑z.snd.items.length : Int) + (1
 : Int)) ∧ i64ok ((rd l (0 + (↑z.fst : Int).toNat) (KK.dflt Kd.cell)).side - (1 : Int)) ∧ i64ok ((2 : Int) - (rd l (0 + (↑z.fst : Int).toNat) (KK.dflt Kd.cell)).side) ∧ ite2 (decide ((rd l (0 + (↑z.fst
 : Int).toNat) (KK.dflt Kd.cell)).what = (2 : Int))) (z.snd.items.length = z.snd.items.length ∧ (1 ≤ 1 ∧ True) ∧ (z.snd.items.length + 1) * 64 ≤ 140737488355328 ∧ i64ok ((↑z.fst : Int) + (1 : Int)) ∧ Enter
 1 (inv_rof4 l most) (fun (z' : Nat × PS) => l.length - z'.fst < l.length - z.fst) [VV.any, i64 most, VV.one (V1.c (C.ptr 1 0 0)), VV.any, VV.one (V1.c (C.ptr 2 0 0)), VV.one (V1.c (C.slc 3 0 l.length none)),
 VV.one (V1.c (C.ptr 4 0 0)), i64 ((↑z.fst : Int) + (1 : Int)), VV.one (V1.c (C.ptr 7 0 0)), VV.one (V1.c (C.ptr 8 0 0)), VV.any, VV.any, VV.any, VV.any, VV.any, i64 (↑z.fst : Int), VV.one (V1.c (C.ptr
 1 0 0)), VV.one (V1.c (C.slc 0 0 l.length none)), i64 (↑l.length : Int), boolv true, i64 (↑z.fst : Int), i64 ((↑z.fst : Int) + (1 : Int)), VV.one (V1.c (C.ptr 1 0 0)), VV.one (V1.c (C.slc 0 0 l.length
 none)), i64 (↑z.fst : Int), VV.one (V1.c (C.ptr 0 (0 + (↑z.fst : Int).toNat) 0)), VV.one (V1.agg [C.str (rd l (0 + (↑z.fst : Int).toNat) (KK.dflt Kd.cell)).path, C.int .i64 (rd l (0 + (↑z.fst : Int).toNat)
 (KK.dflt Kd.cell)).what, C.int .i64 (rd l (0 + (↑z.fst : Int).toNat) (KK.dflt Kd.cell)).side, C.int .i64 (rd l (0 + (↑z.fst : Int).toNat) (KK.dflt Kd.cell)).mode, C.int .i64 (rd l (0 + (↑z.fst : Int).toNat)
 (KK.dflt Kd.cell)).keep, C.int .i64 (rd l (0 + (↑z.fst : Int).toNat) (KK.dflt Kd.cell)).take, C.int .i64 (rd l (0 + (↑z.fst : Int).toNat) (KK.dflt Kd.cell)).names, C.int .i64 (rd l (0 + (↑z.fst : Int).toNat)
 (KK.dflt Kd.cell)).bytes, C.int .i64 (rd l (0 + (↑z.fst : Int).toNat) (KK.dflt Kd.cell)).hadN, C.int .i64 (rd l (0 + (↑z.fst : Int).toNat) (KK.dflt Kd.cell)).hadB]), VV.one (V1.c (C.slc 3 0 l.length none)),
 i64 (↑z.fst : Int), VV.one (V1.c (C.ptr 3 (0 + (↑z.fst : Int).toNat) 0)), boolv (rd (leftOf l most) (0 + (↑z.fst : Int).toNat) false), VV.any, VV.any, VV.any, VV.any, VV.any, VV.any, VV.one (V1.c (C.ptr
 7 0 1)), VV.one (V1.c (C.int .i64 (rd l (0 + (↑z.fst : Int).toNat) (KK.dflt Kd.cell)).what)), boolv false, boolv false, VV.tup [], VV.tup [], VV.tup [], boolv false, boolv false, VV.one (V1.c (C.ptr 7
 0 2)), VV.one (V1.c (C.int .i64 (rd l (0 + (↑z.fst : Int).toNat) (KK.dflt Kd.cell)).side)), boolv true, boolv true, VV.one (V1.c (C.ptr 7 0 2)), VV.one (V1.c (C.int .i64 (rd l (0 + (↑z.fst : Int).toNat)
 (KK.dflt Kd.cell)).side)), boolv false, boolv false, boolv false, VV.one (V1.c (C.ptr 4 0 0)), VV.one (V1.c (C.slc 5 0 z.snd.items.length none)), i64 (↑z.snd.items.length : Int), i64 ((↑z.snd.items.length
 : Int) + (1 : Int)), i64 (↑z.fst : Int), VV.one (V1.c (C.ptr 7 0 0)), VV.one (V1.c (C.str (rd l (0 + (↑z.fst : Int).toNat) (KK.dflt Kd.cell)).path)), VV.one (V1.c (C.ptr 7 0 1)), VV.one (V1.c (C.int .i64
 (rd l (0 + (↑z.fst : Int).toNat) (KK.dflt Kd.cell)).what)), VV.one (V1.c (C.ptr 7 0 2)), VV.one (V1.c (C.int .i64 (rd l (0 + (↑z.fst : Int).toNat) (KK.dflt Kd.cell)).side)), VV.one (V1.c (C.int .i64 ((rd
 l (0 + (↑z.fst : Int).toNat) (KK.dflt Kd.cell)).side - (1 : Int)))), VV.one (V1.c (C.ptr 7 0 2)), VV.one (V1.c (C.int .i64 (rd l (0 + (↑z.fst : Int).toNat) (KK.dflt Kd.cell)).side)), VV.one (V1.c (C.int
 .i64 ((2 : Int) - (rd l (0 + (↑z.fst : Int).toNat) (KK.dflt Kd.cell)).side))), VV.one (V1.agg [C.int .i64 ((↑z.snd.items.length : Int) + (1 : Int)), C.int .i64 (↑z.fst : Int), C.str (rd l (0 + (↑z.fst
 : Int).toNat) (KK.dflt Kd.cell)).path, C.int .i64 (rd l (0 + (↑z.fst : Int).toNat) (KK.dflt Kd.cell)).what, C.int .i64 ((rd l (0 + (↑z.fst : Int).toNat) (KK.dflt Kd.cell)).side - (1 : Int)), C.int .i64
 ((2 : Int) - (rd l (0 + (↑z.fst : Int).toNat) (KK.dflt Kd.cell)).side), C.int .i64 (0 : Int)]), VV.one (V1.c (C.ptr 7 0 1)), VV.one (V1.c (C.int .i64 (rd l (0 + (↑z.fst : Int).toNat) (KK.dflt Kd.cell)).what)),
 boolv true, VV.one (V1.c (C.ptr 7 0 3)), VV.one (V1.c (C.int .i64 (rd l (0 + (↑z.fst : Int).toNat) (KK.dflt Kd.cell)).mode)), VV.one (V1.c (C.ptr 8 0 6)), VV.one (V1.c (C.ptr 4 0 0)), VV.one (V1.c (C.slc
 5 0 z.snd.items.length none)), VV.one (V1.agg [C.int .i64 ((↑z.snd.items.length : Int) + (1 : Int)), C.int .i64 (↑z.fst : Int), C.str (rd l (0 + (↑z.fst : Int).toNat) (KK.dflt Kd.cell)).path, C.int .i64
 (rd l (0 + (↑z.fst : Int).toNat) (KK.dflt Kd.cell)).what, C.int .i64 ((rd l (0 + (↑z.fst : Int).toNat) (KK.dflt Kd.cell)).side - (1 : Int)), C.int .i64 ((2 : Int) - (rd l (0 + (↑z.fst : Int).toNat) (KK.dflt
 Kd.cell)).side), C.int .i64 (rd l (0 + (↑z.fst : Int).toNat) (KK.dflt Kd.cell)).mode]), VV.one (V1.c (C.slc 9 0 1 none)), VV.one (V1.c (C.slc 10 0 (z.snd.items.length + 1) none)), VV.one (V1.c (C.ptr 4
 0 0)), VV.any, VV.any, VV.any, VV.any, VV.any, VV.any, VV.any, VV.any, VV.any, VV.any, VV.any, VV.any, VV.any, VV.any, VV.any, VV.any, VV.any, VV.any, VV.any] [Atom.ro Kd.cell l, Atom.cells 25 [C.slc 0
 0 l.length none], Atom.cells 34 [C.nils, C.nils, C.int .i64 (0 : Int), C.int .i64 (0 : Int), C.int .i64 (0 : Int), C.int .i64 (0 : Int)], Atom.arr Kd.bool (leftOf l most), Atom.cells 34 [C.slc 10 0 (z.snd.items.length
 + 1) none, C.slc 6 0 z.snd.left.length none, C.int .i64 (0 : Int), C.int .i64 (0 : Int), C.int .i64 (0 : Int), C.int .i64 (0 : Int)], Atom.gone, Atom.arr Kd.int z.snd.left, Atom.cells 44 [C.str (rd l (0
 + (↑z.fst : Int).toNat) (KK.dflt Kd.cell)).path, C.int .i64 (rd l (0 + (↑z.fst : Int).toNat) (KK.dflt Kd.cell)).what, C.int .i64 (rd l (0 + (↑z.fst : Int).toNat) (KK.dflt Kd.cell)).side, C.int .i64 (rd
 l (0 + (↑z.fst : Int).toNat) (KK.dflt Kd.cell)).mode, C.int .i64 (rd l (0 + (↑z.fst : Int).toNat) (KK.dflt Kd.cell)).keep, C.int .i64 (rd l (0 + (↑z.fst : Int).toNat) (KK.dflt Kd.cell)).take, C.int .i64
 (rd l (0 + (↑z.fst : Int).toNat) (KK.dflt Kd.cell)).names, C.int .i64 (rd l (0 + (↑z.fst : Int).toNat) (KK.dflt Kd.cell)).bytes, C.int .i64 (rd l (0 + (↑z.fst : Int).toNat) (KK.dflt Kd.cell)).hadN, C.int
 .i64 (rd l (0 + (↑z.fst : Int).toNat) (KK.dflt Kd.cell)).hadB], Atom.cells 42 [C.int .i64 ((↑z.snd.items.length : Int) + (1 : Int)), C.int .i64 (↑z.fst : Int), C.str (rd l (0 + (↑z.fst : Int).toNat) (KK.dflt
 Kd.cell)).path, C.int .i64 (rd l (0 + (↑z.fst : Int).toNat) (KK.dflt Kd.cell)).what, C.int .i64 ((rd l (0 + (↑z.fst : Int).toNat) (KK.dflt Kd.cell)).side - (1 : Int)), C.int .i64 ((2 : Int) - (rd l (0
 + (↑z.fst : Int).toNat) (KK.dflt Kd.cell)).side), C.int .i64 (rd l (0 + (↑z.fst : Int).toNat) (KK.dflt Kd.cell)).mode], Atom.arr Kd.item [(Item.mk ((↑z.snd.items.length : Int) + (1 : Int)) ((↑z.fst : Int))
 ((rd l (0 + (↑z.fst : Int).toNat) (KK.dflt Kd.cell)).path) ((rd l (0 + (↑z.fst : Int).toNat) (KK.dflt Kd.cell)).what) ((rd l (0 + (↑z.fst : Int).toNat) (KK.dflt Kd.cell)).side - (1 : Int)) ((2 : Int) -
 (rd l (0 + (↑z.fst : Int).toNat) (KK.dflt Kd.cell)).side) ((rd l (0 + (↑z.fst : Int).toNat) (KK.dflt Kd.cell)).mode))], Atom.arr Kd.item (z.snd.items ++ [(Item.mk ((↑z.snd.items.length : Int) + (1 : Int))
 ((↑z.fst : Int)) ((rd l (0 + (↑z.fst : Int).toNat) (KK.dflt Kd.cell)).path) ((rd l (0 + (↑z.fst : Int).toNat) (KK.dflt Kd.cell)).what) ((rd l (0 + (↑z.fst : Int).toNat) (KK.dflt Kd.cell)).side - (1 : Int))
 ((2 : Int) - (rd l (0 + (↑z.fst : Int).toNat) (KK.dflt Kd.cell)).side) ((rd l (0 + (↑z.fst : Int).toNat) (KK.dflt Kd.cell)).mode))])]) (z.snd.items.length = z.snd.items.length ∧ (1 ≤ 1 ∧ True) ∧ (z.snd.items.length
 + 1) * 64 ≤ 140737488355328 ∧ i64ok ((↑z.fst : Int) + (1 : Int)) ∧ Enter 1 (inv_rof4 l most) (fun (z' : Nat × PS) => l.length - z'.fst < l.length - z.fst) [VV.any, i64 most, VV.one (V1.c (C.ptr 1 0 0)),
 VV.any, VV.one (V1.c (C.ptr 2 0 0)), VV.one (V1.c (C.slc 3 0 l.length none)), VV.one (V1.c (C.ptr 4 0 0)), i64 ((↑z.fst : Int) + (1 : Int)), VV.one (V1.c (C.ptr 7 0 0)), VV.one (V1.c (C.ptr 8 0 0)), VV.any,
 VV.any, VV.any, VV.any, VV.any, i64 (↑z.fst : Int), VV.one (V1.c (C.ptr 1 0 0)), VV.one (V1.c (C.slc 0 0 l.length none)), i64 (↑l.length : Int), boolv true, i64 (↑z.fst : Int), i64 ((↑z.fst : Int) + (1
 : Int)), VV.one (V1.c (C.ptr 1 0 0)), VV.one (V1.c (C.slc 0 0 l.length none)), i64 (↑z.fst : Int), VV.one (V1.c (C.ptr 0 (0 + (↑z.fst : Int).toNat) 0)), VV.one (V1.agg [C.str (rd l (0 + (↑z.fst : Int).toNat)
 (KK.dflt Kd.cell)).path, C.int .i64 (rd l (0 + (↑z.fst : Int).toNat) (KK.dflt Kd.cell)).what, C.int .i64 (rd l (0 + (↑z.fst : Int).toNat) (KK.dflt Kd.cell)).side, C.int .i64 (rd l (0 + (↑z.fst : Int).toNat)
 (KK.dflt Kd.cell)).mode, C.int .i64 (rd l (0 + (↑z.fst : Int).toNat) (KK.dflt Kd.cell)).keep, C.int .i64 (rd l (0 + (↑z.fst : Int).toNat) (KK.dflt Kd.cell)).take, C.int .i64 (rd l (0 + (↑z.fst : Int).toNat)
 (KK.dflt Kd.cell)).names, C.int .i64 (rd l (0 + (↑z.fst : Int).toNat) (KK.dflt Kd.cell)).bytes, C.int .i64 (rd l (0 + (↑z.fst : Int).toNat) (KK.dflt Kd.cell)).hadN, C.int .i64 (rd l (0 + (↑z.fst : Int).toNat)
 (KK.dflt Kd.cell)).hadB]), VV.one (V1.c (C.slc 3 0 l.length none)), i64 (↑z.fst : Int), VV.one (V1.c (C.ptr 3 (0 + (↑z.fst : Int).toNat) 0)), boolv (rd (leftOf l most) (0 + (↑z.fst : Int).toNat) false),
 VV.any, VV.any, VV.any, VV.any, VV.any, VV.any, VV.one (V1.c (C.ptr 7 0 1)), VV.one (V1.c (C.int .i64 (rd l (0 + (↑z.fst : Int).toNat) (KK.dflt Kd.cell)).what)), boolv false, boolv false, VV.tup [], VV.tup
 [], VV.tup [], boolv false, boolv false, VV.one (V1.c (C.ptr 7 0 2)), VV.one (V1.c (C.int .i64 (rd l (0 + (↑z.fst : Int).toNat) (KK.dflt Kd.cell)).side)), boolv true, boolv true, VV.one (V1.c (C.ptr 7
 0 2)), VV.one (V1.c (C.int .i64 (rd l (0 + (↑z.fst : Int).toNat) (KK.dflt Kd.cell)).side)), boolv false, boolv false, boolv false, VV.one (V1.c (C.ptr 4 0 0)), VV.one (V1.c (C.slc 5 0 z.snd.items.length
 none)), i64 (↑z.snd.items.length : Int), i64 ((↑z.snd.items.length : Int) + (1 : Int)), i64 (↑z.fst : Int), VV.one (V1.c (C.ptr 7 0 0)), VV.one (V1.c (C.str (rd l (0 + (↑z.fst : Int).toNat) (KK.dflt Kd.cell)).path)),
 VV.one (V1.c (C.ptr 7 0 1)), VV.one (V1.c (C.int .i64 (rd l (0 + (↑z.fst : Int).toNat) (KK.dflt Kd.cell)).what)), VV.one (V1.c (C.ptr 7 0 2)), VV.one (V1.c (C.int .i64 (rd l (0 + (↑z.fst : Int).toNat)
 (KK.dflt Kd.cell)).side)), VV.one (V1.c (C.int .i64 ((rd l (0 + (↑z.fst : Int).toNat) (KK.dflt Kd.cell)).side - (1 : Int)))), VV.one (V1.c (C.ptr 7 0 2)), VV.one (V1.c (C.int .i64 (rd l (0 + (↑z.fst :
 Int).toNat) (KK.dflt Kd.cell)).side)), VV.one (V1.c (C.int .i64 ((2 : Int) - (rd l (0 + (↑z.fst : Int).toNat) (KK.dflt Kd.cell)).side))), VV.one (V1.agg [C.int .i64 ((↑z.snd.items.length : Int) + (1 :
 Int)), C.int .i64 (↑z.fst : Int), C.str (rd l (0 + (↑z.fst : Int).toNat) (KK.dflt Kd.cell)).path, C.int .i64 (rd l (0 + (↑z.fst : Int).toNat) (KK.dflt Kd.cell)).what, C.int .i64 ((rd l (0 + (↑z.fst : Int).toNat)
 (KK.dflt Kd.cell)).side - (1 : Int)), C.int .i64 ((2 : Int) - (rd l (0 + (↑z.fst : Int).toNat) (KK.dflt Kd.cell)).side), C.int .i64 (0 : Int)]), VV.one (V1.c (C.ptr 7 0 1)), VV.one (V1.c (C.int .i64 (rd
 l (0 + (↑z.fst : Int).toNat) (KK.dflt Kd.cell)).what)), boolv false, VV.any, VV.any, VV.any, VV.one (V1.c (C.ptr 4 0 0)), VV.one (V1.c (C.slc 5 0 z.snd.items.length none)), VV.one (V1.agg [C.int .i64 ((↑z.snd.items.length
 : Int) + (1 : Int)), C.int .i64 (↑z.fst : Int), C.str (rd l (0 + (↑z.fst : Int).toNat) (KK.dflt Kd.cell)).path, C.int .i64 (rd l (0 + (↑z.fst : Int).toNat) (KK.dflt Kd.cell)).what, C.int .i64 ((rd l (0
 + (↑z.fst : Int).toNat) (KK.dflt Kd.cell)).side - (1 : Int)), C.int .i64 ((2 : Int) - (rd l (0 + (↑z.fst : Int).toNat) (KK.dflt Kd.cell)).side), C.int .i64 (0 : Int)]), VV.one (V1.c (C.slc 9 0 1 none)),
 VV.one (V1.c (C.slc 10 0 (z.snd.items.length + 1) none)), VV.one (V1.c (C.ptr 4 0 0)), VV.any, VV.any, VV.any, VV.any, VV.any, VV.any, VV.any, VV.any, VV.any, VV.any, VV.any, VV.any, VV.any, VV.any, VV.any,
 VV.any, VV.any, VV.any, VV.any] [Atom.ro Kd.cell l, Atom.cells 25 [C.slc 0 0 l.length none], Atom.cells 34 [C.nils, C.nils, C.int .i64 (0 : Int), C.int .i64 (0 : Int), C.int .i64 (0 : Int), C.int .i64
 (0 : Int)], Atom.arr Kd.bool (leftOf l most), Atom.cells 34 [C.slc 10 0 (z.snd.items.length + 1) none, C.slc 6 0 z.snd.left.length none, C.int .i64 (0 : Int), C.int .i64 (0 : Int), C.int .i64 (0 : Int),
 C.int .i64 (0 : Int)], Atom.gone, Atom.arr Kd.int z.snd.left, Atom.cells 44 [C.str (rd l (0 + (↑z.fst : Int).toNat) (KK.dflt Kd.cell)).path, C.int .i64 (rd l (0 + (↑z.fst : Int).toNat) (KK.dflt Kd.cell)).what,
 C.int .i64 (rd l (0 + (↑z.fst : Int).toNat) (KK.dflt Kd.cell)).side, C.int .i64 (rd l (0 + (↑z.fst : Int).toNat) (KK.dflt Kd.cell)).mode, C.int .i64 (rd l (0 + (↑z.fst : Int).toNat) (KK.dflt Kd.cell)).keep,
 C.int .i64 (rd l (0 + (↑z.fst : Int).toNat) (KK.dflt Kd.cell)).take, C.int .i64 (rd l (0 + (↑z.fst : Int).toNat) (KK.dflt Kd.cell)).names, C.int .i64 (rd l (0 + (↑z.fst : Int).toNat) (KK.dflt Kd.cell)).bytes,
 C.int .i64 (rd l (0 + (↑z.fst : Int).toNat) (KK.dflt Kd.cell)).hadN, C.int .i64 (rd l (0 + (↑z.fst : Int).toNat) (KK.dflt Kd.cell)).hadB], Atom.cells 42 [C.int .i64 ((↑z.snd.items.length : Int) + (1 :
 Int)), C.int .i64 (↑z.fst : Int), C.str (rd l (0 + (↑z.fst : Int).toNat) (KK.dflt Kd.cell)).path, C.int .i64 (rd l (0 + (↑z.fst : Int).toNat) (KK.dflt Kd.cell)).what, C.int .i64 ((rd l (0 + (↑z.fst : Int).toNat)
 (KK.dflt Kd.cell)).side - (1 : Int)), C.int .i64 ((2 : Int) - (rd l (0 + (↑z.fst : Int).toNat) (KK.dflt Kd.cell)).side), C.int .i64 (0 : Int)], Atom.arr Kd.item [(Item.mk ((↑z.snd.items.length : Int) +
 (1 : Int)) ((↑z.fst : Int)) ((rd l (0 + (↑z.fst : Int).toNat) (KK.dflt Kd.cell)).path) ((rd l (0 + (↑z.fst : Int).toNat) (KK.dflt Kd.cell)).what) ((rd l (0 + (↑z.fst : Int).toNat) (KK.dflt Kd.cell)).side
 - (1 : Int)) ((2 : Int) - (rd l (0 + (↑z.fst : Int).toNat) (KK.dflt Kd.cell)).side) ((0 : Int)))], Atom.arr Kd.item (z.snd.items ++ [(Item.mk ((↑z.snd.items.length : Int) + (1 : Int)) ((↑z.fst : Int))
 ((rd l (0 + (↑z.fst : Int).toNat) (KK.dflt Kd.cell)).path) ((rd l (0 + (↑z.fst : Int).toNat) (KK.dflt Kd.cell)).what) ((rd l (0 + (↑z.fst : Int).toNat) (KK.dflt Kd.cell)).side - (1 : Int)) ((2 : Int) -
 (rd l (0 + (↑z.fst : Int).toNat) (KK.dflt Kd.cell)).side) ((0 : Int)))])])) (i64ok ((↑z.fst : Int) + (1 : Int)) ∧ Enter 1 (inv_rof4 l most) (fun (z' : Nat × PS) => l.length - z'.fst < l.length - z.fst)
 [VV.any, i64 most, VV.one (V1.c (C.ptr 1 0 0)), VV.any, VV.one (V1.c (C.ptr 2 0 0)), VV.one (V1.c (C.slc 3 0 l.length none)), VV.one (V1.c (C.ptr 4 0 0)), i64 ((↑z.fst : Int) + (1 : Int)), VV.one (V1.c
 (C.ptr 7 0 0)), VV.any, VV.any, VV.any, VV.any, VV.any, VV.any, i64 (↑z.fst : Int), VV.one (V1.c (C.ptr 1 0 0)), VV.one (V1.c (C.slc 0 0 l.length none)), i64 (↑l.length : Int), boolv true, i64 (↑z.fst
 : Int), i64 ((↑z.fst : Int) + (1 : Int)), VV.one (V1.c (C.ptr 1 0 0)), VV.one (V1.c (C.slc 0 0 l.length none)), i64 (↑z.fst : Int), VV.one (V1.c (C.ptr 0 (0 + (↑z.fst : Int).toNat) 0)), VV.one (V1.agg
 [C.str (rd l (0 + (↑z.fst : Int).toNat) (KK.dflt Kd.cell)).path, C.int .i64 (rd l (0 + (↑z.fst : Int).toNat) (KK.dflt Kd.cell)).what, C.int .i64 (rd l (0 + (↑z.fst : Int).toNat) (KK.dflt Kd.cell)).side,
 C.int .i64 (rd l (0 + (↑z.fst : Int).toNat) (KK.dflt Kd.cell)).mode, C.int .i64 (rd l (0 + (↑z.fst : Int).toNat) (KK.dflt Kd.cell)).keep, C.int .i64 (rd l (0 + (↑z.fst : Int).toNat) (KK.dflt Kd.cell)).take,
 C.int .i64 (rd l (0 + (↑z.fst : Int).toNat) (KK.dflt Kd.cell)).names, C.int .i64 (rd l (0 + (↑z.fst : Int).toNat) (KK.dflt Kd.cell)).bytes, C.int .i64 (rd l (0 + (↑z.fst : Int).toNat) (KK.dflt Kd.cell)).hadN,
 C.int .i64 (rd l (0 + (↑z.fst : Int).toNat) (KK.dflt Kd.cell)).hadB]), VV.one (V1.c (C.slc 3 0 l.length none)), i64 (↑z.fst : Int), VV.one (V1.c (C.ptr 3 (0 + (↑z.fst : Int).toNat) 0)), boolv (rd (leftOf
 l most) (0 + (↑z.fst : Int).toNat) false), VV.any, VV.any, VV.any, VV.any, VV.any, VV.any, VV.one (V1.c (C.ptr 7 0 1)), i64 (rd l (0 + (↑z.fst : Int).toNat) (KK.dflt Kd.cell)).what, boolv false, boolv
 false, VV.tup [], VV.tup [], VV.tup [], boolv false, boolv false, VV.one (V1.c (C.ptr 7 0 2)), i64 (rd l (0 + (↑z.fst : Int).toNat) (KK.dflt Kd.cell)).side, boolv true, boolv true, VV.one (V1.c (C.ptr
 7 0 2)), i64 (rd l (0 + (↑z.fst : Int).toNat) (KK.dflt Kd.cell)).side, boolv true, boolv true, boolv true, VV.any, VV.any, VV.any, VV.any, VV.any, VV.any, VV.any, VV.any, VV.any, VV.any, VV.any, VV.any,
 VV.any, VV.any, VV.any, VV.any, VV.any, VV.any, VV.any, VV.any, VV.any, VV.any, VV.any, VV.any, VV.any, VV.any, VV.any, VV.any, VV.any, VV.any, VV.any, VV.any, VV.any, VV.any, VV.any, VV.any, VV.any, VV.any,
 VV.any, VV.any, VV.any, VV.any, VV.any, VV.any, VV.any, VV.any, VV.any] [Atom.ro Kd.cell l, Atom.cells 25 [C.slc 0 0 l.length none], Atom.cells 34 [C.nils, C.nils, C.int .i64 (0 : Int), C.int .i64 (0 :
 Int), C.int .i64 (0 : Int), C.int .i64 (0 : Int)], Atom.arr Kd.bool (leftOf l most), Atom.cells 34 [C.slc 5 0 z.snd.items.length none, C.slc 6 0 z.snd.left.length none, C.int .i64 (0 : Int), C.int .i64
 (0 : Int), C.int .i64 (0 : Int), C.int .i64 (0 : Int)], Atom.arr Kd.item z.snd.items, Atom.arr Kd.int z.snd.left, Atom.cells 44 [C.str (rd l (0 + (↑z.fst : Int).toNat) (KK.dflt Kd.cell)).path, C.int .i64
 (rd l (0 + (↑z.fst : Int).toNat) (KK.dflt Kd.cell)).what, C.int .i64 (rd l (0 + (↑z.fst : Int).toNat) (KK.dflt Kd.cell)).side, C.int .i64 (rd l (0 + (↑z.fst : Int).toNat) (KK.dflt Kd.cell)).mode, C.int
 .i64 (rd l (0 + (↑z.fst : Int).toNat) (KK.dflt Kd.cell)).keep, C.int .i64 (rd l (0 + (↑z.fst : Int).toNat) (KK.dflt Kd.cell)).take, C.int .i64 (rd l (0 + (↑z.fst : Int).toNat) (KK.dflt Kd.cell)).names,
 C.int .i64 (rd l (0 + (↑z.fst : Int).toNat) (KK.dflt Kd.cell)).bytes, C.int .i64 (rd l (0 + (↑z.fst : Int).toNat) (KK.dflt Kd.cell)).hadN, C.int .i64 (rd l (0 + (↑z.fst : Int).toNat) (KK.dflt Kd.cell)).hadB]])))
 (ite2 (decide ((rd l (0 + (↑z.fst : Int).toNat) (KK.dflt Kd.cell)).what = (2 : Int))) (ite2 (decide ((rd l (0 + (↑z.fst : Int).toNat) (KK.dflt Kd.cell)).side = (1 : Int))) (i64ok ((↑z.snd.items.length
 : Int) + (1 : Int)) ∧ i64ok ((rd l (0 + (↑z.fst : Int).toNat) (KK.dflt Kd.cell)).side - (1 : Int)) ∧ i64ok ((2 : Int) - (rd l (0 + (↑z.fst : Int).toNat) (KK.dflt Kd.cell)).side) ∧ ite2 (decide ((rd l (0
 + (↑z.fst : Int).toNat) (KK.dflt Kd.cell)).what = (2 : Int))) (z.snd.items.length = z.snd.items.length ∧ (1 ≤ 1 ∧ True) ∧ (z.snd.items.length + 1) * 64 ≤ 140737488355328 ∧ i64ok ((↑z.fst : Int) + (1 :
 Int)) ∧ Enter 1 (inv_rof4 l most) (fun (z' : Nat × PS) => l.length - z'.fst < l.length - z.fst) [VV.any, i64 most, VV.one (V1.c (C.ptr 1 0 0)), VV.any, VV.one (V1.c (C.ptr 2 0 0)), VV.one (V1.c (C.slc
 3 0 l.length none)), VV.one (V1.c (C.ptr 4 0 0)), i64 ((↑z.fst : Int) + (1 : Int)), VV.one (V1.c (C.ptr 7 0 0)), VV.one (V1.c (C.ptr 8 0 0)), VV.any, VV.any, VV.any, VV.any, VV.any, i64 (↑z.fst : Int),
 VV.one (V1.c (C.ptr 1 0 0)), VV.one (V1.c (C.slc 0 0 l.length none)), i64 (↑l.length : Int), boolv true, i64 (↑z.fst : Int), i64 ((↑z.fst : Int) + (1 : Int)), VV.one (V1.c (C.ptr 1 0 0)), VV.one (V1.c
 (C.slc 0 0 l.length none)), i64 (↑z.fst : Int), VV.one (V1.c (C.ptr 0 (0 + (↑z.fst : Int).toNat) 0)), VV.one (V1.agg [C.str (rd l (0 + (↑z.fst : Int).toNat) (KK.dflt Kd.cell)).path, C.int .i64 (rd l (0
 + (↑z.fst : Int).toNat) (KK.dflt Kd.cell)).what, C.int .i64 (rd l (0 + (↑z.fst : Int).toNat) (KK.dflt Kd.cell)).side, C.int .i64 (rd l (0 + (↑z.fst : Int).toNat) (KK.dflt Kd.cell)).mode, C.int .i64 (rd
 l (0 + (↑z.fst : Int).toNat) (KK.dflt Kd.cell)).keep, C.int .i64 (rd l (0 + (↑z.fst : Int).toNat) (KK.dflt Kd.cell)).take, C.int .i64 (rd l (0 + (↑z.fst : Int).toNat) (KK.dflt Kd.cell)).names, C.int .i64
 (rd l (0 + (↑z.fst : Int).toNat) (KK.dflt Kd.cell)).bytes, C.int .i64 (rd l (0 + (↑z.fst : Int).toNat) (KK.dflt Kd.cell)).hadN, C.int .i64 (rd l (0 + (↑z.fst : Int).toNat) (KK.dflt Kd.cell)).hadB]), VV.one
 (V1.c (C.slc 3 0 l.length none)), i64 (↑z.fst : Int), VV.one (V1.c (C.ptr 3 (0 + (↑z.fst : Int).toNat) 0)), boolv (rd (leftOf l most) (0 + (↑z.fst : Int).toNat) false), VV.any, VV.any, VV.any, VV.any,
 VV.any, VV.any, VV.one (V1.c (C.ptr 7 0 1)), VV.one (V1.c (C.int .i64 (rd l (0 + (↑z.fst : Int).toNat) (KK.dflt Kd.cell)).what)), boolv true, boolv true, VV.one (V1.c (C.ptr 7 0 1)), VV.one (V1.c (C.int
 .i64 (rd l (0 + (↑z.fst : Int).toNat) (KK.dflt Kd.cell)).what)), boolv false, boolv false, boolv false, VV.one (V1.c (C.ptr 7 0 2)), VV.one (V1.c (C.int .i64 (rd l (0 + (↑z.fst : Int).toNat) (KK.dflt Kd.cell)).side)),
 boolv false, boolv false, VV.tup [], VV.tup [], VV.tup [], boolv false, boolv false, VV.one (V1.c (C.ptr 4 0 0)), VV.one (V1.c (C.slc 5 0 z.snd.items.length none)), i64 (↑z.snd.items.length : Int), i64
 ((↑z.snd.items.length : Int) + (1 : Int)), i64 (↑z.fst : Int), VV.one (V1.c (C.ptr 7 0 0)), VV.one (V1.c (C.str (rd l (0 + (↑z.fst : Int).toNat) (KK.dflt Kd.cell)).path)), VV.one (V1.c (C.ptr 7 0 1)),
 VV.one (V1.c (C.int .i64 (rd l (0 + (↑z.fst : Int).toNat) (KK.dflt Kd.cell)).what)), VV.one (V1.c (C.ptr 7 0 2)), VV.one (V1.c (C.int .i64 (rd l (0 + (↑z.fst : Int).toNat) (KK.dflt Kd.cell)).side)), VV.one
 (V1.c (C.int .i64 ((rd l (0 + (↑z.fst : Int).toNat) (KK.dflt Kd.cell)).side - (1 : Int)))), VV.one (V1.c (C.ptr 7 0 2)), VV.one (V1.c (C.int .i64 (rd l (0 + (↑z.fst : Int).toNat) (KK.dflt Kd.cell)).side)),
 VV.one (V1.c (C.int .i64 ((2 : Int) - (rd l (0 + (↑z.fst : Int).toNat) (KK.dflt Kd.cell)).side))), VV.one (V1.agg [C.int .i64 ((↑z.snd.items.length : Int) + (1 : Int)), C.int .i64 (↑z.fst : Int), C.str
 (rd l (0 + (↑z.fst : Int).toNat) (KK.dflt Kd.cell)).path, C.int .i64 (rd l (0 + (↑z.fst : Int).toNat) (KK.dflt Kd.cell)).what, C.int .i64 ((rd l (0 + (↑z.fst : Int).toNat) (KK.dflt Kd.cell)).side - (1
 : Int)), C.int .i64 ((2 : Int) - (rd l (0 + (↑z.fst : Int).toNat) (KK.dflt Kd.cell)).side), C.int .i64 (0 : Int)]), VV.one (V1.c (C.ptr 7 0 1)), VV.one (V1.c (C.int .i64 (rd l (0 + (↑z.fst : Int).toNat)
 (KK.dflt Kd.cell)).what)), boolv true, VV.one (V1.c (C.ptr 7 0 3)), VV.one (V1.c (C.int .i64 (rd l (0 + (↑z.fst : Int).toNat) (KK.dflt Kd.cell)).mode)), VV.one (V1.c (C.ptr 8 0 6)), VV.one (V1.c (C.ptr
 4 0 0)), VV.one (V1.c (C.slc 5 0 z.snd.items.length none)), VV.one (V1.agg [C.int .i64 ((↑z.snd.items.length : Int) + (1 : Int)), C.int .i64 (↑z.fst : Int), C.str (rd l (0 + (↑z.fst : Int).toNat) (KK.dflt
 Kd.cell)).path, C.int .i64 (rd l (0 + (↑z.fst : Int).toNat) (KK.dflt Kd.cell)).what, C.int .i64 ((rd l (0 + (↑z.fst : Int).toNat) (KK.dflt Kd.cell)).side - (1 : Int)), C.int .i64 ((2 : Int) - (rd l (0
 + (↑z.fst : Int).toNat) (KK.dflt Kd.cell)).side), C.int .i64 (rd l (0 + (↑z.fst : Int).toNat) (KK.dflt Kd.cell)).mode]), VV.one (V1.c (C.slc 9 0 1 none)), VV.one (V1.c (C.slc 10 0 (z.snd.items.length +
 1) none)), VV.one (V1.c (C.ptr 4 0 0)), VV.any, VV.any, VV.any, VV.any, VV.any, VV.any, VV.any, VV.any, VV.any, VV.any, VV.any, VV.any, VV.any, VV.any, VV.any, VV.any, VV.any, VV.any, VV.any] [Atom.ro
 Kd.cell l, Atom.cells 25 [C.slc 0 0 l.length none], Atom.cells 34 [C.nils, C.nils, C.int .i64 (0 : Int), C.int .i64 (0 : Int), C.int .i64 (0 : Int), C.int .i64 (0 : Int)], Atom.arr Kd.bool (leftOf l most),
 Atom.cells 34 [C.slc 10 0 (z.snd.items.length + 1) none, C.slc 6 0 z.snd.left.length none, C.int .i64 (0 : Int), C.int .i64 (0 : Int), C.int .i64 (0 : Int), C.int .i64 (0 : Int)], Atom.gone, Atom.arr Kd.int
 z.snd.left, Atom.cells 44 [C.str (rd l (0 + (↑z.fst : Int).toNat) (KK.dflt Kd.cell)).path, C.int .i64 (rd l (0 + (↑z.fst : Int).toNat) (KK.dflt Kd.cell)).what, C.int .i64 (rd l (0 + (↑z.fst : Int).toNat)
 (KK.dflt Kd.cell)).side, C.int .i64 (rd l (0 + (↑z.fst : Int).toNat) (KK.dflt Kd.cell)).mode, C.int .i64 (rd l (0 + (↑z.fst : Int).toNat) (KK.dflt Kd.cell)).keep, C.int .i64 (rd l (0 + (↑z.fst : Int).toNat)
 (KK.dflt Kd.cell)).take, C.int .i64 (rd l (0 + (↑z.fst : Int).toNat) (KK.dflt Kd.cell)).names, C.int .i64 (rd l (0 + (↑z.fst : Int).toNat) (KK.dflt Kd.cell)).bytes, C.int .i64 (rd l (0 + (↑z.fst : Int).toNat)
 (KK.dflt Kd.cell)).hadN, C.int .i64 (rd l (0 + (↑z.fst : Int).toNat) (KK.dflt Kd.cell)).hadB], Atom.cells 42 [C.int .i64 ((↑z.snd.items.length : Int) + (1 : Int)), C.int .i64 (↑z.fst : Int), C.str (rd
 l (0 + (↑z.fst : Int).toNat) (KK.dflt Kd.cell)).path, C.int .i64 (rd l (0 + (↑z.fst : Int).toNat) (KK.dflt Kd.cell)).what, C.int .i64 ((rd l (0 + (↑z.fst : Int).toNat) (KK.dflt Kd.cell)).side - (1 : Int)),
 C.int .i64 ((2 : Int) - (rd l (0 + (↑z.fst : Int).toNat) (KK.dflt Kd.cell)).side), C.int .i64 (rd l (0 + (↑z.fst : Int).toNat) (KK.dflt Kd.cell)).mode], Atom.arr Kd.item [(Item.mk ((↑z.snd.items.length
 : Int) + (1 : Int)) ((↑z.fst : Int)) ((rd l (0 + (↑z.fst : Int).toNat) (KK.dflt Kd.cell)).path) ((rd l (0 + (↑z.fst : Int).toNat) (KK.dflt Kd.cell)).what) ((rd l (0 + (↑z.fst : Int).toNat) (KK.dflt Kd.cell)).side
 - (1 : Int)) ((2 : Int) - (rd l (0 + (↑z.fst : Int).toNat) (KK.dflt Kd.cell)).side) ((rd l (0 + (↑z.fst : Int).toNat) (KK.dflt Kd.cell)).mode))], Atom.arr Kd.item (z.snd.items ++ [(Item.mk ((↑z.snd.items.length
 : Int) + (1 : Int)) ((↑z.fst : Int)) ((rd l (0 + (↑z.fst : Int).toNat) (KK.dflt Kd.cell)).path) ((rd l (0 + (↑z.fst : Int).toNat) (KK.dflt Kd.cell)).what) ((rd l (0 + (↑z.fst : Int).toNat) (KK.dflt Kd.cell)).side
 - (1 : Int)) ((2 : Int) - (rd l (0 + (↑z.fst : Int).toNat) (KK.dflt Kd.cell)).side) ((rd l (0 + (↑z.fst : Int).toNat) (KK.dflt Kd.cell)).mode))])]) (z.snd.items.length = z.snd.items.length ∧ (1 ≤ 1 ∧ True)
 ∧ (z.snd.items.length + 1) * 64 ≤ 140737488355328 ∧ i64ok ((↑z.fst : Int) + (1 : Int)) ∧ Enter 1 (inv_rof4 l most) (fun (z' : Nat × PS) => l.length - z'.fst < l.length - z.fst) [VV.any, i64 most, VV.one
 (V1.c (C.ptr 1 0 0)), VV.any, VV.one (V1.c (C.ptr 2 0 0)), VV.one (V1.c (C.slc 3 0 l.length none)), VV.one (V1.c (C.ptr 4 0 0)), i64 ((↑z.fst : Int) + (1 : Int)), VV.one (V1.c (C.ptr 7 0 0)), VV.one (V1.c
 (C.ptr 8 0 0)), VV.any, VV.any, VV.any, VV.any, VV.any, i64 (↑z.fst : Int), VV.one (V1.c (C.ptr 1 0 0)), VV.one (V1.c (C.slc 0 0 l.length none)), i64 (↑l.length : Int), boolv true, i64 (↑z.fst : Int),
 i64 ((↑z.fst : Int) + (1 : Int)), VV.one (V1.c (C.ptr 1 0 0)), VV.one (V1.c (C.slc 0 0 l.length none)), i64 (↑z.fst : Int), VV.one (V1.c (C.ptr 0 (0 + (↑z.fst : Int).toNat) 0)), VV.one (V1.agg [C.str (rd
 l (0 + (↑z.fst : Int).toNat) (KK.dflt Kd.cell)).path, C.int .i64 (rd l (0 + (↑z.fst : Int).toNat) (KK.dflt Kd.cell)).what, C.int .i64 (rd l (0 + (↑z.fst : Int).toNat) (KK.dflt Kd.cell)).side, C.int .i64
 (rd l (0 + (↑z.fst : Int).toNat) (KK.dflt Kd.cell)).mode, C.int .i64 (rd l (0 + (↑z.fst : Int).toNat) (KK.dflt Kd.cell)).keep, C.int .i64 (rd l (0 + (↑z.fst : Int).toNat) (KK.dflt Kd.cell)).take, C.int
 .i64 (rd l (0 + (↑z.fst : Int).toNat) (KK.dflt Kd.cell)).names, C.int .i64 (rd l (0 + (↑z.fst : Int).toNat) (KK.dflt Kd.cell)).bytes, C.int .i64 (rd l (0 + (↑z.fst : Int).toNat) (KK.dflt Kd.cell)).hadN,
 C.int .i64 (rd l (0 + (↑z.fst : Int).toNat) (KK.dflt Kd.cell)).hadB]), VV.one (V1.c (C.slc 3 0 l.length none)), i64 (↑z.fst : Int), VV.one (V1.c (C.ptr 3 (0 + (↑z.fst : Int).toNat) 0)), boolv (rd (leftOf
 l most) (0 + (↑z.fst : Int).toNat) false), VV.any, VV.any, VV.any, VV.any, VV.any, VV.any, VV.one (V1.c (C.ptr 7 0 1)), VV.one (V1.c (C.int .i64 (rd l (0 + (↑z.fst : Int).toNat) (KK.dflt Kd.cell)).what)),
 boolv true, boolv true, VV.one (V1.c (C.ptr 7 0 1)), VV.one (V1.c (C.int .i64 (rd l (0 + (↑z.fst : Int).toNat) (KK.dflt Kd.cell)).what)), boolv false, boolv false, boolv false, VV.one (V1.c (C.ptr 7 0
 2)), VV.one (V1.c (C.int .i64 (rd l (0 + (↑z.fst : Int).toNat) (KK.dflt Kd.cell)).side)), boolv false, boolv false, VV.tup [], VV.tup [], VV.tup [], boolv false, boolv false, VV.one (V1.c (C.ptr 4 0 0)),
 VV.one (V1.c (C.slc 5 0 z.snd.items.length none)), i64 (↑z.snd.items.length : Int), i64 ((↑z.snd.items.length : Int) + (1 : Int)), i64 (↑z.fst : Int), VV.one (V1.c (C.ptr 7 0 0)), VV.one (V1.c (C.str (rd
 l (0 + (↑z.fst : Int).toNat) (KK.dflt Kd.cell)).path)), VV.one (V1.c (C.ptr 7 0 1)), VV.one (V1.c (C.int .i64 (rd l (0 + (↑z.fst : Int).toNat) (KK.dflt Kd.cell)).what)), VV.one (V1.c (C.ptr 7 0 2)), VV.one
 (V1.c (C.int .i64 (rd l (0 + (↑z.fst : Int).toNat) (KK.dflt Kd.cell)).side)), VV.one (V1.c (C.int .i64 ((rd l (0 + (↑z.fst : Int).toNat) (KK.dflt Kd.cell)).side - (1 : Int)))), VV.one (V1.c (C.ptr 7 0
 2)), VV.one (V1.c (C.int .i64 (rd l (0 + (↑z.fst : Int).toNat) (KK.dflt Kd.cell)).side)), VV.one (V1.c (C.int .i64 ((2 : Int) - (rd l (0 + (↑z.fst : Int).toNat) (KK.dflt Kd.cell)).side))), VV.one (V1.agg
 [C.int .i64 ((↑z.snd.items.length : Int) + (1 : Int)), C.int .i64 (↑z.fst : Int), C.str (rd l (0 + (↑z.fst : Int).toNat) (KK.dflt Kd.cell)).path, C.int .i64 (rd l (0 + (↑z.fst : Int).toNat) (KK.dflt Kd.cell)).what,
 C.int .i64 ((rd l (0 + (↑z.fst : Int).toNat) (KK.dflt Kd.cell)).side - (1 : Int)), C.int .i64 ((2 : Int) - (rd l (0 + (↑z.fst : Int).toNat) (KK.dflt Kd.cell)).side), C.int .i64 (0 : Int)]), VV.one (V1.c
 (C.ptr 7 0 1)), VV.one (V1.c (C.int .i64 (rd l (0 + (↑z.fst : Int).toNat) (KK.dflt Kd.cell)).what)), boolv false, VV.any, VV.any, VV.any, VV.one (V1.c (C.ptr 4 0 0)), VV.one (V1.c (C.slc 5 0 z.snd.items.length
 none)), VV.one (V1.agg [C.int .i64 ((↑z.snd.items.length : Int) + (1 : Int)), C.int .i64 (↑z.fst : Int), C.str (rd l (0 + (↑z.fst : Int).toNat) (KK.dflt Kd.cell)).path, C.int .i64 (rd l (0 + (↑z.fst :
 Int).toNat) (KK.dflt Kd.cell)).what, C.int .i64 ((rd l (0 + (↑z.fst : Int).toNat) (KK.dflt Kd.cell)).side - (1 : Int)), C.int .i64 ((2 : Int) - (rd l (0 + (↑z.fst : Int).toNat) (KK.dflt Kd.cell)).side),
 C.int .i64 (0 : Int)]), VV.one (V1.c (C.slc 9 0 1 none)), VV.one (V1.c (C.slc 10 0 (z.snd.items.length + 1) none)), VV.one (V1.c (C.ptr 4 0 0)), VV.any, VV.any, VV.any, VV.any, VV.any, VV.any, VV.any,
 VV.any, VV.any, VV.any, VV.any, VV.any, VV.any, VV.any, VV.any, VV.any, VV.any, VV.any, VV.any] [Atom.ro Kd.cell l, Atom.cells 25 [C.slc 0 0 l.length none], Atom.cells 34 [C.nils, C.nils, C.int .i64 (0
 : Int), C.int .i64 (0 : Int), C.int .i64 (0 : Int), C.int .i64 (0 : Int)], Atom.arr Kd.bool (leftOf l most), Atom.cells 34 [C.slc 10 0 (z.snd.items.length + 1) none, C.slc 6 0 z.snd.left.length none, C.int
 .i64 (0 : Int), C.int .i64 (0 : Int), C.int .i64 (0 : Int), C.int .i64 (0 : Int)], Atom.gone, Atom.arr Kd.int z.snd.left, Atom.cells 44 [C.str (rd l (0 + (↑z.fst : Int).toNat) (KK.dflt Kd.cell)).path,
 C.int .i64 (rd l (0 + (↑z.fst : Int).toNat) (KK.dflt Kd.cell)).what, C.int .i64 (rd l (0 + (↑z.fst : Int).toNat) (KK.dflt Kd.cell)).side, C.int .i64 (rd l (0 + (↑z.fst : Int).toNat) (KK.dflt Kd.cell)).mode,
 C.int .i64 (rd l (0 + (↑z.fst : Int).toNat) (KK.dflt Kd.cell)).keep, C.int .i64 (rd l (0 + (↑z.fst : Int).toNat) (KK.dflt Kd.cell)).take, C.int .i64 (rd l (0 + (↑z.fst : Int).toNat) (KK.dflt Kd.cell)).names,
 C.int .i64 (rd l (0 + (↑z.fst : Int).toNat) (KK.dflt Kd.cell)).bytes, C.int .i64 (rd l (0 + (↑z.fst : Int).toNat) (KK.dflt Kd.cell)).hadN, C.int .i64 (rd l (0 + (↑z.fst : Int).toNat) (KK.dflt Kd.cell)).hadB],
 Atom.cells 42 [C.int .i64 ((↑z.snd.items.length : Int) + (1 : Int)), C.int .i64 (↑z.fst : Int), C.str (rd l (0 + (↑z.fst : Int).toNat) (KK.dflt Kd.cell)).path, C.int .i64 (rd l (0 + (↑z.fst : Int).toNat)
 (KK.dflt Kd.cell)).what, C.int .i64 ((rd l (0 + (↑z.fst : Int).toNat) (KK.dflt Kd.cell)).side - (1 : Int)), C.int .i64 ((2 : Int) - (rd l (0 + (↑z.fst : Int).toNat) (KK.dflt Kd.cell)).side), C.int .i64
 (0 : Int)], Atom.arr Kd.item [(Item.mk ((↑z.snd.items.length : Int) + (1 : Int)) ((↑z.fst : Int)) ((rd l (0 + (↑z.fst : Int).toNat) (KK.dflt Kd.cell)).path) ((rd l (0 + (↑z.fst : Int).toNat) (KK.dflt Kd.cell)).what)
 ((rd l (0 + (↑z.fst : Int).toNat) (KK.dflt Kd.cell)).side - (1 : Int)) ((2 : Int) - (rd l (0 + (↑z.fst : Int).toNat) (KK.dflt Kd.cell)).side) ((0 : Int)))], Atom.arr Kd.item (z.snd.items ++ [(Item.mk ((↑z.snd.items.length
 : Int) + (1 : Int)) ((↑z.fst : Int)) ((rd l (0 + (↑z.fst : Int).toNat) (KK.dflt Kd.cell)).path) ((rd l (0 + (↑z.fst : Int).toNat) (KK.dflt Kd.cell)).what) ((rd l (0 + (↑z.fst : Int).toNat) (KK.dflt Kd.cell)).side
 - (1 : Int)) ((2 : Int) - (rd l (0 + (↑z.fst : Int).toNat) (KK.dflt Kd.cell)).side) ((0 : Int)))])])) (ite2 (decide ((rd l (0 + (↑z.fst : Int).toNat) (KK.dflt Kd.cell)).side = (2 : Int))) (i64ok ((↑z.snd.items.length
 : Int) + (1 : Int)) ∧ i64ok ((rd l (0 + (↑z.fst : Int).toNat) (KK.dflt Kd.cell)).side - (1 : Int)) ∧ i64ok ((2 : Int) - (rd l (0 + (↑z.fst : Int).toNat) (KK.dflt Kd.cell)).side) ∧ ite2 (decide ((rd l (0
 + (↑z.fst : Int).toNat) (KK.dflt Kd.cell)).what = (2 : Int))) (z.snd.items.length = z.snd.items.length ∧ (1 ≤ 1 ∧ True) ∧ (z.snd.items.length + 1) * 64 ≤ 140737488355328 ∧ i64ok ((↑z.fst : Int) + (1 :
 Int)) ∧ Enter 1 (inv_rof4 l most) (fun (z' : Nat × PS) => l.length - z'.fst < l.length - z.fst) [VV.any, i64 most, VV.one (V1.c (C.ptr 1 0 0)), VV.any, VV.one (V1.c (C.ptr 2 0 0)), VV.one (V1.c (C.slc
 3 0 l.length none)), VV.one (V1.c (C.ptr 4 0 0)), i64 ((↑z.fst : Int) + (1 : Int)), VV.one (V1.c (C.ptr 7 0 0)), VV.one (V1.c (C.ptr 8 0 0)), VV.any, VV.any, VV.any, VV.any, VV.any, i64 (↑z.fst : Int),
 VV.one (V1.c (C.ptr 1 0 0)), VV.one (V1.c (C.slc 0 0 l.length none)), i64 (↑l.length : Int), boolv true, i64 (↑z.fst : Int), i64 ((↑z.fst : Int) + (1 : Int)), VV.one (V1.c (C.ptr 1 0 0)), VV.one (V1.c
 (C.slc 0 0 l.length none)), i64 (↑z.fst : Int), VV.one (V1.c (C.ptr 0 (0 + (↑z.fst : Int).toNat) 0)), VV.one (V1.agg [C.str (rd l (0 + (↑z.fst : Int).toNat) (KK.dflt Kd.cell)).path, C.int .i64 (rd l (0
 + (↑z.fst : Int).toNat) (KK.dflt Kd.cell)).what, C.int .i64 (rd l (0 + (↑z.fst : Int).toNat) (KK.dflt Kd.cell)).side, C.int .i64 (rd l (0 + (↑z.fst : Int).toNat) (KK.dflt Kd.cell)).mode, C.int .i64 (rd
 l (0 + (↑z.fst : Int).toNat) (KK.dflt Kd.cell)).keep, C.int .i64 (rd l (0 + (↑z.fst : Int).toNat) (KK.dflt Kd.cell)).take, C.int .i64 (rd l (0 + (↑z.fst : Int).toNat) (KK.dflt Kd.cell)).names, C.int .i64
 (rd l (0 + (↑z.fst : Int).toNat) (KK.dflt Kd.cell)).bytes, C.int .i64 (rd l (0 + (↑z.fst : Int).toNat) (KK.dflt Kd.cell)).hadN, C.int .i64 (rd l (0 + (↑z.fst : Int).toNat) (KK.dflt Kd.cell)).hadB]), VV.one
 (V1.c (C.slc 3 0 l.length none)), i64 (↑z.fst : Int), VV.one (V1.c (C.ptr 3 (0 + (↑z.fst : Int).toNat) 0)), boolv (rd (leftOf l most) (0 + (↑z.fst : Int).toNat) false), VV.any, VV.any, VV.any, VV.any,
 VV.any, VV.any, VV.one (V1.c (C.ptr 7 0 1)), VV.one (V1.c (C.int .i64 (rd l (0 + (↑z.fst : Int).toNat) (KK.dflt Kd.cell)).what)), boolv true, boolv true, VV.one (V1.c (C.ptr 7 0 1)), VV.one (V1.c (C.int
 .i64 (rd l (0 + (↑z.fst : Int).toNat) (KK.dflt Kd.cell)).what)), boolv false, boolv false, boolv false, VV.one (V1.c (C.ptr 7 0 2)), VV.one (V1.c (C.int .i64 (rd l (0 + (↑z.fst : Int).toNat) (KK.dflt Kd.cell)).side)),
 boolv true, boolv true, VV.one (V1.c (C.ptr 7 0 2)), VV.one (V1.c (C.int .i64 (rd l (0 + (↑z.fst : Int).toNat) (KK.dflt Kd.cell)).side)), boolv false, boolv false, boolv false, VV.one (V1.c (C.ptr 4 0
 0)), VV.one (V1.c (C.slc 5 0 z.snd.items.length none)), i64 (↑z.snd.items.length : Int), i64 ((↑z.snd.items.length : Int) + (1 : Int)), i64 (↑z.fst : Int), VV.one (V1.c (C.ptr 7 0 0)), VV.one (V1.c (C.str
 (rd l (0 + (↑z.fst : Int).toNat) (KK.dflt Kd.cell)).path)), VV.one (V1.c (C.ptr 7 0 1)), VV.one (V1.c (C.int .i64 (rd l (0 + (↑z.fst : Int).toNat) (KK.dflt Kd.cell)).what)), VV.one (V1.c (C.ptr 7 0 2)),
 VV.one (V1.c (C.int .i64 (rd l (0 + (↑z.fst : Int).toNat) (KK.dflt Kd.cell)).side)), VV.one (V1.c (C.int .i64 ((rd l (0 + (↑z.fst : Int).toNat) (KK.dflt Kd.cell)).side - (1 : Int)))), VV.one (V1.c (C.ptr
 7 0 2)), VV.one (V1.c (C.int .i64 (rd l (0 + (↑z.fst : Int).toNat) (KK.dflt Kd.cell)).side)), VV.one (V1.c (C.int .i64 ((2 : Int) - (rd l (0 + (↑z.fst : Int).toNat) (KK.dflt Kd.cell)).side))), VV.one (V1.agg
 [C.int .i64 ((↑z.snd.items.length : Int) + (1 : Int)), C.int .i64 (↑z.fst : Int), C.str (rd l (0 + (↑z.fst : Int).toNat) (KK.dflt Kd.cell)).path, C.int .i64 (rd l (0 + (↑z.fst : Int).toNat) (KK.dflt Kd.cell)).what,
 C.int .i64 ((rd l (0 + (↑z.fst : Int).toNat) (KK.dflt Kd.cell)).side - (1 : Int)), C.int .i64 ((2 : Int) - (rd l (0 + (↑z.fst : Int).toNat) (KK.dflt Kd.cell)).side), C.int .i64 (0 : Int)]), VV.one (V1.c
 (C.ptr 7 0 1)), VV.one (V1.c (C.int .i64 (rd l (0 + (↑z.fst : Int).toNat) (KK.dflt Kd.cell)).what)), boolv true, VV.one (V1.c (C.ptr 7 0 3)), VV.one (V1.c (C.int .i64 (rd l (0 + (↑z.fst : Int).toNat) (KK.dflt
 Kd.cell)).mode)), VV.one (V1.c (C.ptr 8 0 6)), VV.one (V1.c (C.ptr 4 0 0)), VV.one (V1.c (C.slc 5 0 z.snd.items.length none)), VV.one (V1.agg [C.int .i64 ((↑z.snd.items.length : Int) + (1 : Int)), C.int
 .i64 (↑z.fst : Int), C.str (rd l (0 + (↑z.fst : Int).toNat) (KK.dflt Kd.cell)).path, C.int .i64 (rd l (0 + (↑z.fst : Int).toNat) (KK.dflt Kd.cell)).what, C.int .i64 ((rd l (0 + (↑z.fst : Int).toNat) (KK.dflt
 Kd.cell)).side - (1 : Int)), C.int .i64 ((2 : Int) - (rd l (0 + (↑z.fst : Int).toNat) (KK.dflt Kd.cell)).side), C.int .i64 (rd l (0 + (↑z.fst : Int).toNat) (KK.dflt Kd.cell)).mode]), VV.one (V1.c (C.slc
 9 0 1 none)), VV.one (V1.c (C.slc 10 0 (z.snd.items.length + 1) none)), VV.one (V1.c (C.ptr 4 0 0)), VV.any, VV.any, VV.any, VV.any, VV.any, VV.any, VV.any, VV.any, VV.any, VV.any, VV.any, VV.any, VV.any,
 VV.any, VV.any, VV.any, VV.any, VV.any, VV.any] [Atom.ro Kd.cell l, Atom.cells 25 [C.slc 0 0 l.length none], Atom.cells 34 [C.nils, C.nils, C.int .i64 (0 : Int), C.int .i64 (0 : Int), C.int .i64 (0 : Int),
 C.int .i64 (0 : Int)], Atom.arr Kd.bool (leftOf l most), Atom.cells 34 [C.slc 10 0 (z.snd.items.length + 1) none, C.slc 6 0 z.snd.left.length none, C.int .i64 (0 : Int), C.int .i64 (0 : Int), C.int .i64
 (0 : Int), C.int .i64 (0 : Int)], Atom.gone, Atom.arr Kd.int z.snd.left, Atom.cells 44 [C.str (rd l (0 + (↑z.fst : Int).toNat) (KK.dflt Kd.cell)).path, C.int .i64 (rd l (0 + (↑z.fst : Int).toNat) (KK.dflt
 Kd.cell)).what, C.int .i64 (rd l (0 + (↑z.fst : Int).toNat) (KK.dflt Kd.cell)).side, C.int .i64 (rd l (0 + (↑z.fst : Int).toNat) (KK.dflt Kd.cell)).mode, C.int .i64 (rd l (0 + (↑z.fst : Int).toNat) (KK.dflt
 Kd.cell)).keep, C.int .i64 (rd l (0 + (↑z.fst : Int).toNat) (KK.dflt Kd.cell)).take, C.int .i64 (rd l (0 + (↑z.fst : Int).toNat) (KK.dflt Kd.cell)).names, C.int .i64 (rd l (0 + (↑z.fst : Int).toNat) (KK.dflt
 Kd.cell)).bytes, C.int .i64 (rd l (0 + (↑z.fst : Int).toNat) (KK.dflt Kd.cell)).hadN, C.int .i64 (rd l (0 + (↑z.fst : Int).toNat) (KK.dflt Kd.cell)).hadB], Atom.cells 42 [C.int .i64 ((↑z.snd.items.length
 : Int) + (1 : Int)), C.int .i64 (↑z.fst : Int), C.str (rd l (0 + (↑z.fst : Int).toNat) (KK.dflt Kd.cell)).path, C.int .i64 (rd l (0 + (↑z.fst : Int).toNat) (KK.dflt Kd.cell)).what, C.int .i64 ((rd l (0
 + (↑z.fst : Int).toNat) (KK.dflt Kd.cell)).side - (1 : Int)), C.int .i64 ((2 : Int) - (rd l (0 + (↑z.fst : Int).toNat) (KK.dflt Kd.cell)).side), C.int .i64 (rd l (0 + (↑z.fst : Int).toNat) (KK.dflt Kd.cell)).mode],
 Atom.arr Kd.item [(Item.mk ((↑z.snd.items.length : Int) + (1 : Int)) ((↑z.fst : Int)) ((rd l (0 + (↑z.fst : Int).toNat) (KK.dflt Kd.cell)).path) ((rd l (0 + (↑z.fst : Int).toNat) (KK.dflt Kd.cell)).what)
 ((rd l (0 + (↑z.fst : Int).toNat) (KK.dflt Kd.cell)).side - (1 : Int)) ((2 : Int) - (rd l (0 + (↑z.fst : Int).toNat) (KK.dflt Kd.cell)).side) ((rd l (0 + (↑z.fst : Int).toNat) (KK.dflt Kd.cell)).mode))],
 Atom.arr Kd.item (z.snd.items ++ [(Item.mk ((↑z.snd.items.length : Int) + (1 : Int)) ((↑z.fst : Int)) ((rd l (0 + (↑z.fst : Int).toNat) (KK.dflt Kd.cell)).path) ((rd l (0 + (↑z.fst : Int).toNat) (KK.dflt
 Kd.cell)).what) ((rd l (0 + (↑z.fst : Int).toNat) (KK.dflt Kd.cell)).side - (1 : Int)) ((2 : Int) - (rd l (0 + (↑z.fst : Int).toNat) (KK.dflt Kd.cell)).side) ((rd l (0 + (↑z.fst : Int).toNat) (KK.dflt
 Kd.cell)).mode))])]) (z.snd.items.length = z.snd.items.length ∧ (1 ≤ 1 ∧ True) ∧ (z.snd.items.length + 1) * 64 ≤ 140737488355328 ∧ i64ok ((↑z.fst : Int) + (1 : Int)) ∧ Enter 1 (inv_rof4 l most) (fun (z'
 : Nat × PS) => l.length - z'.fst < l.length - z.fst) [VV.any, i64 most, VV.one (V1.c (C.ptr 1 0 0)), VV.any, VV.one (V1.c (C.ptr 2 0 0)), VV.one (V1.c (C.slc 3 0 l.length none)), VV.one (V1.c (C.ptr 4
 0 0)), i64 ((↑z.fst : Int) + (1 : Int)), VV.one (V1.c (C.ptr 7 0 0)), VV.one (V1.c (C.ptr 8 0 0)), VV.any, VV.any, VV.any, VV.any, VV.any, i64 (↑z.fst : Int), VV.one (V1.c (C.ptr 1 0 0)), VV.one (V1.c
 (C.slc 0 0 l.length none)), i64 (↑l.length : Int), boolv true, i64 (↑z.fst : Int), i64 ((↑z.fst : Int) + (1 : Int)), VV.one (V1.c (C.ptr 1 0 0)), VV.one (V1.c (C.slc 0 0 l.length none)), i64 (↑z.fst :
 Int), VV.one (V1.c (C.ptr 0 (0 + (↑z.fst : Int).toNat) 0)), VV.one (V1.agg [C.str (rd l (0 + (↑z.fst : Int).toNat) (KK.dflt Kd.cell)).path, C.int .i64 (rd l (0 + (↑z.fst : Int).toNat) (KK.dflt Kd.cell)).what,
 C.int .i64 (rd l (0 + (↑z.fst : Int).toNat) (KK.dflt Kd.cell)).side, C.int .i64 (rd l (0 + (↑z.fst : Int).toNat) (KK.dflt Kd.cell)).mode, C.int .i64 (rd l (0 + (↑z.fst : Int).toNat) (KK.dflt Kd.cell)).keep,
 C.int .i64 (rd l (0 + (↑z.fst : Int).toNat) (KK.dflt Kd.cell)).take, C.int .i64 (rd l (0 + (↑z.fst : Int).toNat) (KK.dflt Kd.cell)).names, C.int .i64 (rd l (0 + (↑z.fst : Int).toNat) (KK.dflt Kd.cell)).bytes,
 C.int .i64 (rd l (0 + (↑z.fst : Int).toNat) (KK.dflt Kd.cell)).hadN, C.int .i64 (rd l (0 + (↑z.fst : Int).toNat) (KK.dflt Kd.cell)).hadB]), VV.one (V1.c (C.slc 3 0 l.length none)), i64 (↑z.fst : Int),
 VV.one (V1.c (C.ptr 3 (0 + (↑z.fst : Int).toNat) 0)), boolv (rd (leftOf l most) (0 + (↑z.fst : Int).toNat) false), VV.any, VV.any, VV.any, VV.any, VV.any, VV.any, VV.one (V1.c (C.ptr 7 0 1)), VV.one (V1.c
 (C.int .i64 (rd l (0 + (↑z.fst : Int).toNat) (KK.dflt Kd.cell)).what)), boolv true, boolv true, VV.one (V1.c (C.ptr 7 0 1)), VV.one (V1.c (C.int .i64 (rd l (0 + (↑z.fst : Int).toNat) (KK.dflt Kd.cell)).what)),
 boolv false, boolv false, boolv false, VV.one (V1.c (C.ptr 7 0 2)), VV.one (V1.c (C.int .i64 (rd l (0 + (↑z.fst : Int).toNat) (KK.dflt Kd.cell)).side)), boolv true, boolv true, VV.one (V1.c (C.ptr 7 0
 2)), VV.one (V1.c (C.int .i64 (rd l (0 + (↑z.fst : Int).toNat) (KK.dflt Kd.cell)).side)), boolv false, boolv false, boolv false, VV.one (V1.c (C.ptr 4 0 0)), VV.one (V1.c (C.slc 5 0 z.snd.items.length
 none)), i64 (↑z.snd.items.length : Int), i64 ((↑z.snd.items.length : Int) + (1 : Int)), i64 (↑z.fst : Int), VV.one (V1.c (C.ptr 7 0 0)), VV.one (V1.c (C.str (rd l (0 + (↑z.fst : Int).toNat) (KK.dflt Kd.cell)).path)),
 VV.one (V1.c (C.ptr 7 0 1)), VV.one (V1.c (C.int .i64 (rd l (0 + (↑z.fst : Int).toNat) (KK.dflt Kd.cell)).what)), VV.one (V1.c (C.ptr 7 0 2)), VV.one (V1.c (C.int .i64 (rd l (0 + (↑z.fst : Int).toNat)
 (KK.dflt Kd.cell)).side)), VV.one (V1.c (C.int .i64 ((rd l (0 + (↑z.fst : Int).toNat) (KK.dflt Kd.cell)).side - (1 : Int)))), VV.one (V1.c (C.ptr 7 0 2)), VV.one (V1.c (C.int .i64 (rd l (0 + (↑z.fst :
 Int).toNat) (KK.dflt Kd.cell)).side)), VV.one (V1.c (C.int .i64 ((2 : Int) - (rd l (0 + (↑z.fst : Int).toNat) (KK.dflt Kd.cell)).side))), VV.one (V1.agg [C.int .i64 ((↑z.snd.items.length : Int) + (1 :
 Int)), C.int .i64 (↑z.fst : Int), C.str (rd l (0 + (↑z.fst : Int).toNat) (KK.dflt Kd.cell)).path, C.int .i64 (rd l (0 + (↑z.fst : Int).toNat) (KK.dflt Kd.cell)).what, C.int .i64 ((rd l (0 + (↑z.fst : Int).toNat)
 (KK.dflt Kd.cell)).side - (1 : Int)), C.int .i64 ((2 : Int) - (rd l (0 + (↑z.fst : Int).toNat) (KK.dflt Kd.cell)).side), C.int .i64 (0 : Int)]), VV.one (V1.c (C.ptr 7 0 1)), VV.one (V1.c (C.int .i64 (rd
 l (0 + (↑z.fst : Int).toNat) (KK.dflt Kd.cell)).what)), boolv false, VV.any, VV.any, VV.any, VV.one (V1.c (C.ptr 4 0 0)), VV.one (V1.c (C.slc 5 0 z.snd.items.length none)), VV.one (V1.agg [C.int .i64 ((↑z.snd.items.length
 : Int) + (1 : Int)), C.int .i64 (↑z.fst : Int), C.str (rd l (0 + (↑z.fst : Int).toNat) (KK.dflt Kd.cell)).path, C.int .i64 (rd l (0 + (↑z.fst : Int).toNat) (KK.dflt Kd.cell)).what, C.int .i64 ((rd l (0
 + (↑z.fst : Int).toNat) (KK.dflt Kd.cell)).side - (1 : Int)), C.int .i64 ((2 : Int) - (rd l (0 + (↑z.fst : Int).toNat) (KK.dflt Kd.cell)).side), C.int .i64 (0 : Int)]), VV.one (V1.c (C.slc 9 0 1 none)),
 VV.one (V1.c (C.slc 10 0 (z.snd.items.length + 1) none)), VV.one (V1.c (C.ptr 4 0 0)), VV.any, VV.any, VV.any, VV.any, VV.any, VV.any, VV.any, VV.any, VV.any, VV.any, VV.any, VV.any, VV.any, VV.any, VV.any,
 VV.any, VV.any, VV.any, VV.any] [Atom.ro Kd.cell l, Atom.cells 25 [C.slc 0 0 l.length none], Atom.cells 34 [C.nils, C.nils, C.int .i64 (0 : Int), C.int .i64 (0 : Int), C.int .i64 (0 : Int), C.int .i64
 (0 : Int)], Atom.arr Kd.bool (leftOf l most), Atom.cells 34 [C.slc 10 0 (z.snd.items.length + 1) none, C.slc 6 0 z.snd.left.length none, C.int .i64 (0 : Int), C.int .i64 (0 : Int), C.int .i64 (0 : Int),
 C.int .i64 (0 : Int)], Atom.gone, Atom.arr Kd.int z.snd.left, Atom.cells 44 [C.str (rd l (0 + (↑z.fst : Int).toNat) (KK.dflt Kd.cell)).path, C.int .i64 (rd l (0 + (↑z.fst : Int).toNat) (KK.dflt Kd.cell)).what,
 C.int .i64 (rd l (0 + (↑z.fst : Int).toNat) (KK.dflt Kd.cell)).side, C.int .i64 (rd l (0 + (↑z.fst : Int).toNat) (KK.dflt Kd.cell)).mode, C.int .i64 (rd l (0 + (↑z.fst : Int).toNat) (KK.dflt Kd.cell)).keep,
 C.int .i64 (rd l (0 + (↑z.fst : Int).toNat) (KK.dflt Kd.cell)).take, C.int .i64 (rd l (0 + (↑z.fst : Int).toNat) (KK.dflt Kd.cell)).names, C.int .i64 (rd l (0 + (↑z.fst : Int).toNat) (KK.dflt Kd.cell)).bytes,
 C.int .i64 (rd l (0 + (↑z.fst : Int).toNat) (KK.dflt Kd.cell)).hadN, C.int .i64 (rd l (0 + (↑z.fst : Int).toNat) (KK.dflt Kd.cell)).hadB], Atom.cells 42 [C.int .i64 ((↑z.snd.items.length : Int) + (1 :
 Int)), C.int .i64 (↑z.fst : Int), C.str (rd l (0 + (↑z.fst : Int).toNat) (KK.dflt Kd.cell)).path, C.int .i64 (rd l (0 + (↑z.fst : Int).toNat) (KK.dflt Kd.cell)).what, C.int .i64 ((rd l (0 + (↑z.fst : Int).toNat)
 (KK.dflt Kd.cell)).side - (1 : Int)), C.int .i64 ((2 : Int) - (rd l (0 + (↑z.fst : Int).toNat) (KK.dflt Kd.cell)).side), C.int .i64 (0 : Int)], Atom.arr Kd.item [(Item.mk ((↑z.snd.items.length : Int) +
 (1 : Int)) ((↑z.fst : Int)) ((rd l (0 + (↑z.fst : Int).toNat) (KK.dflt Kd.cell)).path) ((rd l (0 + (↑z.fst : Int).toNat) (KK.dflt Kd.cell)).what) ((rd l (0 + (↑z.fst : Int).toNat) (KK.dflt Kd.cell)).side
 - (1 : Int)) ((2 : Int) - (rd l (0 + (↑z.fst : Int).toNat) (KK.dflt Kd.cell)).side) ((0 : Int)))], Atom.arr Kd.item (z.snd.items ++ [(Item.mk ((↑z.snd.items.length : Int) + (1 : Int)) ((↑z.fst : Int))
 ((rd l (0 + (↑z.fst : Int).toNat) (KK.dflt Kd.cell)).path) ((rd l (0 + (↑z.fst : Int).toNat) (KK.dflt Kd.cell)).what) ((rd l (0 + (↑z.fst : Int).toNat) (KK.dflt Kd.cell)).side - (1 : Int)) ((2 : Int) -
 (rd l (0 + (↑z.fst : Int).toNat) (KK.dflt Kd.cell)).side) ((0 : Int)))])])) (i64ok ((↑z.fst : Int) + (1 : Int)) ∧ Enter 1 (inv_rof4 l most) (fun (z' : Nat × PS) => l.length - z'.fst < l.length - z.fst)
 [VV.any, i64 most, VV.one (V1.c (C.ptr 1 0 0)), VV.any, VV.one (V1.c (C.ptr 2 0 0)), VV.one (V1.c (C.slc 3 0 l.length none)), VV.one (V1.c (C.ptr 4 0 0)), i64 ((↑z.fst : Int) + (1 : Int)), VV.one (V1.c
 (C.ptr 7 0 0)), VV.any, VV.any, VV.any, VV.any, VV.any, VV.any, i64 (↑z.fst : Int), VV.one (V1.c (C.ptr 1 0 0)), VV.one (V1.c (C.slc 0 0 l.length none)), i64 (↑l.length : Int), boolv true, i64 (↑z.fst
 : Int), i64 ((↑z.fst : Int) + (1 : Int)), VV.one (V1.c (C.ptr 1 0 0)), VV.one (V1.c (C.slc 0 0 l.length none)), i64 (↑z.fst : Int), VV.one (V1.c (C.ptr 0 (0 + (↑z.fst : Int).toNat) 0)), VV.one (V1.agg
 [C.str (rd l (0 + (↑z.fst : Int).toNat) (KK.dflt Kd.cell)).path, C.int .i64 (rd l (0 + (↑z.fst : Int).toNat) (KK.dflt Kd.cell)).what, C.int .i64 (rd l (0 + (↑z.fst : Int).toNat) (KK.dflt Kd.cell)).side,
 C.int .i64 (rd l (0 + (↑z.fst : Int).toNat) (KK.dflt Kd.cell)).mode, C.int .i64 (rd l (0 + (↑z.fst : Int).toNat) (KK.dflt Kd.cell)).keep, C.int .i64 (rd l (0 + (↑z.fst : Int).toNat) (KK.dflt Kd.cell)).take,
 C.int .i64 (rd l (0 + (↑z.fst : Int).toNat) (KK.dflt Kd.cell)).names, C.int .i64 (rd l (0 + (↑z.fst : Int).toNat) (KK.dflt Kd.cell)).bytes, C.int .i64 (rd l (0 + (↑z.fst : Int).toNat) (KK.dflt Kd.cell)).hadN,
 C.int .i64 (rd l (0 + (↑z.fst : Int).toNat) (KK.dflt Kd.cell)).hadB]), VV.one (V1.c (C.slc 3 0 l.length none)), i64 (↑z.fst : Int), VV.one (V1.c (C.ptr 3 (0 + (↑z.fst : Int).toNat) 0)), boolv (rd (leftOf
 l most) (0 + (↑z.fst : Int).toNat) false), VV.any, VV.any, VV.any, VV.any, VV.any, VV.any, VV.one (V1.c (C.ptr 7 0 1)), i64 (rd l (0 + (↑z.fst : Int).toNat) (KK.dflt Kd.cell)).what, boolv true, boolv true,
 VV.one (V1.c (C.ptr 7 0 1)), i64 (rd l (0 + (↑z.fst : Int).toNat) (KK.dflt Kd.cell)).what, boolv false, boolv false, boolv false, VV.one (V1.c (C.ptr 7 0 2)), i64 (rd l (0 + (↑z.fst : Int).toNat) (KK.dflt
 Kd.cell)).side, boolv true, boolv true, VV.one (V1.c (C.ptr 7 0 2)), i64 (rd l (0 + (↑z.fst : Int).toNat) (KK.dflt Kd.cell)).side, boolv true, boolv true, boolv true, VV.any, VV.any, VV.any, VV.any, VV.any,
 VV.any, VV.any, VV.any, VV.any, VV.any, VV.any, VV.any, VV.any, VV.any, VV.any, VV.any, VV.any, VV.any, VV.any, VV.any, VV.any, VV.any, VV.any, VV.any, VV.any, VV.any, VV.any, VV.any, VV.any, VV.any, VV.any,
 VV.any, VV.any, VV.any, VV.any, VV.any, VV.any, VV.any, VV.any, VV.any, VV.any, VV.any, VV.any, VV.any, VV.any, VV.any, VV.any] [Atom.ro Kd.cell l, Atom.cells 25 [C.slc 0 0 l.length none], Atom.cells 34
 [C.nils, C.nils, C.int .i64 (0 : Int), C.int .i64 (0 : Int), C.int .i64 (0 : Int), C.int .i64 (0 : Int)], Atom.arr Kd.bool (leftOf l most), Atom.cells 34 [C.slc 5 0 z.snd.items.length none, C.slc 6 0 z.snd.left.length
 none, C.int .i64 (0 : Int), C.int .i64 (0 : Int), C.int .i64 (0 : Int), C.int .i64 (0 : Int)], Atom.arr Kd.item z.snd.items, Atom.arr Kd.int z.snd.left, Atom.cells 44 [C.str (rd l (0 + (↑z.fst : Int).toNat)
 (KK.dflt Kd.cell)).path, C.int .i64 (rd l (0 + (↑z.fst : Int).toNat) (KK.dflt Kd.cell)).what, C.int .i64 (rd l (0 + (↑z.fst : Int).toNat) (KK.dflt Kd.cell)).side, C.int .i64 (rd l (0 + (↑z.fst : Int).toNat)
 (KK.dflt Kd.cell)).mode, C.int .i64 (rd l (0 + (↑z.fst : Int).toNat) (KK.dflt Kd.cell)).keep, C.int .i64 (rd l (0 + (↑z.fst : Int).toNat) (KK.dflt Kd.cell)).take, C.int .i64 (rd l (0 + (↑z.fst : Int).toNat)
 (KK.dflt Kd.cell)).names, C.int .i64 (rd l (0 + (↑z.fst : Int).toNat) (KK.dflt Kd.cell)).bytes, C.int .i64 (rd l (0 + (↑z.fst : Int).toNat) (KK.dflt Kd.cell)).hadN, C.int .i64 (rd l (0 + (↑z.fst : Int).toNat)
 (KK.dflt Kd.cell)).hadB]]))) (i64ok ((↑z.fst : Int) + (1 : Int)) ∧ Enter 1 (inv_rof4 l most) (fun (z' : Nat × PS) => l.length - z'.fst < l.length - z.fst) [VV.any, i64 most, VV.one (V1.c (C.ptr 1 0 0)),
 VV.any, VV.one (V1.c (C.ptr 2 0 0)), VV.one (V1.c (C.slc 3 0 l.length none)), VV.one (V1.c (C.ptr 4 0 0)), i64 ((↑z.fst : Int) + (1 : Int)), VV.one (V1.c (C.ptr 7 0 0)), VV.any, VV.any, VV.any, VV.any,
 VV.any, VV.any, i64 (↑z.fst : Int), VV.one (V1.c (C.ptr 1 0 0)), VV.one (V1.c (C.slc 0 0 l.length none)), i64 (↑l.length : Int), boolv true, i64 (↑z.fst : Int), i64 ((↑z.fst : Int) + (1 : Int)), VV.one
 (V1.c (C.ptr 1 0 0)), VV.one (V1.c (C.slc 0 0 l.length none)), i64 (↑z.fst : Int), VV.one (V1.c (C.ptr 0 (0 + (↑z.fst : Int).toNat) 0)), VV.one (V1.agg [C.str (rd l (0 + (↑z.fst : Int).toNat) (KK.dflt
 Kd.cell)).path, C.int .i64 (rd l (0 + (↑z.fst : Int).toNat) (KK.dflt Kd.cell)).what, C.int .i64 (rd l (0 + (↑z.fst : Int).toNat) (KK.dflt Kd.cell)).side, C.int .i64 (rd l (0 + (↑z.fst : Int).toNat) (KK.dflt
 Kd.cell)).mode, C.int .i64 (rd l (0 + (↑z.fst : Int).toNat) (KK.dflt Kd.cell)).keep, C.int .i64 (rd l (0 + (↑z.fst : Int).toNat) (KK.dflt Kd.cell)).take, C.int .i64 (rd l (0 + (↑z.fst : Int).toNat) (KK.dflt
 Kd.cell)).names, C.int .i64 (rd l (0 + (↑z.fst : Int).toNat) (KK.dflt Kd.cell)).bytes, C.int .i64 (rd l (0 + (↑z.fst : Int).toNat) (KK.dflt Kd.cell)).hadN, C.int .i64 (rd l (0 + (↑z.fst : Int).toNat) (KK.dflt
 Kd.cell)).hadB]), VV.one (V1.c (C.slc 3 0 l.length none)), i64 (↑z.fst : Int), VV.one (V1.c (C.ptr 3 (0 + (↑z.fst : Int).toNat) 0)), boolv (rd (leftOf l most) (0 + (↑z.fst : Int).toNat) false), VV.any,
 VV.any, VV.any, VV.any, VV.any, VV.any, VV.one (V1.c (C.ptr 7 0 1)), i64 (rd l (0 + (↑z.fst : Int).toNat) (KK.dflt Kd.cell)).what, boolv true, boolv true, VV.one (V1.c (C.ptr 7 0 1)), i64 (rd l (0 + (↑z.fst
 : Int).toNat) (KK.dflt Kd.cell)).what, boolv true, boolv true, boolv true, VV.tup [], VV.tup [], VV.tup [], VV.tup [], VV.tup [], VV.tup [], VV.tup [], VV.tup [], boolv true, VV.any, VV.any, VV.any, VV.any,
 VV.any, VV.any, VV.any, VV.any, VV.any, VV.any, VV.any, VV.any, VV.any, VV.any, VV.any, VV.any, VV.any, VV.any, VV.any, VV.any, VV.any, VV.any, VV.any, VV.any, VV.any, VV.any, VV.any, VV.any, VV.any, VV.any,
 VV.any, VV.any, VV.any, VV.any, VV.any, VV.any, VV.any, VV.any, VV.any, VV.any, VV.any, VV.any, VV.any, VV.any, VV.any, VV.any, VV.any] [Atom.ro Kd.cell l, Atom.cells 25 [C.slc 0 0 l.length none], Atom.cells
 34 [C.nils, C.nils, C.int .i64 (0 : Int), C.int .i64 (0 : Int), C.int .i64 (0 : Int), C.int .i64 (0 : Int)], Atom.arr Kd.bool (leftOf l most), Atom.cells 34 [C.slc 5 0 z.snd.items.length none, C.slc 6
 0 z.snd.left.length none, C.int .i64 (0 : Int), C.int .i64 (0 : Int), C.int .i64 (0 : Int), C.int .i64 (0 : Int)], Atom.arr Kd.item z.snd.items, Atom.arr Kd.int z.snd.left, Atom.cells 44 [C.str (rd l (0
 + (↑z.fst : Int).toNat) (KK.dflt Kd.cell)).path, C.int .i64 (rd l (0 + (↑z.fst : Int).toNat) (KK.dflt Kd.cell)).what, C.int .i64 (rd l (0 + (↑z.fst : Int).toNat) (KK.dflt Kd.cell)).side, C.int .i64 (rd
 l (0 + (↑z.fst : Int).toNat) (KK.dflt Kd.cell)).mode, C.int .i64 (rd l (0 + (↑z.fst : Int).toNat) (KK.dflt Kd.cell)).keep, C.int .i64 (rd l (0 + (↑z.fst : Int).toNat) (KK.dflt Kd.cell)).take, C.int .i64
 (rd l (0 + (↑z.fst : Int).toNat) (KK.dflt Kd.cell)).names, C.int .i64 (rd l (0 + (↑z.fst : Int).toNat) (KK.dflt Kd.cell)).bytes, C.int .i64 (rd l (0 + (↑z.fst : Int).toNat) (KK.dflt Kd.cell)).hadN, C.int
 .i64 (rd l (0 + (↑z.fst : Int).toNat) (KK.dflt Kd.cell)).hadB]])))) (Enter 1 (inv_rof15 l most) (fun (x : Nat) => True) [VV.any, i64 most, VV.one (V1.c (C.ptr 1 0 0)), VV.any, VV.one (V1.c (C.ptr 2 0 0)),
 VV.one (V1.c (C.slc 3 0 l.length none)), VV.one (V1.c (C.ptr 4 0 0)), i64 (↑z.fst : Int), VV.any, VV.any, i64 (0 : Int), VV.any, VV.any, VV.any, VV.any, i64 (↑z.fst : Int), VV.one (V1.c (C.ptr 1 0 0)),
 VV.one (V1.c (C.slc 0 0 l.length none)), i64 (↑l.length : Int), boolv false, VV.any, VV.any, VV.any, VV.any, VV.any, VV.any, VV.any, VV.any, VV.any, VV.any, VV.any, VV.any, VV.any, VV.any, VV.any, VV.any,
 VV.any, VV.any, VV.any, VV.any, VV.any, VV.any, VV.any, VV.any, VV.any, VV.any, VV.any, VV.any, VV.any, VV.any, VV.any, VV.any, VV.any, VV.any, VV.any, VV.any, VV.any, VV.any, VV.any, VV.any, VV.any, VV.any,
 VV.any, VV.any, VV.any, VV.any, VV.any, VV.any, VV.any, VV.any, VV.any, VV.any, VV.any, VV.any, VV.any, VV.any, VV.any, VV.any, VV.any, VV.any, VV.any, VV.any, VV.any, VV.any, VV.any, VV.any, VV.any, VV.any,
 VV.any, VV.any, VV.any, VV.any, VV.any, VV.any, VV.any, VV.any, VV.any, VV.any, VV.any, VV.any, VV.any, VV.any] [Atom.ro Kd.cell l, Atom.cells 25 [C.slc 0 0 l.length none], Atom.cells 34 [C.nils, C.nils,
 C.int .i64 (0 : Int), C.int .i64 (0 : Int), C.int .i64 (0 : Int), C.int .i64 (0 : Int)], Atom.arr Kd.bool (leftOf l most), Atom.cells 34 [C.slc 5 0 z.snd.items.length none, C.slc 6 0 z.snd.left.length
 none, C.int .i64 (0 : Int), C.int .i64 (0 : Int), C.int .i64 (0 : Int), C.int .i64 (0 : Int)], Atom.arr Kd.item z.snd.items, Atom.arr Kd.int z.snd.left] ∧ ∀ (z : Nat), z ≤ 2 → ite2 (decide ((↑z : Int)
 < (2 : Int))) (Enter 1 (inv_rof17 l most 0 (↑z : Int)) (fun (x : Unit) => True) [VV.any, VV.any, VV.one (V1.c (C.ptr 1 0 0)), VV.any, VV.one (V1.c (C.ptr 2 0 0)), VV.any, VV.one (V1.c (C.ptr 4 0 0)), VV.any,
 VV.any, VV.any, i64 (↑z : Int), VV.any, VV.any, VV.any, VV.any, VV.any, VV.any, VV.any, VV.any, VV.any, VV.any, VV.any, VV.any, VV.any, VV.any, VV.any, VV.any, VV.any, VV.any, VV.any, VV.any, VV.any, VV.any,
 VV.any, VV.any, VV.any, VV.any, VV.any, VV.any, VV.any, VV.any, VV.any, VV.any, VV.any, VV.any, VV.any, VV.any, VV.any, VV.any, VV.any, VV.any, VV.any, VV.any, VV.any, VV.any, VV.any, VV.any, VV.any, VV.any,
 VV.any, VV.any, VV.any, VV.any, VV.any, VV.any, VV.any, VV.any, VV.any, VV.any, VV.any, VV.any, VV.any, VV.any, VV.any, VV.any, VV.any, VV.any, VV.any, VV.any, VV.any, VV.any, VV.any, VV.any, i64 (↑z :
 Int), boolv true, VV.any, VV.any, VV.any, VV.any, VV.any, VV.any, VV.any, VV.any, VV.any, VV.any, VV.any, VV.any, VV.any, VV.any, VV.any, VV.any, VV.any] [Atom.ro Kd.cell l, Atom.cells 25 [C.slc 0 0 l.length
 none], Atom.cells 34 [C.nils, C.nils, C.int .i64 (0 : Int), C.int .i64 (0 : Int), C.int .i64 (0 : Int), C.int .i64 (0 : Int)], Atom.gone, Atom.cells 34 [C.slc 5 0 (ofF l most).items.length none, C.slc
 6 0 (ofF l most).left.length none, C.int .i64 (needV (ofF l most) z).n0, C.int .i64 (needV (ofF l most) z).b0, C.int .i64 (needV (ofF l most) z).n1, C.int .i64 (needV (ofF l most) z).b1], Atom.arr Kd.item
 (ofF l most).items, Atom.arr Kd.int (ofF l most).left] ∨ Enter 1 (inv_rof17 l most 1 (↑z : Int)) (fun (x : Unit) => True) [VV.any, VV.any, VV.one (V1.c (C.ptr 1 0 0)), VV.any, VV.one (V1.c (C.ptr 2 0 0)),
 VV.any, VV.one (V1.c (C.ptr 4 0 0)), VV.any, VV.any, VV.any, i64 (↑z : Int), VV.any, VV.any, VV.any, VV.any, VV.any, VV.any, VV.any, VV.any, VV.any, VV.any, VV.any, VV.any, VV.any, VV.any, VV.any, VV.any,
 VV.any, VV.any, VV.any, VV.any, VV.any, VV.any, VV.any, VV.any, VV.any, VV.any, VV.any, VV.any, VV.any, VV.any, VV.any, VV.any, VV.any, VV.any, VV.any, VV.any, VV.any, VV.any, VV.any, VV.any, VV.any, VV.any,
 VV.any, VV.any, VV.any, VV.any, VV.any, VV.any, VV.any, VV.any, VV.any, VV.any, VV.any, VV.any, VV.any, VV.any, VV.any, VV.any, VV.any, VV.any, VV.any, VV.any, VV.any, VV.any, VV.any, VV.any, VV.any, VV.any,
 VV.any, VV.any, VV.any, VV.any, i64 (↑z : Int), boolv true, VV.any, VV.any, VV.any, VV.any, VV.any, VV.any, VV.any, VV.any, VV.any, VV.any, VV.any, VV.any, VV.any, VV.any, VV.any, VV.any, VV.any] [Atom.ro
 Kd.cell l, Atom.cells 25 [C.slc 0 0 l.length none], Atom.cells 34 [C.nils, C.nils, C.int .i64 (0 : Int), C.int .i64 (0 : Int), C.int .i64 (0 : Int), C.int .i64 (0 : Int)], Atom.gone, Atom.cells 34 [C.slc
 5 0 (ofF l most).items.length none, C.slc 6 0 (ofF l most).left.length none, C.int .i64 (needV (ofF l most) z).n0, C.int .i64 (needV (ofF l most) z).b0, C.int .i64 (needV (ofF l most) z).n1, C.int .i64
 (needV (ofF l most) z).b1], Atom.arr Kd.item (ofF l most).items, Atom.arr Kd.int (ofF l most).left]) (EndsAs 1 (ct_rof l most) (VV.one (V1.agg [C.slc 5 0 (ofF l most).items.length none, C.slc 6 0 (ofF
 l most).left.length none, C.int .i64 (needV (ofF l most) z).n0, C.int .i64 (needV (ofF l most) z).b0, C.int .i64 (needV (ofF l most) z).n1, C.int .i64 (needV (ofF l most) z).b1])) [Atom.ro Kd.cell l, Atom.cells
 25 [C.slc 0 0 l.length none], Atom.cells 34 [C.slc 5 0 (ofF l most).items.length none, C.slc 6 0 (ofF l most).left.length none, C.int .i64 (needV (ofF l most) z).n0, C.int .i64 (needV (ofF l most) z).b0,
 C.int .i64 (needV (ofF l most) z).n1, C.int .i64 (needV (ofF l most) z).b1], Atom.gone, Atom.cells 34 [C.slc 5 0 (ofF l most).items.length none, C.slc 6 0 (ofF l most).left.length none, C.int .i64 (needV
 (ofF l most) z).n0, C.int .i64 (needV (ofF l most) z).b0, C.int .i64 (needV (ofF l most) z).n1, C.int .i64 (needV (ofF l most) z).b1], Atom.arr Kd.item (ofF l most).items, Atom.arr Kd.int (ofF l most).left])
 ∧ (∀ (z_1 : Unit), (↑z : Int) = (0 : Int) → True ∧ ((∀ (c : Cell), List.Mem c l → c.Ok) ∧ (ofF l most).items.length ≤ 100000 ∧ ∀ (it : Item), List.Mem it (ofF l most).items → (0 : Int) ≤ it.cell ∧ it.cell
 < (↑l.length : Int)) ∧ Into (K := KK) 0 [] [0, 5] [VV.one (V1.agg [C.slc 0 0 l.length none]), VV.one (V1.c (C.slc 5 0 (ofF l most).items.length none)), i64 (0 : Int), boolv false] [Atom.ro Kd.cell l, Atom.cells
 25 [C.slc 0 0 l.length none], Atom.cells 34 [C.nils, C.nils, C.int .i64 (0 : Int), C.int .i64 (0 : Int), C.int .i64 (0 : Int), C.int .i64 (0 : Int)], Atom.gone, Atom.cells 34 [C.slc 5 0 (ofF l most).items.length
 none, C.slc 6 0 (ofF l most).left.length none, C.int .i64 (needV (ofF l most) 0).n0, C.int .i64 (needV (ofF l most) 0).b0, C.int .i64 (needV (ofF l most) 0).n1, C.int .i64 (needV (ofF l most) 0).b1], Atom.arr
 Kd.item (ofF l most).items, Atom.arr Kd.int (ofF l most).left] [VV.one (V1.agg [C.slc 0 0 l.length none]), VV.one (V1.c (C.slc 1 0 (ofF l most).items.length none)), i64 (0 : Int), boolv false] [Atom.ro
 Kd.cell l, Atom.ro Kd.item (ofF l most).items] ∧ ∀ (y : Unit), True → (VV.one (V1.agg [C.slc 0 0 l.length none]) = VV.one (V1.agg [C.slc 0 0 l.length none]) ∧ VV.one (V1.c (C.slc 5 0 (ofF l most).items.length
 none)) = VV.one (V1.c (C.slc 5 0 (ofF l most).items.length none)) ∧ True) ∧ ((∀ (c : Cell), List.Mem c l → c.Ok) ∧ (ofF l most).items.length ≤ 100000 ∧ ∀ (it : Item), List.Mem it (ofF l most).items → (0
 : Int) ≤ it.cell ∧ it.cell < (↑l.length : Int)) ∧ Into (K := KK) 0 [] [0, 5] [VV.one (V1.agg [C.slc 0 0 l.length none]), VV.one (V1.c (C.slc 5 0 (ofF l most).items.length none)), i64 (0 : Int), boolv true]
 [Atom.ro Kd.cell l, Atom.cells 25 [C.slc 0 0 l.length none], Atom.cells 34 [C.nils, C.nils, C.int .i64 (0 : Int), C.int .i64 (0 : Int), C.int .i64 (0 : Int), C.int .i64 (0 : Int)], Atom.gone, Atom.cells
 34 [C.slc 5 0 (ofF l most).items.length none, C.slc 6 0 (ofF l most).left.length none, C.int .i64 (needV (ofF l most) 0).n0, C.int .i64 (needV (ofF l most) 0).b0, C.int .i64 (needV (ofF l most) 0).n1,
 C.int .i64 (needV (ofF l most) 0).b1], Atom.arr Kd.item (ofF l most).items, Atom.arr Kd.int (ofF l most).left] [VV.one (V1.agg [C.slc 0 0 l.length none]), VV.one (V1.c (C.slc 1 0 (ofF l most).items.length
 none)), i64 (0 : Int), boolv true] [Atom.ro Kd.cell l, Atom.ro Kd.item (ofF l most).items] ∧ ∀ (y : Unit), True → ((0 : Int) ≤ (0 : Int) ∧ (0 : Int) < (2 : Int)) ∧ True ∧ True ∧ i64ok (1 : Int) ∧ Enter
 1 (inv_rof15 l most) (fun (z' : Nat) => 2 - z' < 2 - z) [VV.any, VV.any, VV.one (V1.c (C.ptr 1 0 0)), VV.any, VV.one (V1.c (C.ptr 2 0 0)), VV.any, VV.one (V1.c (C.ptr 4 0 0)), VV.any, VV.any, VV.any, i64
 (1 : Int), VV.any, VV.any, VV.any, VV.any, VV.any, VV.any, VV.any, VV.any, VV.any, VV.any, VV.any, VV.any, VV.any, VV.any, VV.any, VV.any, VV.any, VV.any, VV.any, VV.any, VV.any, VV.any, VV.any, VV.any,
 VV.any, VV.any, VV.any, VV.any, VV.any, VV.any, VV.any, VV.any, VV.any, VV.any, VV.any, VV.any, VV.any, VV.any, VV.any, VV.any, VV.any, VV.any, VV.any, VV.any, VV.any, VV.any, VV.any, VV.any, VV.any, VV.any,
 VV.any, VV.any, VV.any, VV.any, VV.any, VV.any, VV.any, VV.any, VV.any, VV.any, VV.any, VV.any, VV.any, VV.any, VV.any, VV.any, VV.any, VV.any, VV.any, VV.any, VV.any, VV.any, VV.any, VV.any, i64 (0 :
 Int), i64 (1 : Int), i64 (0 : Int), VV.one (V1.agg [C.slc 0 0 l.length none]), VV.one (V1.c (C.ptr 4 0 0)), VV.one (V1.c (C.slc 5 0 (ofF l most).items.length none)), i64 (0 : Int), VV.one (V1.c (C.int
 .i64 (rnF l (0 : Int) false (ofF l most).items).fst)), VV.one (V1.agg [C.slc 0 0 l.length none]), VV.one (V1.c (C.ptr 4 0 0)), VV.one (V1.c (C.slc 5 0 (ofF l most).items.length none)), i64 (0 : Int), VV.one
 (V1.c (C.int .i64 (rnF l (0 : Int) true (ofF l most).items).fst)), VV.one (V1.agg [C.int .i64 (rnF l (0 : Int) false (ofF l most).items).fst, C.int .i64 (rnF l (0 : Int) true (ofF l most).items).fst]),
 VV.one (V1.c (C.ptr 4 0 2)), VV.one (V1.c (C.ptr 4 0 2)), VV.any] [Atom.ro Kd.cell l, Atom.cells 25 [C.slc 0 0 l.length none], Atom.cells 34 [C.nils, C.nils, C.int .i64 (0 : Int), C.int .i64 (0 : Int),
 C.int .i64 (0 : Int), C.int .i64 (0 : Int)], Atom.gone, Atom.cells 34 [C.slc 5 0 (ofF l most).items.length none, C.slc 6 0 (ofF l most).left.length none, C.int .i64 (rnF l (0 : Int) false (ofF l most).items).fst,
 C.int .i64 (rnF l (0 : Int) true (ofF l most).items).fst, C.int .i64 (needV (ofF l most) 0).n1, C.int .i64 (needV (ofF l most) 0).b1], Atom.arr Kd.item (ofF l most).items, Atom.arr Kd.int (ofF l most).left])
 ∧ ∀ (z_1 : Unit), (↑z : Int) = (1 : Int) → True ∧ ((∀ (c : Cell), List.Mem c l → c.Ok) ∧ (ofF l most).items.length ≤ 100000 ∧ ∀ (it : Item), List.Mem it (ofF l most).items → (0 : Int) ≤ it.cell ∧ it.cell
 < (↑l.length : Int)) ∧ Into (K := KK) 0 [] [0, 5] [VV.one (V1.agg [C.slc 0 0 l.length none]), VV.one (V1.c (C.slc 5 0 (ofF l most).items.length none)), i64 (1 : Int), boolv false] [Atom.ro Kd.cell l, Atom.cells
 25 [C.slc 0 0 l.length none], Atom.cells 34 [C.nils, C.nils, C.int .i64 (0 : Int), C.int .i64 (0 : Int), C.int .i64 (0 : Int), C.int .i64 (0 : Int)], Atom.gone, Atom.cells 34 [C.slc 5 0 (ofF l most).items.length
 none, C.slc 6 0 (ofF l most).left.length none, C.int .i64 (needV (ofF l most) 1).n0, C.int .i64 (needV (ofF l most) 1).b0, C.int .i64 (needV (ofF l most) 1).n1, C.int .i64 (needV (ofF l most) 1).b1], Atom.arr
 Kd.item (ofF l most).items, Atom.arr Kd.int (ofF l most).left] [VV.one (V1.agg [C.slc 0 0 l.length none]), VV.one (V1.c (C.slc 1 0 (ofF l most).items.length none)), i64 (1 : Int), boolv false] [Atom.ro
 Kd.cell l, Atom.ro Kd.item (ofF l most).items] ∧ ∀ (y : Unit), True → (VV.one (V1.agg [C.slc 0 0 l.length none]) = VV.one (V1.agg [C.slc 0 0 l.length none]) ∧ VV.one (V1.c (C.slc 5 0 (ofF l most).items.length
 none)) = VV.one (V1.c (C.slc 5 0 (ofF l most).items.length none)) ∧ True) ∧ ((∀ (c : Cell), List.Mem c l → c.Ok) ∧ (ofF l most).items.length ≤ 100000 ∧ ∀ (it : Item), List.Mem it (ofF l most).items → (0
 : Int) ≤ it.cell ∧ it.cell < (↑l.length : Int)) ∧ Into (K := KK) 0 [] [0, 5] [VV.one (V1.agg [C.slc 0 0 l.length none]), VV.one (V1.c (C.slc 5 0 (ofF l most).items.length none)), i64 (1 : Int), boolv true]
 [Atom.ro Kd.cell l, Atom.cells 25 [C.slc 0 0 l.length none], Atom.cells 34 [C.nils, C.nils, C.int .i64 (0 : Int), C.int .i64 (0 : Int), C.int .i64 (0 : Int), C.int .i64 (0 : Int)], Atom.gone, Atom.cells
 34 [C.slc 5 0 (ofF l most).items.length none, C.slc 6 0 (ofF l most).left.length none, C.int .i64 (needV (ofF l most) 1).n0, C.int .i64 (needV (ofF l most) 1).b0, C.int .i64 (needV (ofF l most) 1).n1,
 C.int .i64 (needV (ofF l most) 1).b1], Atom.arr Kd.item (ofF l most).items, Atom.arr Kd.int (ofF l most).left] [VV.one (V1.agg [C.slc 0 0 l.length none]), VV.one (V1.c (C.slc 1 0 (ofF l most).items.length
 none)), i64 (1 : Int), boolv true] [Atom.ro Kd.cell l, Atom.ro Kd.item (ofF l most).items] ∧ ∀ (y : Unit), True → ((0 : Int) ≤ (1 : Int) ∧ (1 : Int) < (2 : Int)) ∧ True ∧ True ∧ i64ok (2 : Int) ∧ Enter
 1 (inv_rof15 l most) (fun (z' : Nat) => 2 - z' < 2 - z) [VV.any, VV.any, VV.one (V1.c (C.ptr 1 0 0)), VV.any, VV.one (V1.c (C.ptr 2 0 0)), VV.any, VV.one (V1.c (C.ptr 4 0 0)), VV.any, VV.any, VV.any, i64
 (2 : Int), VV.any, VV.any, VV.any, VV.any, VV.any, VV.any, VV.any, VV.any, VV.any, VV.any, VV.any, VV.any, VV.any, VV.any, VV.any, VV.any, VV.any, VV.any, VV.any, VV.any, VV.any, VV.any, VV.any, VV.any,
 VV.any, VV.any, VV.any, VV.any, VV.any, VV.any, VV.any, VV.any, VV.any, VV.any, VV.any, VV.any, VV.any, VV.any, VV.any, VV.any, VV.any, VV.any, VV.any, VV.any, VV.any, VV.any, VV.any, VV.any, VV.any, VV.any,
 VV.any, VV.any, VV.any, VV.any, VV.any, VV.any, VV.any, VV.any, VV.any, VV.any, VV.any, VV.any, VV.any, VV.any, VV.any, VV.any, VV.any, VV.any, VV.any, VV.any, VV.any, VV.any, VV.any, VV.any, i64 (1 :
 Int), i64 (2 : Int), i64 (1 : Int), VV.one (V1.agg [C.slc 0 0 l.length none]), VV.one (V1.c (C.ptr 4 0 0)), VV.one (V1.c (C.slc 5 0 (ofF l most).items.length none)), i64 (1 : Int), VV.one (V1.c (C.int
 .i64 (rnF l (1 : Int) false (ofF l most).items).fst)), VV.one (V1.agg [C.slc 0 0 l.length none]), VV.one (V1.c (C.ptr 4 0 0)), VV.one (V1.c (C.slc 5 0 (ofF l most).items.length none)), i64 (1 : Int), VV.one
 (V1.c (C.int .i64 (rnF l (1 : Int) true (ofF l most).items).fst)), VV.one (V1.agg [C.int .i64 (rnF l (1 : Int) false (ofF l most).items).fst, C.int .i64 (rnF l (1 : Int) true (ofF l most).items).fst]),
 VV.one (V1.c (C.ptr 4 0 2)), VV.one (V1.c (C.ptr 4 0 4)), VV.any] [Atom.ro Kd.cell l, Atom.cells 25 [C.slc 0 0 l.length none], Atom.cells 34 [C.nils, C.nils, C.int .i64 (0 : Int), C.int .i64 (0 : Int),
 C.int .i64 (0 : Int), C.int .i64 (0 : Int)], Atom.gone, Atom.cells 34 [C.slc 5 0 (ofF l most).items.length none, C.slc 6 0 (ofF l most).left.length none, C.int .i64 (needV (ofF l most) 1).n0, C.int .i64
 (needV (ofF l most) 1).b0, C.int .i64 (rnF l (1 : Int) false (ofF l most).items).fst, C.int .i64 (rnF l (1 : Int) true (ofF l most).items).fst], Atom.arr Kd.item (ofF l most).items, Atom.arr Kd.int (ofF
 l most).left])) := by kernel_rfl
end Go.Proofs.Ytljamcgngojaeaa.T
namespace Go.Proofs.Ytljamcgngojaeaa.T
open Go.Proofs.Ytljamcgngojaeaa.E
set_option maxRecDepth 100000
set_option linter.unusedVariables false
set_option maxHeartbeats 8000000 in
theorem rof_ok (l : List Cell) (most : Int) : CtOk Try.prog 20 (ct_rof l most) := CtOk_of KK_ok tab15 (ann_rof l most) (fn := Try.f20) rfl (fun _ _ => rfl) fun hn => by
  obtain ⟨hl, hn, hm⟩ := hn
  rw [vc_rof]
  have hll : (leftOf l most).length = l.length := by unfold leftOf leaveF marks; exact tb_len _ _
  have hits := ofS_items l (leftOf l most) l.length
  have n5 : (ofF l most).items.length ≤ 100000 := Nat.le_trans hits.1 hn
  have hit : ∀ it ∈ (ofF l most).items, 0 ≤ it.cell ∧ it.cell < (l.length : Int) := fun it h => (hits.2 it h).1
  obtain ⟨r1, r2, r3, r4⟩ := rn_need (l := l) (most := most)
  refine ⟨⟨hl, by omega, hm⟩, into_mk (by kernel_rfl) (by (repeat' first | exact trivial | exact rfl | apply And.intro)) (by (repeat' first | exact trivial | exact rfl | apply And.intro)), fun _ _ => ⟨⟨((0, ps0) : Nat × PS), [.item, .int], [0, 1, 2, 3, 4, 5, 6], ⟨Nat.zero_le _, rfl, Nat.le_refl _, Nat.le_refl _⟩, trivial, into_mk (by kernel_rfl) (by (repeat' first | exact trivial | exact rfl | apply And.intro)) (by (repeat' first | exact trivial | exact rfl | apply And.intro))⟩, fun z hz => ?_⟩⟩
  obtain ⟨i, s⟩ := z
  obtain ⟨hi, hst, h6, h7⟩ := hz
  simp only [] at hi hst h6 h7
  refine ite2_decide (fun hlt => ?_) (fun hge => ?_)
  · simp only [] at hlt
    have z1 : (0 : Int) ≤ i ∧ (i : Int) < l.length := by omega
    have z2 : i < l.length := by omega
    have z3 : i < (leftOf l most).length := by omega
    have i1 : i64ok ((i : Int) + 1) := by unfold i64ok; omega
    have i3 : i64ok ((s.items.length : Int) + 1) := by unfold i64ok; omega
    have m1 : i + 1 ≤ l.length := by omega
    have m2 : l.length - (i + 1) < l.length - i := by omega
    have a1 : (s.left.length + 1) * 8 ≤ 140737488355328 := by omega
    have a2 : (s.items.length + 1) * 64 ≤ 140737488355328 := by omega
    simp only [Int.toNat_natCast, Nat.zero_add]
    refine ⟨z1, z2, trivial, z2, z1, z3, trivial, z3, ite2_mk (fun hL => ?_) (fun hL => ite2_decide (fun h3 => ite2_decide (fun hs => ?_) (fun hs1 => ite2_decide (fun hs => ?_) (fun hs2 => ?_))) (fun h3 => ite2_decide (fun h2 => ite2_decide (fun hs => ?_) (fun hs1 => ite2_decide (fun hs => ?_) (fun hs2 => ?_))) (fun h2 => ?_)))⟩
    · have hE : ofStep l (leftOf l most) i s = stLeft i s := if_pos hL
      have wl : (stLeft i s).left.length = s.left.length + 1 := by show (s.left ++ [_]).length = _; simp
      have hlen : (stLeft i s).left.length ≤ i + 1 := by rw [wl]; omega
      repeat' first | exact trivial | exact rfl | exact Nat.le_refl _ | exact i1 | exact a1 | exact ⟨((i + 1, stLeft i s) : Nat × PS), [], [0, 1, 2, 3, 4, 5, 9], ⟨m1, ps_next hst hE, Nat.le_succ_of_le h6, hlen⟩, m2, into_mk (by kernel_rfl) (by (repeat' first | exact trivial | exact rfl | apply And.intro)) (by (repeat' first | exact trivial | exact rfl | exact wl.symm | apply And.intro))⟩ | apply And.intro
    · have hw : (cAt l i).what = 3 ∨ (cAt l i).what = 2 := .inl h3
      have h2 : ¬ (cAt l i).what = 2 := by rw [show (cAt l i).what = 3 from h3]; decide
      refine ⟨i3, by rw [hs]; unfold i64ok; decide, by rw [hs]; unfold i64ok; decide, ite2_decide (fun h => absurd h h2) (fun _ => ?_)⟩
      have hE : ofStep l (leftOf l most) i s = stTo1 l i s := by
        unfold ofStep; rw [if_neg (by rw [hL]; decide)]; exact (if_pos hw).trans ((if_pos hs).trans (if_neg h2))
      have hq : s.items ++ [Item.mk ((s.items.length : Int) + 1) (i : Int) (rd l i (KK.dflt Kd.cell)).path (rd l i (KK.dflt Kd.cell)).what ((rd l i (KK.dflt Kd.cell)).side - 1) (2 - (rd l i (KK.dflt Kd.cell)).side) 0] = (stTo1 l i s).items := by
        show s.items ++ [_] = s.items ++ [_]
        rw [show (rd l i (KK.dflt Kd.cell)).side = 1 from hs]; rfl
      have wl : (stTo1 l i s).items.length = s.items.length + 1 := by show (s.items ++ [_]).length = _; simp
      have hlen : (stTo1 l i s).items.length ≤ i + 1 := by rw [wl]; omega
      repeat' first | exact trivial | exact rfl | exact Nat.le_refl _ | exact i1 | exact i3 | exact a2 | (rw [hs]; unfold i64ok; decide) | exact ⟨((i + 1, stTo1 l i s) : Nat × PS), [], [0, 1, 2, 3, 4, 10, 6], ⟨m1, ps_next hst hE, hlen, Nat.le_succ_of_le h7⟩, m2, into_mk (by kernel_rfl) (by (repeat' first | exact trivial | exact rfl | apply And.intro)) (by (repeat' first | exact trivial | exact rfl | exact hq | exact wl.symm | apply And.intro))⟩ | apply And.intro
    · have hw : (cAt l i).what = 3 ∨ (cAt l i).what = 2 := .inl h3
      have h2 : ¬ (cAt l i).what = 2 := by rw [show (cAt l i).what = 3 from h3]; decide
      refine ⟨i3, by rw [hs]; unfold i64ok; decide, by rw [hs]; unfold i64ok; decide, ite2_decide (fun h => absurd h h2) (fun _ => ?_)⟩
      have hE : ofStep l (leftOf l most) i s = stTo0 l i s := by
        unfold ofStep; rw [if_neg (by rw [hL]; decide)]; exact (if_pos hw).trans ((if_neg (by rw [show (cAt l i).side = 2 from hs]; decide)).trans ((if_pos hs).trans (if_neg h2)))
      have hq : s.items ++ [Item.mk ((s.items.length : Int) + 1) (i : Int) (rd l i (KK.dflt Kd.cell)).path (rd l i (KK.dflt Kd.cell)).what ((rd l i (KK.dflt Kd.cell)).side - 1) (2 - (rd l i (KK.dflt Kd.cell)).side) 0] = (stTo0 l i s).items := by
        show s.items ++ [_] = s.items ++ [_]
        rw [show (rd l i (KK.dflt Kd.cell)).side = 2 from hs]; rfl
      have wl : (stTo0 l i s).items.length = s.items.length + 1 := by show (s.items ++ [_]).length = _; simp
      have hlen : (stTo0 l i s).items.length ≤ i + 1 := by rw [wl]; omega
      repeat' first | exact trivial | exact rfl | exact Nat.le_refl _ | exact i1 | exact i3 | exact a2 | (rw [hs]; unfold i64ok; decide) | exact ⟨((i + 1, stTo0 l i s) : Nat × PS), [], [0, 1, 2, 3, 4, 10, 6], ⟨m1, ps_next hst hE, hlen, Nat.le_succ_of_le h7⟩, m2, into_mk (by kernel_rfl) (by (repeat' first | exact trivial | exact rfl | apply And.intro)) (by (repeat' first | exact trivial | exact rfl | exact hq | exact wl.symm | apply And.intro))⟩ | apply And.intro
    · have hE : ofStep l (leftOf l most) i s = s := by
        unfold ofStep; rw [if_neg (by rw [hL]; decide)]; exact (if_pos (.inl h3)).trans ((if_neg hs1).trans (if_neg hs2))
      exact ⟨i1, ⟨((i + 1, s) : Nat × PS), [], [0, 1, 2, 3, 4, 5, 6], ⟨m1, ps_next hst hE, Nat.le_succ_of_le h6, Nat.le_succ_of_le h7⟩, m2, into_mk (by kernel_rfl) (by (repeat' first | exact trivial | exact rfl | apply And.intro)) (by (repeat' first | exact trivial | exact rfl | apply And.intro))⟩⟩
    · have hw : (cAt l i).what = 3 ∨ (cAt l i).what = 2 := .inr h2
      refine ⟨i3, by rw [hs]; unfold i64ok; decide, by rw [hs]; unfold i64ok; decide, ite2_decide (fun _ => ?_) (fun h => absurd h2 h)⟩
      have hE : ofStep l (leftOf l most) i s = stBoth l i 0 1 s := by
        unfold ofStep; rw [if_neg (by rw [hL]; decide)]; exact (if_pos hw).trans ((if_pos hs).trans (if_pos h2))
      have hq : s.items ++ [Item.mk ((s.items.length : Int) + 1) (i : Int) (rd l i (KK.dflt Kd.cell)).path (rd l i (KK.dflt Kd.cell)).what ((rd l i (KK.dflt Kd.cell)).side - 1) (2 - (rd l i (KK.dflt Kd.cell)).side) (rd l i (KK.dflt Kd.cell)).mode] = (stBoth l i 0 1 s).items := by
        show s.items ++ [_] = s.items ++ [_]
        rw [show (rd l i (KK.dflt Kd.cell)).side = 1 from hs]; rfl
      have wl : (stBoth l i 0 1 s).items.length = s.items.length + 1 := by show (s.items ++ [_]).length = _; simp
      have hlen : (stBoth l i 0 1 s).items.length ≤ i + 1 := by rw [wl]; omega
      repeat' first | exact trivial | exact rfl | exact Nat.le_refl _ | exact i1 | exact i3 | exact a2 | (rw [hs]; unfold i64ok; decide) | exact ⟨((i + 1, stBoth l i 0 1 s) : Nat × PS), [], [0, 1, 2, 3, 4, 10, 6], ⟨m1, ps_next hst hE, hlen, Nat.le_succ_of_le h7⟩, m2, into_mk (by kernel_rfl) (by (repeat' first | exact trivial | exact rfl | apply And.intro)) (by (repeat' first | exact trivial | exact rfl | exact hq | exact wl.symm | apply And.intro))⟩ | apply And.intro
    · have hw : (cAt l i).what = 3 ∨ (cAt l i).what = 2 := .inr h2
      refine ⟨i3, by rw [hs]; unfold i64ok; decide, by rw [hs]; unfold i64ok; decide, ite2_decide (fun _ => ?_) (fun h => absurd h2 h)⟩
      have hE : ofStep l (leftOf l most) i s = stBoth l i 1 0 s := by
        unfold ofStep; rw [if_neg (by rw [hL]; decide)]; exact (if_pos hw).trans ((if_neg (by rw [show (cAt l i).side = 2 from hs]; decide)).trans ((if_pos hs).trans (if_pos h2)))
      have hq : s.items ++ [Item.mk ((s.items.length : Int) + 1) (i : Int) (rd l i (KK.dflt Kd.cell)).path (rd l i (KK.dflt Kd.cell)).what ((rd l i (KK.dflt Kd.cell)).side - 1) (2 - (rd l i (KK.dflt Kd.cell)).side) (rd l i (KK.dflt Kd.cell)).mode] = (stBoth l i 1 0 s).items := by
        show s.items ++ [_] = s.items ++ [_]
        rw [show (rd l i (KK.dflt Kd.cell)).side = 2 from hs]; rfl
      have wl : (stBoth l i 1 0 s).items.length = s.items.length + 1 := by show (s.items ++ [_]).length = _; simp
      have hlen : (stBoth l i 1 0 s).items.length ≤ i + 1 := by rw [wl]; omega
      repeat' first | exact trivial | exact rfl | exact Nat.le_refl _ | exact i1 | exact i3 | exact a2 | (rw [hs]; unfold i64ok; decide) | exact ⟨((i + 1, stBoth l i 1 0 s) : Nat × PS), [], [0, 1, 2, 3, 4, 10, 6], ⟨m1, ps_next hst hE, hlen, Nat.le_succ_of_le h7⟩, m2, into_mk (by kernel_rfl) (by (repeat' first | exact trivial | exact rfl | apply And.intro)) (by (repeat' first | exact trivial | exact rfl | exact hq | exact wl.symm | apply And.intro))⟩ | apply And.intro
    · have hE : ofStep l (leftOf l most) i s = s := by
        unfold ofStep; rw [if_neg (by rw [hL]; decide)]; exact (if_pos (.inr h2)).trans ((if_neg hs1).trans (if_neg hs2))
      exact ⟨i1, ⟨((i + 1, s) : Nat × PS), [], [0, 1, 2, 3, 4, 5, 6], ⟨m1, ps_next hst hE, Nat.le_succ_of_le h6, Nat.le_succ_of_le h7⟩, m2, into_mk (by kernel_rfl) (by (repeat' first | exact trivial | exact rfl | apply And.intro)) (by (repeat' first | exact trivial | exact rfl | apply And.intro))⟩⟩
    · have hE : ofStep l (leftOf l most) i s = s := by
        unfold ofStep; rw [if_neg (by rw [hL]; decide)]; exact if_neg (fun h => h.elim h3 h2)
      exact ⟨i1, ⟨((i + 1, s) : Nat × PS), [], [0, 1, 2, 3, 4, 5, 6], ⟨m1, ps_next hst hE, Nat.le_succ_of_le h6, Nat.le_succ_of_le h7⟩, m2, into_mk (by kernel_rfl) (by (repeat' first | exact trivial | exact rfl | apply And.intro)) (by (repeat' first | exact trivial | exact rfl | apply And.intro))⟩⟩
  · have e : i = l.length := by omega
    subst e
    have hs : s = ofF l most := hst
    subst hs
    refine ⟨⟨(0 : Nat), [], [0, 1, 2, 3, 4, 5, 6], Nat.zero_le _, trivial, into_mk (by kernel_rfl) (by (repeat' first | exact trivial | exact rfl | apply And.intro)) (by (repeat' first | exact trivial | exact rfl | apply And.intro))⟩, fun v hv => ⟨ite2_decide (fun hv2 => ?_) (fun hv2 => ?_), fun _ h0 => ?_, fun _ h1 => ?_⟩⟩
    · have hv' : v ≤ 2 := hv
      rcases (by omega : v = 0 ∨ v = 1) with rfl | rfl
      · exact .inl ⟨(), [], [0, 1, 2, 3, 4, 5, 6], rfl, trivial, into_mk (by kernel_rfl) (by (repeat' first | exact trivial | exact rfl | apply And.intro)) (by (repeat' first | exact trivial | exact rfl | apply And.intro))⟩
      · exact .inr ⟨(), [], [0, 1, 2, 3, 4, 5, 6], rfl, trivial, into_mk (by kernel_rfl) (by (repeat' first | exact trivial | exact rfl | apply And.intro)) (by (repeat' first | exact trivial | exact rfl | apply And.intro))⟩
    · obtain rfl : v = 2 := by have hv' : v ≤ 2 := hv; omega
      exact ⟨(), [], [0, 5, 6], trivial, by (repeat' first | exact trivial | exact rfl | apply And.intro)⟩
    · have hv' : v = 0 := by omega
      subst hv'
      repeat' first | exact trivial | exact rfl | exact hl | exact n5 | exact hit | decide | (unfold i64ok; decide) | (intro _ _) | apply And.intro
      refine ⟨(1 : Nat), [], [0, 1, 2, 3, 4, 5, 6], by show 1 ≤ 2; decide, by decide, into_mk (by kernel_rfl) (by (repeat' first | exact trivial | exact rfl | apply And.intro)) (by (repeat' first | exact trivial | exact rfl | exact r1 | exact r2 | apply And.intro))⟩
    · have hv' : v = 1 := by omega
      subst hv'
      repeat' first | exact trivial | exact rfl | exact hl | exact n5 | exact hit | decide | (unfold i64ok; decide) | (intro _ _) | apply And.intro
      refine ⟨(2 : Nat), [], [0, 1, 2, 3, 4, 5, 6], by show 2 ≤ 2; decide, by decide, into_mk (by kernel_rfl) (by (repeat' first | exact trivial | exact rfl | apply And.intro)) (by (repeat' first | exact trivial | exact rfl | exact r3 | exact r4 | apply And.intro))⟩
end Go.Proofs.Ytljamcgngojaeaa.T
