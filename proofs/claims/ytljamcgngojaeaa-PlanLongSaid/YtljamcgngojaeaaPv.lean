/- The plan with its sides exchanged, the function. -/
import Derived.Test.YtljamcgngojaeaaPu
namespace Go.Proofs.Ytljamcgngojaeaa.T
open Go.Proofs.Ytljamcgngojaeaa.E
set_option maxRecDepth 100000
set_option linter.unusedVariables false
def tab10 : Tab Try.prog KK := ⟨mixed, fun f args H => match f, args with
  | 21, [.one (.agg [.slc n 0 len none]), .one (.c (.int _ a)), .one (.agg [.int _ p, .int _ q, .int _ r, .int _ s])] => match getL .cell (at_ H n) with
    | some l => some (ct_fits l a ⟨p, q, r, s⟩, [], [n])
    | none => none
  | f, args => tab9.pick f args H, fun f args H ct ks τ h => by
    split at h
    · split at h
      · cases h; exact fits_ok _ _ _
      · cases h
    · exact tab9.ok _ _ _ _ _ _ h⟩
def ct_planSides (l : List Cell) (most : Int) : Ct KK := { need := Cells l ∧ Paths l ∧ i64ok most, pre := [.ro .cell l], args := [.agg [.slc 0 0 l.length none], i64 most], Y := Unit, ok := fun _ => True, ret := fun _ => boolv true, post := fun _ => [.gone] }
def invS7 (l : List Cell) (most : Int) : Inv KK := { X := Nat, fr := fun i => [.any, i64 most, .c (.ptr 1 0 0), .any, .any, .c (.slc 2 0 i none), i64 i] ++ anys 139, H := fun i => [.ro .cell l, .cells 25 [.slc 0 0 l.length none], .arr .cell (flipF l i)], ok := fun i => i ≤ l.length, meas := fun i : Nat => l.length - i }
abbrev flF (l : List Cell) : List Cell := flipF l l.length
def invS13 (l : List Cell) (most : Int) : Inv KK := { X := Unit, fr := fun _ => [.any, i64 most, .c (.ptr 1 0 0), .any, .any, .c (.slc 2 0 l.length none)] ++ anys 140, H := fun _ => [.ro .cell l, .cells 25 [.slc 0 0 l.length none], .arr .cell (flF l)], ok := fun _ => True, meas := fun _ => 0 }
def invS20 (l : List Cell) (most : Int) : Inv KK := { X := Nat, fr := fun i => [.any, .any, .any, .any, .any, .any, .any, .any, .c (.ptr 7 0 0), .c (.ptr 8 0 0), .any, i64 i] ++ anys 134, H := fun _ => [.ro .cell l, .gone, .gone, .arr .item (ofF l most).items, .gone, .arr .item (ofF (flF l) most).items, .gone, .cells 34 (planC 3 4 (ofF l most)), .cells 34 (planC 5 6 (ofF (flF l) most))], ok := fun i => i ≤ (ofF l most).items.length, meas := fun i : Nat => (ofF l most).items.length - i }
def annSides (l : List Cell) (most : Int) : Ann KK := ⟨fun id _ _ => match id with
  | 7 => some (invS7 l most)
  | 20 => some (invS20 l most)
  | _ => none, fun id _ _ => match id with
  | 13 => some (invS13 l most)
  | _ => none⟩
theorem vc_planSides (l : List Cell) (most : Int) : evFn tab10 (annSides l most) Try.f7 (ct_planSides l most) = ( (i64ok (↑l.length : Int) ∧ ∀ (c : Cell), List.Mem c l → i64ok (↑c.path.size : Int)) ∧ Into (K := KK) 0 [] [0] [VV.one (V1.agg [C.slc 0 0 l.length none])] [Atom.ro Kd.cell l, Atom.cells 25 [C.slc 0 0 l.length
 none]] [VV.one (V1.agg [C.slc 0 0 l.length none])] [Atom.ro Kd.cell l] ∧ ∀ (y : Bool), (y = true → l.length ≤ 300) → ite2 y (True ∧ Into (K := KK) 0 [] [] [] [Atom.ro Kd.cell l, Atom.cells 25 [C.slc 0
 0 l.length none]] [] [] ∧ ∀ (y_1 : Unit), True → (Enter 1 (invS7 l most) (fun (x : Nat) => True) [VV.one (V1.agg [C.slc 0 0 l.length none]), i64 most, VV.one (V1.c (C.ptr 1 0 0)), VV.any, boolv false,
 VV.one (V1.c C.nils), i64 (0 : Int), VV.any, VV.any, VV.any, VV.any, VV.any, VV.any, VV.one (V1.agg [C.slc 0 0 l.length none]), boolv y, boolv false, boolv true, boolv false, VV.any, VV.any, VV.any, VV.any,
 VV.any, VV.any, VV.any, VV.any, VV.any, VV.any, VV.any, VV.any, VV.any, VV.any, VV.any, VV.any, VV.any, VV.any, VV.any, VV.any, VV.any, VV.any, VV.any, VV.any, VV.any, VV.any, VV.any, VV.any, VV.any, VV.any,
 VV.any, VV.any, VV.any, VV.any, VV.any, VV.any, VV.any, VV.any, VV.any, VV.any, VV.any, VV.any, VV.any, VV.any, VV.any, VV.any, VV.any, VV.any, VV.any, VV.any, VV.any, VV.any, VV.any, VV.any, VV.any, VV.any,
 VV.any, VV.any, VV.any, VV.any, VV.any, VV.any, VV.any, VV.any, VV.any, VV.any, VV.any, VV.any, VV.any, VV.any, VV.any, VV.any, VV.any, VV.any, VV.any, VV.any, VV.any, VV.any, VV.any, VV.any, VV.any, VV.any,
 VV.any, VV.any, VV.any, VV.any, VV.any, VV.any, VV.any, VV.any, VV.any, VV.any, VV.any, VV.any, VV.any, VV.any, VV.any, VV.any, VV.any, VV.any, VV.any, VV.any, VV.any, VV.any, VV.any, VV.any, VV.any, VV.any,
 VV.any, VV.any, VV.any, VV.any, VV.any, VV.any, VV.any, VV.any, VV.any, VV.any, VV.any, VV.any, VV.any, VV.any, VV.any, VV.any, VV.any, VV.any, VV.any, VV.any] [Atom.ro Kd.cell l, Atom.cells 25 [C.slc
 0 0 l.length none]] ∧ ∀ (z : Nat), z ≤ l.length → ite2 (decide ((↑z : Int) < (↑l.length : Int))) (((0 : Int) ≤ (↑z : Int) ∧ (↑z : Int) < (↑l.length : Int)) ∧ 0 + (↑z : Int).toNat < l.length ∧ True ∧ 0
 + (↑z : Int).toNat < l.length ∧ ite2 (decide ((rd l (0 + (↑z : Int).toNat) (KK.dflt Kd.cell)).side = (1 : Int))) (i64ok ((3 : Int) - (rd l (0 + (↑z : Int).toNat) (KK.dflt Kd.cell)).side) ∧ z = (flipF l
 z).length ∧ (1 ≤ 1 ∧ True) ∧ ((flipF l z).length + 1) * 88 ≤ 140737488355328 ∧ i64ok ((↑z : Int) + (1 : Int)) ∧ Enter 1 (invS7 l most) (fun (z' : Nat) => l.length - z' < l.length - z) [VV.any, i64 most,
 VV.one (V1.c (C.ptr 1 0 0)), VV.any, VV.any, VV.one (V1.c (C.slc 5 0 ((flipF l z).length + 1) none)), i64 ((↑z : Int) + (1 : Int)), VV.one (V1.c (C.ptr 3 0 0)), VV.any, VV.any, VV.any, VV.any, VV.any,
 VV.any, VV.any, VV.any, VV.any, VV.any, i64 (↑z : Int), VV.one (V1.c (C.ptr 1 0 0)), VV.one (V1.c (C.slc 0 0 l.length none)), i64 (↑l.length : Int), boolv true, i64 (↑z : Int), i64 ((↑z : Int) + (1 : Int)),
 VV.one (V1.c (C.ptr 1 0 0)), VV.one (V1.c (C.slc 0 0 l.length none)), i64 (↑z : Int), VV.one (V1.c (C.ptr 0 (0 + (↑z : Int).toNat) 0)), VV.one (V1.agg [C.str (rd l (0 + (↑z : Int).toNat) (KK.dflt Kd.cell)).path,
 C.int .i64 (rd l (0 + (↑z : Int).toNat) (KK.dflt Kd.cell)).what, C.int .i64 (rd l (0 + (↑z : Int).toNat) (KK.dflt Kd.cell)).side, C.int .i64 (rd l (0 + (↑z : Int).toNat) (KK.dflt Kd.cell)).mode, C.int
 .i64 (rd l (0 + (↑z : Int).toNat) (KK.dflt Kd.cell)).keep, C.int .i64 (rd l (0 + (↑z : Int).toNat) (KK.dflt Kd.cell)).take, C.int .i64 (rd l (0 + (↑z : Int).toNat) (KK.dflt Kd.cell)).names, C.int .i64
 (rd l (0 + (↑z : Int).toNat) (KK.dflt Kd.cell)).bytes, C.int .i64 (rd l (0 + (↑z : Int).toNat) (KK.dflt Kd.cell)).hadN, C.int .i64 (rd l (0 + (↑z : Int).toNat) (KK.dflt Kd.cell)).hadB]), VV.one (V1.c (C.ptr
 3 0 2)), i64 (rd l (0 + (↑z : Int).toNat) (KK.dflt Kd.cell)).side, boolv true, boolv true, VV.tup [], VV.tup [], VV.tup [], boolv true, VV.one (V1.c (C.ptr 3 0 2)), i64 (rd l (0 + (↑z : Int).toNat) (KK.dflt
 Kd.cell)).side, VV.one (V1.c (C.int .i64 ((3 : Int) - (rd l (0 + (↑z : Int).toNat) (KK.dflt Kd.cell)).side))), VV.one (V1.c (C.ptr 3 0 2)), VV.one (V1.c (C.slc 2 0 z none)), VV.one (V1.agg [C.str (rd l
 (0 + (↑z : Int).toNat) (KK.dflt Kd.cell)).path, C.int .i64 (rd l (0 + (↑z : Int).toNat) (KK.dflt Kd.cell)).what, C.int .i64 ((3 : Int) - (rd l (0 + (↑z : Int).toNat) (KK.dflt Kd.cell)).side), C.int .i64
 (rd l (0 + (↑z : Int).toNat) (KK.dflt Kd.cell)).mode, C.int .i64 (rd l (0 + (↑z : Int).toNat) (KK.dflt Kd.cell)).keep, C.int .i64 (rd l (0 + (↑z : Int).toNat) (KK.dflt Kd.cell)).take, C.int .i64 (rd l
 (0 + (↑z : Int).toNat) (KK.dflt Kd.cell)).names, C.int .i64 (rd l (0 + (↑z : Int).toNat) (KK.dflt Kd.cell)).bytes, C.int .i64 (rd l (0 + (↑z : Int).toNat) (KK.dflt Kd.cell)).hadN, C.int .i64 (rd l (0 +
 (↑z : Int).toNat) (KK.dflt Kd.cell)).hadB]), VV.one (V1.c (C.slc 4 0 1 none)), VV.one (V1.c (C.slc 5 0 ((flipF l z).length + 1) none)), VV.any, VV.any, VV.any, VV.any, VV.any, VV.any, VV.any, VV.any, VV.any,
 VV.any, VV.any, VV.any, VV.any, VV.any, VV.any, VV.any, VV.any, VV.any, VV.any, VV.any, VV.any, VV.any, VV.any, VV.any, VV.any, VV.any, VV.any, VV.any, VV.any, VV.any, VV.any, VV.any, VV.any, VV.any, VV.any,
 VV.any, VV.any, VV.any, VV.any, VV.any, VV.any, VV.any, VV.any, VV.any, VV.any, VV.any, VV.any, VV.any, VV.any, VV.any, VV.any, VV.any, VV.any, VV.any, VV.any, VV.any, VV.any, VV.any, VV.any, VV.any, VV.any,
 VV.any, VV.any, VV.any, VV.any, VV.any, VV.any, VV.any, VV.any, VV.any, VV.any, VV.any, VV.any, VV.any, VV.any, VV.any, VV.any, VV.any, VV.any, VV.any, VV.any, VV.any, VV.any, VV.any, VV.any, VV.any, VV.any,
 VV.any, VV.any, VV.any, VV.any, VV.any, VV.any, VV.any, VV.any, VV.any, VV.any, VV.any, VV.any, VV.any] [Atom.ro Kd.cell l, Atom.cells 25 [C.slc 0 0 l.length none], Atom.gone, Atom.cells 44 [C.str (rd
 l (0 + (↑z : Int).toNat) (KK.dflt Kd.cell)).path, C.int .i64 (rd l (0 + (↑z : Int).toNat) (KK.dflt Kd.cell)).what, C.int .i64 ((3 : Int) - (rd l (0 + (↑z : Int).toNat) (KK.dflt Kd.cell)).side), C.int .i64
 (rd l (0 + (↑z : Int).toNat) (KK.dflt Kd.cell)).mode, C.int .i64 (rd l (0 + (↑z : Int).toNat) (KK.dflt Kd.cell)).keep, C.int .i64 (rd l (0 + (↑z : Int).toNat) (KK.dflt Kd.cell)).take, C.int .i64 (rd l
 (0 + (↑z : Int).toNat) (KK.dflt Kd.cell)).names, C.int .i64 (rd l (0 + (↑z : Int).toNat) (KK.dflt Kd.cell)).bytes, C.int .i64 (rd l (0 + (↑z : Int).toNat) (KK.dflt Kd.cell)).hadN, C.int .i64 (rd l (0 +
 (↑z : Int).toNat) (KK.dflt Kd.cell)).hadB], Atom.arr Kd.cell [(Cell.mk ((rd l (0 + (↑z : Int).toNat) (KK.dflt Kd.cell)).path) ((rd l (0 + (↑z : Int).toNat) (KK.dflt Kd.cell)).what) ((3 : Int) - (rd l (0
 + (↑z : Int).toNat) (KK.dflt Kd.cell)).side) ((rd l (0 + (↑z : Int).toNat) (KK.dflt Kd.cell)).mode) ((rd l (0 + (↑z : Int).toNat) (KK.dflt Kd.cell)).keep) ((rd l (0 + (↑z : Int).toNat) (KK.dflt Kd.cell)).take)
 ((rd l (0 + (↑z : Int).toNat) (KK.dflt Kd.cell)).names) ((rd l (0 + (↑z : Int).toNat) (KK.dflt Kd.cell)).bytes) ((rd l (0 + (↑z : Int).toNat) (KK.dflt Kd.cell)).hadN) ((rd l (0 + (↑z : Int).toNat) (KK.dflt
 Kd.cell)).hadB))], Atom.arr Kd.cell (flipF l z ++ [(Cell.mk ((rd l (0 + (↑z : Int).toNat) (KK.dflt Kd.cell)).path) ((rd l (0 + (↑z : Int).toNat) (KK.dflt Kd.cell)).what) ((3 : Int) - (rd l (0 + (↑z : Int).toNat)
 (KK.dflt Kd.cell)).side) ((rd l (0 + (↑z : Int).toNat) (KK.dflt Kd.cell)).mode) ((rd l (0 + (↑z : Int).toNat) (KK.dflt Kd.cell)).keep) ((rd l (0 + (↑z : Int).toNat) (KK.dflt Kd.cell)).take) ((rd l (0 +
 (↑z : Int).toNat) (KK.dflt Kd.cell)).names) ((rd l (0 + (↑z : Int).toNat) (KK.dflt Kd.cell)).bytes) ((rd l (0 + (↑z : Int).toNat) (KK.dflt Kd.cell)).hadN) ((rd l (0 + (↑z : Int).toNat) (KK.dflt Kd.cell)).hadB))])])
 (ite2 (decide ((rd l (0 + (↑z : Int).toNat) (KK.dflt Kd.cell)).side = (2 : Int))) (i64ok ((3 : Int) - (rd l (0 + (↑z : Int).toNat) (KK.dflt Kd.cell)).side) ∧ z = (flipF l z).length ∧ (1 ≤ 1 ∧ True) ∧ ((flipF
 l z).length + 1) * 88 ≤ 140737488355328 ∧ i64ok ((↑z : Int) + (1 : Int)) ∧ Enter 1 (invS7 l most) (fun (z' : Nat) => l.length - z' < l.length - z) [VV.any, i64 most, VV.one (V1.c (C.ptr 1 0 0)), VV.any,
 VV.any, VV.one (V1.c (C.slc 5 0 ((flipF l z).length + 1) none)), i64 ((↑z : Int) + (1 : Int)), VV.one (V1.c (C.ptr 3 0 0)), VV.any, VV.any, VV.any, VV.any, VV.any, VV.any, VV.any, VV.any, VV.any, VV.any,
 i64 (↑z : Int), VV.one (V1.c (C.ptr 1 0 0)), VV.one (V1.c (C.slc 0 0 l.length none)), i64 (↑l.length : Int), boolv true, i64 (↑z : Int), i64 ((↑z : Int) + (1 : Int)), VV.one (V1.c (C.ptr 1 0 0)), VV.one
 (V1.c (C.slc 0 0 l.length none)), i64 (↑z : Int), VV.one (V1.c (C.ptr 0 (0 + (↑z : Int).toNat) 0)), VV.one (V1.agg [C.str (rd l (0 + (↑z : Int).toNat) (KK.dflt Kd.cell)).path, C.int .i64 (rd l (0 + (↑z
 : Int).toNat) (KK.dflt Kd.cell)).what, C.int .i64 (rd l (0 + (↑z : Int).toNat) (KK.dflt Kd.cell)).side, C.int .i64 (rd l (0 + (↑z : Int).toNat) (KK.dflt Kd.cell)).mode, C.int .i64 (rd l (0 + (↑z : Int).toNat)
 (KK.dflt Kd.cell)).keep, C.int .i64 (rd l (0 + (↑z : Int).toNat) (KK.dflt Kd.cell)).take, C.int .i64 (rd l (0 + (↑z : Int).toNat) (KK.dflt Kd.cell)).names, C.int .i64 (rd l (0 + (↑z : Int).toNat) (KK.dflt
 Kd.cell)).bytes, C.int .i64 (rd l (0 + (↑z : Int).toNat) (KK.dflt Kd.cell)).hadN, C.int .i64 (rd l (0 + (↑z : Int).toNat) (KK.dflt Kd.cell)).hadB]), VV.one (V1.c (C.ptr 3 0 2)), i64 (rd l (0 + (↑z : Int).toNat)
 (KK.dflt Kd.cell)).side, boolv false, boolv false, VV.one (V1.c (C.ptr 3 0 2)), i64 (rd l (0 + (↑z : Int).toNat) (KK.dflt Kd.cell)).side, boolv true, boolv true, VV.one (V1.c (C.ptr 3 0 2)), i64 (rd l
 (0 + (↑z : Int).toNat) (KK.dflt Kd.cell)).side, VV.one (V1.c (C.int .i64 ((3 : Int) - (rd l (0 + (↑z : Int).toNat) (KK.dflt Kd.cell)).side))), VV.one (V1.c (C.ptr 3 0 2)), VV.one (V1.c (C.slc 2 0 z none)),
 VV.one (V1.agg [C.str (rd l (0 + (↑z : Int).toNat) (KK.dflt Kd.cell)).path, C.int .i64 (rd l (0 + (↑z : Int).toNat) (KK.dflt Kd.cell)).what, C.int .i64 ((3 : Int) - (rd l (0 + (↑z : Int).toNat) (KK.dflt
 Kd.cell)).side), C.int .i64 (rd l (0 + (↑z : Int).toNat) (KK.dflt Kd.cell)).mode, C.int .i64 (rd l (0 + (↑z : Int).toNat) (KK.dflt Kd.cell)).keep, C.int .i64 (rd l (0 + (↑z : Int).toNat) (KK.dflt Kd.cell)).take,
 C.int .i64 (rd l (0 + (↑z : Int).toNat) (KK.dflt Kd.cell)).names, C.int .i64 (rd l (0 + (↑z : Int).toNat) (KK.dflt Kd.cell)).bytes, C.int .i64 (rd l (0 + (↑z : Int).toNat) (KK.dflt Kd.cell)).hadN, C.int
 .i64 (rd l (0 + (↑z : Int).toNat) (KK.dflt Kd.cell)).hadB]), VV.one (V1.c (C.slc 4 0 1 none)), VV.one (V1.c (C.slc 5 0 ((flipF l z).length + 1) none)), VV.any, VV.any, VV.any, VV.any, VV.any, VV.any, VV.any,
 VV.any, VV.any, VV.any, VV.any, VV.any, VV.any, VV.any, VV.any, VV.any, VV.any, VV.any, VV.any, VV.any, VV.any, VV.any, VV.any, VV.any, VV.any, VV.any, VV.any, VV.any, VV.any, VV.any, VV.any, VV.any, VV.any,
 VV.any, VV.any, VV.any, VV.any, VV.any, VV.any, VV.any, VV.any, VV.any, VV.any, VV.any, VV.any, VV.any, VV.any, VV.any, VV.any, VV.any, VV.any, VV.any, VV.any, VV.any, VV.any, VV.any, VV.any, VV.any, VV.any,
 VV.any, VV.any, VV.any, VV.any, VV.any, VV.any, VV.any, VV.any, VV.any, VV.any, VV.any, VV.any, VV.any, VV.any, VV.any, VV.any, VV.any, VV.any, VV.any, VV.any, VV.any, VV.any, VV.any, VV.any, VV.any, VV.any,
 VV.any, VV.any, VV.any, VV.any, VV.any, VV.any, VV.any, VV.any, VV.any, VV.any, VV.any, VV.any, VV.any, VV.any, VV.any] [Atom.ro Kd.cell l, Atom.cells 25 [C.slc 0 0 l.length none], Atom.gone, Atom.cells
 44 [C.str (rd l (0 + (↑z : Int).toNat) (KK.dflt Kd.cell)).path, C.int .i64 (rd l (0 + (↑z : Int).toNat) (KK.dflt Kd.cell)).what, C.int .i64 ((3 : Int) - (rd l (0 + (↑z : Int).toNat) (KK.dflt Kd.cell)).side),
 C.int .i64 (rd l (0 + (↑z : Int).toNat) (KK.dflt Kd.cell)).mode, C.int .i64 (rd l (0 + (↑z : Int).toNat) (KK.dflt Kd.cell)).keep, C.int .i64 (rd l (0 + (↑z : Int).toNat) (KK.dflt Kd.cell)).take, C.int
 .i64 (rd l (0 + (↑z : Int).toNat) (KK.dflt Kd.cell)).names, C.int .i64 (rd l (0 + (↑z : Int).toNat) (KK.dflt Kd.cell)).bytes, C.int .i64 (rd l (0 + (↑z : Int).toNat) (KK.dflt Kd.cell)).hadN, C.int .i64
 (rd l (0 + (↑z : Int).toNat) (KK.dflt Kd.cell)).hadB], Atom.arr Kd.cell [(Cell.mk ((rd l (0 + (↑z : Int).toNat) (KK.dflt Kd.cell)).path) ((rd l (0 + (↑z : Int).toNat) (KK.dflt Kd.cell)).what) ((3 : Int)
 - (rd l (0 + (↑z : Int).toNat) (KK.dflt Kd.cell)).side) ((rd l (0 + (↑z : Int).toNat) (KK.dflt Kd.cell)).mode) ((rd l (0 + (↑z : Int).toNat) (KK.dflt Kd.cell)).keep) ((rd l (0 + (↑z : Int).toNat) (KK.dflt
 Kd.cell)).take) ((rd l (0 + (↑z : Int).toNat) (KK.dflt Kd.cell)).names) ((rd l (0 + (↑z : Int).toNat) (KK.dflt Kd.cell)).bytes) ((rd l (0 + (↑z : Int).toNat) (KK.dflt Kd.cell)).hadN) ((rd l (0 + (↑z :
 Int).toNat) (KK.dflt Kd.cell)).hadB))], Atom.arr Kd.cell (flipF l z ++ [(Cell.mk ((rd l (0 + (↑z : Int).toNat) (KK.dflt Kd.cell)).path) ((rd l (0 + (↑z : Int).toNat) (KK.dflt Kd.cell)).what) ((3 : Int)
 - (rd l (0 + (↑z : Int).toNat) (KK.dflt Kd.cell)).side) ((rd l (0 + (↑z : Int).toNat) (KK.dflt Kd.cell)).mode) ((rd l (0 + (↑z : Int).toNat) (KK.dflt Kd.cell)).keep) ((rd l (0 + (↑z : Int).toNat) (KK.dflt
 Kd.cell)).take) ((rd l (0 + (↑z : Int).toNat) (KK.dflt Kd.cell)).names) ((rd l (0 + (↑z : Int).toNat) (KK.dflt Kd.cell)).bytes) ((rd l (0 + (↑z : Int).toNat) (KK.dflt Kd.cell)).hadN) ((rd l (0 + (↑z :
 Int).toNat) (KK.dflt Kd.cell)).hadB))])]) (z = (flipF l z).length ∧ (1 ≤ 1 ∧ True) ∧ ((flipF l z).length + 1) * 88 ≤ 140737488355328 ∧ i64ok ((↑z : Int) + (1 : Int)) ∧ Enter 1 (invS7 l most) (fun (z' :
 Nat) => l.length - z' < l.length - z) [VV.any, i64 most, VV.one (V1.c (C.ptr 1 0 0)), VV.any, VV.any, VV.one (V1.c (C.slc 5 0 ((flipF l z).length + 1) none)), i64 ((↑z : Int) + (1 : Int)), VV.one (V1.c
 (C.ptr 3 0 0)), VV.any, VV.any, VV.any, VV.any, VV.any, VV.any, VV.any, VV.any, VV.any, VV.any, i64 (↑z : Int), VV.one (V1.c (C.ptr 1 0 0)), VV.one (V1.c (C.slc 0 0 l.length none)), i64 (↑l.length : Int),
 boolv true, i64 (↑z : Int), i64 ((↑z : Int) + (1 : Int)), VV.one (V1.c (C.ptr 1 0 0)), VV.one (V1.c (C.slc 0 0 l.length none)), i64 (↑z : Int), VV.one (V1.c (C.ptr 0 (0 + (↑z : Int).toNat) 0)), VV.one
 (V1.agg [C.str (rd l (0 + (↑z : Int).toNat) (KK.dflt Kd.cell)).path, C.int .i64 (rd l (0 + (↑z : Int).toNat) (KK.dflt Kd.cell)).what, C.int .i64 (rd l (0 + (↑z : Int).toNat) (KK.dflt Kd.cell)).side, C.int
 .i64 (rd l (0 + (↑z : Int).toNat) (KK.dflt Kd.cell)).mode, C.int .i64 (rd l (0 + (↑z : Int).toNat) (KK.dflt Kd.cell)).keep, C.int .i64 (rd l (0 + (↑z : Int).toNat) (KK.dflt Kd.cell)).take, C.int .i64 (rd
 l (0 + (↑z : Int).toNat) (KK.dflt Kd.cell)).names, C.int .i64 (rd l (0 + (↑z : Int).toNat) (KK.dflt Kd.cell)).bytes, C.int .i64 (rd l (0 + (↑z : Int).toNat) (KK.dflt Kd.cell)).hadN, C.int .i64 (rd l (0
 + (↑z : Int).toNat) (KK.dflt Kd.cell)).hadB]), VV.one (V1.c (C.ptr 3 0 2)), i64 (rd l (0 + (↑z : Int).toNat) (KK.dflt Kd.cell)).side, boolv false, boolv false, VV.one (V1.c (C.ptr 3 0 2)), i64 (rd l (0
 + (↑z : Int).toNat) (KK.dflt Kd.cell)).side, boolv false, boolv false, VV.any, VV.any, VV.any, VV.any, VV.one (V1.c (C.slc 2 0 z none)), VV.one (V1.agg [C.str (rd l (0 + (↑z : Int).toNat) (KK.dflt Kd.cell)).path,
 C.int .i64 (rd l (0 + (↑z : Int).toNat) (KK.dflt Kd.cell)).what, C.int .i64 (rd l (0 + (↑z : Int).toNat) (KK.dflt Kd.cell)).side, C.int .i64 (rd l (0 + (↑z : Int).toNat) (KK.dflt Kd.cell)).mode, C.int
 .i64 (rd l (0 + (↑z : Int).toNat) (KK.dflt Kd.cell)).keep, C.int .i64 (rd l (0 + (↑z : Int).toNat) (KK.dflt Kd.cell)).take, C.int .i64 (rd l (0 + (↑z : Int).toNat) (KK.dflt Kd.cell)).names, C.int .i64
 (rd l (0 + (↑z : Int).toNat) (KK.dflt Kd.cell)).bytes, C.int .i64 (rd l (0 + (↑z : Int).toNat) (KK.dflt Kd.cell)).hadN, C.int .i64 (rd l (0 + (↑z : Int).toNat) (KK.dflt Kd.cell)).hadB]), VV.one (V1.c (C.slc
 4 0 1 none)), VV.one (V1.c (C.slc 5 0 ((flipF l z).length + 1) none)), VV.any, VV.any, VV.any, VV.any, VV.any, VV.any, VV.any, VV.any, VV.any, VV.any, VV.any, VV.any, VV.any, VV.any, VV.any, VV.any, VV.any,
 VV.any, VV.any, VV.any, VV.any, VV.any, VV.any, VV.any, VV.any, VV.any, VV.any, VV.any, VV.any, VV.any, VV.any, VV.any, VV.any, VV.any, VV.any, VV.any, VV.any, VV.any, VV.any, VV.any, VV.any, VV.any, VV.any,
 VV.any, VV.any, VV.any, VV.any, VV.any, VV.any, VV.any, VV.any, VV.any, VV.any, VV.any, VV.any, VV.any, VV.any, VV.any, VV.any, VV.any, VV.any, VV.any, VV.any, VV.any, VV.any, VV.any, VV.any, VV.any, VV.any,
 VV.any, VV.any, VV.any, VV.any, VV.any, VV.any, VV.any, VV.any, VV.any, VV.any, VV.any, VV.any, VV.any, VV.any, VV.any, VV.any, VV.any, VV.any, VV.any, VV.any, VV.any, VV.any, VV.any, VV.any, VV.any, VV.any,
 VV.any, VV.any, VV.any, VV.any, VV.any] [Atom.ro Kd.cell l, Atom.cells 25 [C.slc 0 0 l.length none], Atom.gone, Atom.cells 44 [C.str (rd l (0 + (↑z : Int).toNat) (KK.dflt Kd.cell)).path, C.int .i64 (rd
 l (0 + (↑z : Int).toNat) (KK.dflt Kd.cell)).what, C.int .i64 (rd l (0 + (↑z : Int).toNat) (KK.dflt Kd.cell)).side, C.int .i64 (rd l (0 + (↑z : Int).toNat) (KK.dflt Kd.cell)).mode, C.int .i64 (rd l (0 +
 (↑z : Int).toNat) (KK.dflt Kd.cell)).keep, C.int .i64 (rd l (0 + (↑z : Int).toNat) (KK.dflt Kd.cell)).take, C.int .i64 (rd l (0 + (↑z : Int).toNat) (KK.dflt Kd.cell)).names, C.int .i64 (rd l (0 + (↑z :
 Int).toNat) (KK.dflt Kd.cell)).bytes, C.int .i64 (rd l (0 + (↑z : Int).toNat) (KK.dflt Kd.cell)).hadN, C.int .i64 (rd l (0 + (↑z : Int).toNat) (KK.dflt Kd.cell)).hadB], Atom.arr Kd.cell [(Cell.mk ((rd
 l (0 + (↑z : Int).toNat) (KK.dflt Kd.cell)).path) ((rd l (0 + (↑z : Int).toNat) (KK.dflt Kd.cell)).what) ((rd l (0 + (↑z : Int).toNat) (KK.dflt Kd.cell)).side) ((rd l (0 + (↑z : Int).toNat) (KK.dflt Kd.cell)).mode)
 ((rd l (0 + (↑z : Int).toNat) (KK.dflt Kd.cell)).keep) ((rd l (0 + (↑z : Int).toNat) (KK.dflt Kd.cell)).take) ((rd l (0 + (↑z : Int).toNat) (KK.dflt Kd.cell)).names) ((rd l (0 + (↑z : Int).toNat) (KK.dflt
 Kd.cell)).bytes) ((rd l (0 + (↑z : Int).toNat) (KK.dflt Kd.cell)).hadN) ((rd l (0 + (↑z : Int).toNat) (KK.dflt Kd.cell)).hadB))], Atom.arr Kd.cell (flipF l z ++ [(Cell.mk ((rd l (0 + (↑z : Int).toNat)
 (KK.dflt Kd.cell)).path) ((rd l (0 + (↑z : Int).toNat) (KK.dflt Kd.cell)).what) ((rd l (0 + (↑z : Int).toNat) (KK.dflt Kd.cell)).side) ((rd l (0 + (↑z : Int).toNat) (KK.dflt Kd.cell)).mode) ((rd l (0 +
 (↑z : Int).toNat) (KK.dflt Kd.cell)).keep) ((rd l (0 + (↑z : Int).toNat) (KK.dflt Kd.cell)).take) ((rd l (0 + (↑z : Int).toNat) (KK.dflt Kd.cell)).names) ((rd l (0 + (↑z : Int).toNat) (KK.dflt Kd.cell)).bytes)
 ((rd l (0 + (↑z : Int).toNat) (KK.dflt Kd.cell)).hadN) ((rd l (0 + (↑z : Int).toNat) (KK.dflt Kd.cell)).hadB))])]))) (Enter 1 (invS13 l most) (fun (x : Unit) => True) [VV.any, i64 most, VV.one (V1.c (C.ptr
 1 0 0)), VV.any, VV.any, VV.one (V1.c (C.slc 2 0 z none)), i64 (↑z : Int), VV.any, VV.any, VV.any, VV.any, VV.any, VV.any, VV.any, VV.any, VV.any, VV.any, VV.any, i64 (↑z : Int), VV.one (V1.c (C.ptr 1
 0 0)), VV.one (V1.c (C.slc 0 0 l.length none)), i64 (↑l.length : Int), boolv false, VV.any, VV.any, VV.any, VV.any, VV.any, VV.any, VV.any, VV.any, VV.any, VV.any, VV.any, VV.any, VV.any, VV.any, VV.any,
 VV.any, VV.any, VV.any, VV.any, VV.any, VV.any, VV.any, VV.any, VV.any, VV.any, VV.any, VV.any, VV.any, VV.any, VV.any, VV.any, VV.any, VV.any, VV.any, VV.any, VV.any, VV.any, VV.any, VV.any, VV.any, VV.any,
 VV.any, VV.any, VV.any, VV.any, VV.any, VV.any, VV.any, VV.any, VV.any, VV.any, VV.any, VV.any, VV.any, VV.any, VV.any, VV.any, VV.any, VV.any, VV.any, VV.any, VV.any, VV.any, VV.any, VV.any, VV.any, VV.any,
 VV.any, VV.any, VV.any, VV.any, VV.any, VV.any, VV.any, VV.any, VV.any, VV.any, VV.any, VV.any, VV.any, VV.any, VV.any, VV.any, VV.any, VV.any, VV.any, VV.any, VV.any, VV.any, VV.any, VV.any, VV.any, VV.any,
 VV.any, VV.any, VV.any, VV.any, VV.any, VV.any, VV.any, VV.any, VV.any, VV.any, VV.any, VV.any, VV.any, VV.any, VV.any, VV.any, VV.any, VV.any, VV.any, VV.any, VV.any, VV.any, VV.any, VV.any, VV.any, VV.any,
 VV.any, VV.any, VV.any, VV.any] [Atom.ro Kd.cell l, Atom.cells 25 [C.slc 0 0 l.length none], Atom.arr Kd.cell (flipF l z)])) ∧ ∀ (z : Unit), True → ((∀ (c : Cell), List.Mem c l → c.Ok) ∧ l.length ≤ 100000
 ∧ i64ok most) ∧ Into (K := KK) 0 [] [0] [VV.one (V1.agg [C.slc 0 0 l.length none]), i64 most] [Atom.ro Kd.cell l, Atom.cells 25 [C.slc 0 0 l.length none], Atom.arr Kd.cell (flipF l l.length)] [VV.one (V1.agg
 [C.slc 0 0 l.length none]), i64 most] [Atom.ro Kd.cell l] ∧ ∀ (y : Unit), True → ((∀ (c : Cell), List.Mem c (flipF l l.length) → c.Ok) ∧ (flipF l l.length).length ≤ 100000 ∧ i64ok most) ∧ Into (K := KK)
 0 [] [2] [VV.one (V1.agg [C.slc 2 0 l.length none]), i64 most] [Atom.ro Kd.cell l, Atom.cells 25 [C.slc 0 0 l.length none], Atom.arr Kd.cell (flipF l l.length), Atom.arr Kd.item (ofF l most).items, Atom.arr
 Kd.int (ofF l most).left] [VV.one (V1.agg [C.slc 0 0 (flipF l l.length).length none]), i64 most] [Atom.ro Kd.cell (flipF l l.length)] ∧ ∀ (y : Unit), True → ((0 : Int) ≤ (0 : Int) ∧ (0 : Int) < (2 : Int))
 ∧ (2 : Int) ≠ (0 : Int) ∧ i64ok ((ofF l most).n0.tdiv (2 : Int)) ∧ ((0 : Int) ≤ (0 : Int) ∧ (0 : Int) < (2 : Int)) ∧ ((0 : Int) ≤ (1 : Int) ∧ (1 : Int) < (2 : Int)) ∧ ((0 : Int) ≤ (1 : Int) ∧ (1 : Int)
 < (2 : Int)) ∧ (2 : Int) ≠ (0 : Int) ∧ i64ok ((ofF l most).b1.tdiv (2 : Int)) ∧ ((0 : Int) ≤ (1 : Int) ∧ (1 : Int) < (2 : Int)) ∧ ((0 : Int) ≤ (0 : Int) ∧ (0 : Int) < (2 : Int)) ∧ True ∧ ((∀ (c : Cell),
 List.Mem c l → c.Ok) ∧ l.length ≤ 100000 ∧ i64ok most) ∧ Into (K := KK) 0 [] [0] [VV.one (V1.agg [C.slc 0 0 l.length none]), i64 most, VV.one (V1.agg [C.int .i64 ((ofF l most).n0.tdiv (2 : Int)), C.int
 .i64 (ofF l most).b0, C.int .i64 (ofF l most).n1, C.int .i64 ((ofF l most).b1.tdiv (2 : Int))])] [Atom.ro Kd.cell l, Atom.cells 25 [C.slc 0 0 l.length none], Atom.arr Kd.cell (flipF l l.length), Atom.arr
 Kd.item (ofF l most).items, Atom.arr Kd.int (ofF l most).left, Atom.arr Kd.item (ofF (flipF l l.length) most).items, Atom.arr Kd.int (ofF (flipF l l.length) most).left, Atom.cells 34 [C.slc 3 0 (ofF l
 most).items.length none, C.slc 4 0 (ofF l most).left.length none, C.int .i64 (ofF l most).n0, C.int .i64 (ofF l most).b0, C.int .i64 (ofF l most).n1, C.int .i64 (ofF l most).b1], Atom.cells 34 [C.slc 5
 0 (ofF (flipF l l.length) most).items.length none, C.slc 6 0 (ofF (flipF l l.length) most).left.length none, C.int .i64 (ofF (flipF l l.length) most).n0, C.int .i64 (ofF (flipF l l.length) most).b0, C.int
 .i64 (ofF (flipF l l.length) most).n1, C.int .i64 (ofF (flipF l l.length) most).b1], Atom.cells 32 [C.int .i64 ((ofF l most).n0.tdiv (2 : Int)), C.int .i64 (ofF l most).b0, C.int .i64 (ofF l most).n1,
 C.int .i64 ((ofF l most).b1.tdiv (2 : Int))]] [VV.one (V1.agg [C.slc 0 0 l.length none]), i64 most, VV.one (V1.agg [C.int .i64 ((ofF l most).n0.tdiv (2 : Int)), C.int .i64 (ofF l most).b0, C.int .i64 (ofF
 l most).n1, C.int .i64 ((ofF l most).b1.tdiv (2 : Int))])] [Atom.ro Kd.cell l] ∧ ∀ (y : Unit), True → ((((0 : Int) ≤ (1 : Int) ∧ (1 : Int) < (2 : Int)) ∧ VV.one (V1.c (C.ptr 9 0 2)) = VV.one (V1.c (C.ptr
 9 0 2))) ∧ VV.one (V1.agg [C.int .i64 (ofF l most).n1, C.int .i64 ((ofF l most).b1.tdiv (2 : Int))]) = VV.one (V1.agg [C.int .i64 (ofF l most).n1, C.int .i64 ((ofF l most).b1.tdiv (2 : Int))]) ∧ (((0 :
 Int) ≤ (0 : Int) ∧ (0 : Int) < (2 : Int)) ∧ VV.one (V1.c (C.ptr 9 0 0)) = VV.one (V1.c (C.ptr 9 0 0))) ∧ VV.one (V1.agg [C.int .i64 ((ofF l most).n0.tdiv (2 : Int)), C.int .i64 (ofF l most).b0]) = VV.one
 (V1.agg [C.int .i64 ((ofF l most).n0.tdiv (2 : Int)), C.int .i64 (ofF l most).b0]) ∧ True) ∧ ((∀ (c : Cell), List.Mem c (flipF l l.length) → c.Ok) ∧ (flipF l l.length).length ≤ 100000 ∧ i64ok most) ∧ Into
 (K := KK) 0 [] [2] [VV.one (V1.agg [C.slc 2 0 l.length none]), i64 most, VV.one (V1.agg [C.int .i64 (ofF l most).n1, C.int .i64 ((ofF l most).b1.tdiv (2 : Int)), C.int .i64 ((ofF l most).n0.tdiv (2 : Int)),
 C.int .i64 (ofF l most).b0])] [Atom.ro Kd.cell l, Atom.cells 25 [C.slc 0 0 l.length none], Atom.arr Kd.cell (flipF l l.length), Atom.arr Kd.item (ofF l most).items, Atom.arr Kd.int (ofF l most).left, Atom.arr
 Kd.item (ofF (flipF l l.length) most).items, Atom.arr Kd.int (ofF (flipF l l.length) most).left, Atom.cells 34 [C.slc 3 0 (ofF l most).items.length none, C.slc 4 0 (ofF l most).left.length none, C.int
 .i64 (ofF l most).n0, C.int .i64 (ofF l most).b0, C.int .i64 (ofF l most).n1, C.int .i64 (ofF l most).b1], Atom.cells 34 [C.slc 5 0 (ofF (flipF l l.length) most).items.length none, C.slc 6 0 (ofF (flipF
 l l.length) most).left.length none, C.int .i64 (ofF (flipF l l.length) most).n0, C.int .i64 (ofF (flipF l l.length) most).b0, C.int .i64 (ofF (flipF l l.length) most).n1, C.int .i64 (ofF (flipF l l.length)
 most).b1], Atom.cells 32 [C.int .i64 ((ofF l most).n0.tdiv (2 : Int)), C.int .i64 (ofF l most).b0, C.int .i64 (ofF l most).n1, C.int .i64 ((ofF l most).b1.tdiv (2 : Int))]] [VV.one (V1.agg [C.slc 0 0 (flipF
 l l.length).length none]), i64 most, VV.one (V1.agg [C.int .i64 (ofF l most).n1, C.int .i64 ((ofF l most).b1.tdiv (2 : Int)), C.int .i64 ((ofF l most).n0.tdiv (2 : Int)), C.int .i64 (ofF l most).b0])]
 [Atom.ro Kd.cell (flipF l l.length)] ∧ ∀ (y : Unit), True → ite2 (decide ((↑(fitsF l most (Four.mk ((ofF l most).n0.tdiv (2 : Int)) ((ofF l most).b0) ((ofF l most).n1) ((ofF l most).b1.tdiv (2 : Int))))
 : Int) = (↑(fitsF (flipF l l.length) most (Four.mk ((ofF l most).n1) ((ofF l most).b1.tdiv (2 : Int)) ((ofF l most).n0.tdiv (2 : Int)) ((ofF l most).b0))) : Int))) (True ∧ i64ok (↑(ofF l most).left.length
 : Int) ∧ Into (K := KK) 0 [] [4, 6] [VV.one (V1.c (C.slc 4 0 (ofF l most).left.length none)), VV.one (V1.c (C.slc 6 0 (ofF (flipF l l.length) most).left.length none))] [Atom.ro Kd.cell l, Atom.cells 25
 [C.slc 0 0 l.length none], Atom.arr Kd.cell (flipF l l.length), Atom.arr Kd.item (ofF l most).items, Atom.arr Kd.int (ofF l most).left, Atom.arr Kd.item (ofF (flipF l l.length) most).items, Atom.arr Kd.int
 (ofF (flipF l l.length) most).left, Atom.cells 34 [C.slc 3 0 (ofF l most).items.length none, C.slc 4 0 (ofF l most).left.length none, C.int .i64 (ofF l most).n0, C.int .i64 (ofF l most).b0, C.int .i64
 (ofF l most).n1, C.int .i64 (ofF l most).b1], Atom.cells 34 [C.slc 5 0 (ofF (flipF l l.length) most).items.length none, C.slc 6 0 (ofF (flipF l l.length) most).left.length none, C.int .i64 (ofF (flipF
 l l.length) most).n0, C.int .i64 (ofF (flipF l l.length) most).b0, C.int .i64 (ofF (flipF l l.length) most).n1, C.int .i64 (ofF (flipF l l.length) most).b1], Atom.cells 32 [C.int .i64 ((ofF l most).n0.tdiv
 (2 : Int)), C.int .i64 (ofF l most).b0, C.int .i64 (ofF l most).n1, C.int .i64 ((ofF l most).b1.tdiv (2 : Int))]] [VV.one (V1.c (C.slc 0 0 (ofF l most).left.length none)), VV.one (V1.c (C.slc 1 0 (ofF
 (flipF l l.length) most).left.length none))] [Atom.ro Kd.int (ofF l most).left, Atom.ro Kd.int (ofF (flipF l l.length) most).left] ∧ ∀ (y : Unit), True → ite2 (decide ((ofF l most).left = (ofF (flipF l
 l.length) most).left)) (((0 : Int) ≤ (0 : Int) ∧ (0 : Int) < (2 : Int)) ∧ ((0 : Int) ≤ (1 : Int) ∧ (1 : Int) < (2 : Int)) ∧ ite2 (decide ((ofF l most).n0 = (ofF (flipF l l.length) most).n1) && (decide
 ((ofF l most).b0 = (ofF (flipF l l.length) most).b1) && true)) (((0 : Int) ≤ (1 : Int) ∧ (1 : Int) < (2 : Int)) ∧ ((0 : Int) ≤ (0 : Int) ∧ (0 : Int) < (2 : Int)) ∧ ite2 (decide ((ofF l most).n1 = (ofF
 (flipF l l.length) most).n0) && (decide ((ofF l most).b1 = (ofF (flipF l l.length) most).b0) && true)) (ite2 (decide ((↑(ofF l most).items.length : Int) = (↑(ofF (flipF l l.length) most).items.length :
 Int))) (Enter 1 (invS20 l most) (fun (x : Nat) => True) [VV.any, i64 most, VV.one (V1.c (C.ptr 1 0 0)), VV.any, VV.any, VV.one (V1.c (C.slc 2 0 l.length none)), VV.any, VV.any, VV.one (V1.c (C.ptr 7 0
 0)), VV.one (V1.c (C.ptr 8 0 0)), VV.one (V1.c (C.ptr 9 0 0)), i64 (0 : Int), VV.any, VV.any, VV.any, VV.any, VV.any, VV.any, VV.any, VV.any, VV.any, VV.any, VV.any, VV.any, VV.any, VV.any, VV.any, VV.any,
 VV.any, VV.any, VV.any, VV.any, VV.any, VV.any, VV.any, VV.any, VV.any, VV.any, VV.any, VV.any, VV.any, VV.any, VV.any, VV.any, VV.any, VV.any, VV.one (V1.agg [C.slc 0 0 l.length none]), i64 most, VV.one
 (V1.agg [C.slc 3 0 (ofF l most).items.length none, C.slc 4 0 (ofF l most).left.length none, C.int .i64 (ofF l most).n0, C.int .i64 (ofF l most).b0, C.int .i64 (ofF l most).n1, C.int .i64 (ofF l most).b1]),
 VV.one (V1.c (C.slc 2 0 l.length none)), VV.one (V1.agg [C.slc 2 0 l.length none]), i64 most, VV.one (V1.agg [C.slc 5 0 (ofF (flipF l l.length) most).items.length none, C.slc 6 0 (ofF (flipF l l.length)
 most).left.length none, C.int .i64 (ofF (flipF l l.length) most).n0, C.int .i64 (ofF (flipF l l.length) most).b0, C.int .i64 (ofF (flipF l l.length) most).n1, C.int .i64 (ofF (flipF l l.length) most).b1]),
 VV.one (V1.c (C.ptr 7 0 2)), VV.one (V1.c (C.ptr 7 0 2)), VV.one (V1.c (C.ptr 7 0 2)), VV.one (V1.c (C.int .i64 (ofF l most).n0)), VV.one (V1.c (C.int .i64 ((ofF l most).n0.tdiv (2 : Int)))), VV.one (V1.c
 (C.ptr 7 0 2)), VV.one (V1.c (C.ptr 7 0 2)), VV.one (V1.c (C.ptr 7 0 3)), VV.one (V1.c (C.int .i64 (ofF l most).b0)), VV.one (V1.agg [C.int .i64 ((ofF l most).n0.tdiv (2 : Int)), C.int .i64 (ofF l most).b0]),
 VV.one (V1.c (C.ptr 7 0 2)), VV.one (V1.c (C.ptr 7 0 4)), VV.one (V1.c (C.ptr 7 0 4)), VV.one (V1.c (C.int .i64 (ofF l most).n1)), VV.one (V1.c (C.ptr 7 0 2)), VV.one (V1.c (C.ptr 7 0 4)), VV.one (V1.c
 (C.ptr 7 0 5)), VV.one (V1.c (C.int .i64 (ofF l most).b1)), VV.one (V1.c (C.int .i64 ((ofF l most).b1.tdiv (2 : Int)))), VV.one (V1.agg [C.int .i64 (ofF l most).n1, C.int .i64 ((ofF l most).b1.tdiv (2
 : Int))]), VV.one (V1.agg [C.int .i64 ((ofF l most).n0.tdiv (2 : Int)), C.int .i64 (ofF l most).b0, C.int .i64 (ofF l most).n1, C.int .i64 ((ofF l most).b1.tdiv (2 : Int))]), VV.one (V1.agg [C.slc 0 0
 l.length none]), i64 most, VV.one (V1.agg [C.int .i64 ((ofF l most).n0.tdiv (2 : Int)), C.int .i64 (ofF l most).b0, C.int .i64 (ofF l most).n1, C.int .i64 ((ofF l most).b1.tdiv (2 : Int))]), VV.one (V1.c
 (C.int .i64 (↑(fitsF l most (Four.mk ((ofF l most).n0.tdiv (2 : Int)) ((ofF l most).b0) ((ofF l most).n1) ((ofF l most).b1.tdiv (2 : Int)))) : Int))), VV.one (V1.c (C.slc 2 0 l.length none)), VV.one (V1.agg
 [C.slc 2 0 l.length none]), i64 most, VV.one (V1.c (C.ptr 9 0 2)), VV.one (V1.agg [C.int .i64 (ofF l most).n1, C.int .i64 ((ofF l most).b1.tdiv (2 : Int))]), VV.one (V1.c (C.ptr 9 0 0)), VV.one (V1.agg
 [C.int .i64 ((ofF l most).n0.tdiv (2 : Int)), C.int .i64 (ofF l most).b0]), VV.one (V1.agg [C.int .i64 (ofF l most).n1, C.int .i64 ((ofF l most).b1.tdiv (2 : Int)), C.int .i64 ((ofF l most).n0.tdiv (2
 : Int)), C.int .i64 (ofF l most).b0]), VV.one (V1.c (C.int .i64 (↑(fitsF (flipF l l.length) most (Four.mk ((ofF l most).n1) ((ofF l most).b1.tdiv (2 : Int)) ((ofF l most).n0.tdiv (2 : Int)) ((ofF l most).b0)))
 : Int))), boolv false, VV.one (V1.c (C.ptr 7 0 1)), VV.one (V1.c (C.slc 4 0 (ofF l most).left.length none)), VV.one (V1.c (C.ptr 8 0 1)), VV.one (V1.c (C.slc 6 0 (ofF (flipF l l.length) most).left.length
 none)), VV.one (V1.c (C.bool (decide ((ofF l most).left = (ofF (flipF l l.length) most).left)))), boolv false, boolv false, VV.one (V1.c (C.ptr 7 0 2)), VV.one (V1.c (C.ptr 7 0 2)), VV.one (V1.agg [C.int
 .i64 (ofF l most).n0, C.int .i64 (ofF l most).b0]), VV.one (V1.c (C.ptr 8 0 2)), VV.one (V1.c (C.ptr 8 0 4)), VV.one (V1.agg [C.int .i64 (ofF (flipF l l.length) most).n1, C.int .i64 (ofF (flipF l l.length)
 most).b1]), boolv false, boolv false, boolv false, VV.one (V1.c (C.ptr 7 0 2)), VV.one (V1.c (C.ptr 7 0 4)), VV.one (V1.agg [C.int .i64 (ofF l most).n1, C.int .i64 (ofF l most).b1]), VV.one (V1.c (C.ptr
 8 0 2)), VV.one (V1.c (C.ptr 8 0 2)), VV.one (V1.agg [C.int .i64 (ofF (flipF l l.length) most).n0, C.int .i64 (ofF (flipF l l.length) most).b0]), boolv false, boolv false, boolv false, VV.one (V1.c (C.ptr
 7 0 0)), VV.one (V1.c (C.slc 3 0 (ofF l most).items.length none)), VV.one (V1.c (C.int .i64 (↑(ofF l most).items.length : Int))), VV.one (V1.c (C.ptr 8 0 0)), VV.one (V1.c (C.slc 5 0 (ofF (flipF l l.length)
 most).items.length none)), VV.one (V1.c (C.int .i64 (↑(ofF (flipF l l.length) most).items.length : Int))), boolv false, boolv false, VV.any, VV.any, VV.any, VV.any, VV.any, VV.any, VV.any, VV.any, VV.any,
 VV.any, VV.any, VV.any, VV.any, VV.any, VV.any, VV.any, VV.any, VV.any, VV.any, VV.any, VV.any, VV.any, VV.any, VV.any, VV.any] [Atom.ro Kd.cell l, Atom.cells 25 [C.slc 0 0 l.length none], Atom.arr Kd.cell
 (flipF l l.length), Atom.arr Kd.item (ofF l most).items, Atom.arr Kd.int (ofF l most).left, Atom.arr Kd.item (ofF (flipF l l.length) most).items, Atom.arr Kd.int (ofF (flipF l l.length) most).left, Atom.cells
 34 [C.slc 3 0 (ofF l most).items.length none, C.slc 4 0 (ofF l most).left.length none, C.int .i64 (ofF l most).n0, C.int .i64 (ofF l most).b0, C.int .i64 (ofF l most).n1, C.int .i64 (ofF l most).b1], Atom.cells
 34 [C.slc 5 0 (ofF (flipF l l.length) most).items.length none, C.slc 6 0 (ofF (flipF l l.length) most).left.length none, C.int .i64 (ofF (flipF l l.length) most).n0, C.int .i64 (ofF (flipF l l.length)
 most).b0, C.int .i64 (ofF (flipF l l.length) most).n1, C.int .i64 (ofF (flipF l l.length) most).b1], Atom.cells 32 [C.int .i64 ((ofF l most).n0.tdiv (2 : Int)), C.int .i64 (ofF l most).b0, C.int .i64 (ofF
 l most).n1, C.int .i64 ((ofF l most).b1.tdiv (2 : Int))]] ∧ ∀ (z : Nat), z ≤ (ofF l most).items.length → ite2 (decide ((↑z : Int) < (↑(ofF l most).items.length : Int))) (((0 : Int) ≤ (↑z : Int) ∧ (↑z :
 Int) < (↑(ofF (flF l) most).items.length : Int)) ∧ 0 + (↑z : Int).toNat < (ofF (flF l) most).items.length ∧ True ∧ 0 + (↑z : Int).toNat < (ofF (flF l) most).items.length ∧ ((0 : Int) ≤ (↑z : Int) ∧ (↑z
 : Int) < (↑(ofF l most).items.length : Int)) ∧ 0 + (↑z : Int).toNat < (ofF l most).items.length ∧ True ∧ 0 + (↑z : Int).toNat < (ofF l most).items.length ∧ ite2 (decide ((rd (ofF (flF l) most).items (0
 + (↑z : Int).toNat) (KK.dflt Kd.item)).number = (rd (ofF l most).items (0 + (↑z : Int).toNat) (KK.dflt Kd.item)).number) && (decide ((rd (ofF (flF l) most).items (0 + (↑z : Int).toNat) (KK.dflt Kd.item)).cell
 = (rd (ofF l most).items (0 + (↑z : Int).toNat) (KK.dflt Kd.item)).cell) && (decide ((rd (ofF (flF l) most).items ((0 : Nat) + (↑z : Int).toNat) (KK.dflt Kd.item)).path.data = (rd (ofF l most).items ((0
 : Nat) + (↑z : Int).toNat) (KK.dflt Kd.item)).path.data) && (decide ((rd (ofF (flF l) most).items ((0 : Nat) + (↑z : Int).toNat) (KK.dflt Kd.item)).what = (rd (ofF l most).items ((0 : Nat) + (↑z : Int).toNat)
 (KK.dflt Kd.item)).what) && (decide ((rd (ofF (flF l) most).items ((0 : Nat) + (↑z : Int).toNat) (KK.dflt Kd.item)).dst = (rd (ofF l most).items ((0 : Nat) + (↑z : Int).toNat) (KK.dflt Kd.item)).src) &&
 (decide ((rd (ofF (flF l) most).items ((0 : Nat) + (↑z : Int).toNat) (KK.dflt Kd.item)).src = (rd (ofF l most).items ((0 : Nat) + (↑z : Int).toNat) (KK.dflt Kd.item)).dst) && (decide ((rd (ofF (flF l)
 most).items ((0 : Nat) + (↑z : Int).toNat) (KK.dflt Kd.item)).mode = (rd (ofF l most).items ((0 : Nat) + (↑z : Int).toNat) (KK.dflt Kd.item)).mode) && true))))))) (True ∧ i64ok ((↑z : Int) + (1 : Int))
 ∧ Enter 1 (invS20 l most) (fun (z' : Nat) => (ofF l most).items.length - z' < (ofF l most).items.length - z) [VV.any, VV.any, VV.any, VV.any, VV.any, VV.any, VV.any, VV.any, VV.one (V1.c (C.ptr 7 0 (0
 : Nat))), VV.one (V1.c (C.ptr 8 0 (0 : Nat))), VV.any, VV.one (V1.c (C.int .i64 ((↑z : Int) + (1 : Int)))), VV.one (V1.c (C.ptr 9 0 (0 : Nat))), VV.any, VV.any, VV.any, VV.any, VV.any, VV.any, VV.any,
 VV.any, VV.any, VV.any, VV.any, VV.any, VV.any, VV.any, VV.any, VV.any, VV.any, VV.any, VV.any, VV.any, VV.any, VV.any, VV.any, VV.any, VV.any, VV.any, VV.any, VV.any, VV.any, VV.any, VV.any, VV.any, VV.any,
 VV.any, VV.any, VV.any, VV.any, VV.any, VV.any, VV.any, VV.any, VV.any, VV.any, VV.any, VV.any, VV.any, VV.any, VV.any, VV.any, VV.any, VV.any, VV.any, VV.any, VV.any, VV.any, VV.any, VV.any, VV.any, VV.any,
 VV.any, VV.any, VV.any, VV.any, VV.any, VV.any, VV.any, VV.any, VV.any, VV.any, VV.any, VV.any, VV.any, VV.any, VV.any, VV.any, VV.any, VV.any, VV.any, VV.any, VV.any, VV.any, VV.any, VV.any, VV.any, VV.any,
 VV.any, VV.any, VV.any, VV.any, VV.any, VV.any, VV.any, VV.any, VV.any, VV.any, VV.any, VV.any, VV.any, VV.any, VV.any, VV.any, VV.any, VV.any, VV.any, VV.any, VV.any, VV.any, VV.any, VV.one (V1.c (C.int
 .i64 (↑z : Int))), VV.one (V1.c (C.ptr 7 0 (0 : Nat))), VV.one (V1.c (C.slc 3 0 (ofF l most).items.length none)), VV.one (V1.c (C.int .i64 (↑(ofF l most).items.length : Int))), VV.one (V1.c (C.bool true)),
 VV.one (V1.c (C.int .i64 (↑z : Int))), VV.one (V1.c (C.int .i64 ((↑z : Int) + (1 : Int)))), VV.one (V1.c (C.ptr 8 0 (0 : Nat))), VV.one (V1.c (C.slc 5 0 (ofF (flF l) most).items.length none)), VV.one (V1.c
 (C.int .i64 (↑z : Int))), VV.one (V1.c (C.ptr 5 ((0 : Nat) + (↑z : Int).toNat) (0 : Nat))), VV.one (V1.agg [C.int .i64 (rd (ofF (flF l) most).items ((0 : Nat) + (↑z : Int).toNat) (KK.dflt Kd.item)).number,
 C.int .i64 (rd (ofF (flF l) most).items ((0 : Nat) + (↑z : Int).toNat) (KK.dflt Kd.item)).cell, C.str (rd (ofF (flF l) most).items ((0 : Nat) + (↑z : Int).toNat) (KK.dflt Kd.item)).path, C.int .i64 (rd
 (ofF (flF l) most).items ((0 : Nat) + (↑z : Int).toNat) (KK.dflt Kd.item)).what, C.int .i64 (rd (ofF (flF l) most).items ((0 : Nat) + (↑z : Int).toNat) (KK.dflt Kd.item)).src, C.int .i64 (rd (ofF (flF
 l) most).items ((0 : Nat) + (↑z : Int).toNat) (KK.dflt Kd.item)).dst, C.int .i64 (rd (ofF (flF l) most).items ((0 : Nat) + (↑z : Int).toNat) (KK.dflt Kd.item)).mode]), VV.one (V1.c (C.ptr 9 0 (5 : Nat))),
 VV.one (V1.c (C.int .i64 (rd (ofF (flF l) most).items ((0 : Nat) + (↑z : Int).toNat) (KK.dflt Kd.item)).dst)), VV.one (V1.c (C.ptr 9 0 (4 : Nat))), VV.one (V1.c (C.int .i64 (rd (ofF (flF l) most).items
 ((0 : Nat) + (↑z : Int).toNat) (KK.dflt Kd.item)).src)), VV.one (V1.c (C.ptr 9 0 (4 : Nat))), VV.one (V1.c (C.ptr 9 0 (5 : Nat))), VV.one (V1.agg [C.int .i64 (rd (ofF (flF l) most).items ((0 : Nat) + (↑z
 : Int).toNat) (KK.dflt Kd.item)).number, C.int .i64 (rd (ofF (flF l) most).items ((0 : Nat) + (↑z : Int).toNat) (KK.dflt Kd.item)).cell, C.str (rd (ofF (flF l) most).items ((0 : Nat) + (↑z : Int).toNat)
 (KK.dflt Kd.item)).path, C.int .i64 (rd (ofF (flF l) most).items ((0 : Nat) + (↑z : Int).toNat) (KK.dflt Kd.item)).what, C.int .i64 (rd (ofF (flF l) most).items ((0 : Nat) + (↑z : Int).toNat) (KK.dflt
 Kd.item)).dst, C.int .i64 (rd (ofF (flF l) most).items ((0 : Nat) + (↑z : Int).toNat) (KK.dflt Kd.item)).src, C.int .i64 (rd (ofF (flF l) most).items ((0 : Nat) + (↑z : Int).toNat) (KK.dflt Kd.item)).mode]),
 VV.one (V1.c (C.ptr 7 0 (0 : Nat))), VV.one (V1.c (C.slc 3 0 (ofF l most).items.length none)), VV.one (V1.c (C.int .i64 (↑z : Int))), VV.one (V1.c (C.ptr 3 ((0 : Nat) + (↑z : Int).toNat) (0 : Nat))), VV.one
 (V1.agg [C.int .i64 (rd (ofF l most).items ((0 : Nat) + (↑z : Int).toNat) (KK.dflt Kd.item)).number, C.int .i64 (rd (ofF l most).items ((0 : Nat) + (↑z : Int).toNat) (KK.dflt Kd.item)).cell, C.str (rd
 (ofF l most).items ((0 : Nat) + (↑z : Int).toNat) (KK.dflt Kd.item)).path, C.int .i64 (rd (ofF l most).items ((0 : Nat) + (↑z : Int).toNat) (KK.dflt Kd.item)).what, C.int .i64 (rd (ofF l most).items ((0
 : Nat) + (↑z : Int).toNat) (KK.dflt Kd.item)).src, C.int .i64 (rd (ofF l most).items ((0 : Nat) + (↑z : Int).toNat) (KK.dflt Kd.item)).dst, C.int .i64 (rd (ofF l most).items ((0 : Nat) + (↑z : Int).toNat)
 (KK.dflt Kd.item)).mode]), VV.one (V1.c (C.bool false))] [Atom.ro Kd.cell l, Atom.gone, Atom.gone, Atom.arr Kd.item (ofF l most).items, Atom.gone, Atom.arr Kd.item (ofF (flF l) most).items, Atom.gone,
 Atom.cells 34 [C.slc 3 0 (ofF l most).items.length none, C.slc 4 0 (ofF l most).left.length none, C.int .i64 (ofF l most).n0, C.int .i64 (ofF l most).b0, C.int .i64 (ofF l most).n1, C.int .i64 (ofF l most).b1],
 Atom.cells 34 [C.slc 5 0 (ofF (flF l) most).items.length none, C.slc 6 0 (ofF (flF l) most).left.length none, C.int .i64 (ofF (flF l) most).n0, C.int .i64 (ofF (flF l) most).b0, C.int .i64 (ofF (flF l)
 most).n1, C.int .i64 (ofF (flF l) most).b1], Atom.cells 42 [C.int .i64 (rd (ofF (flF l) most).items ((0 : Nat) + (↑z : Int).toNat) (KK.dflt Kd.item)).number, C.int .i64 (rd (ofF (flF l) most).items ((0
 : Nat) + (↑z : Int).toNat) (KK.dflt Kd.item)).cell, C.str (rd (ofF (flF l) most).items ((0 : Nat) + (↑z : Int).toNat) (KK.dflt Kd.item)).path, C.int .i64 (rd (ofF (flF l) most).items ((0 : Nat) + (↑z :
 Int).toNat) (KK.dflt Kd.item)).what, C.int .i64 (rd (ofF (flF l) most).items ((0 : Nat) + (↑z : Int).toNat) (KK.dflt Kd.item)).dst, C.int .i64 (rd (ofF (flF l) most).items ((0 : Nat) + (↑z : Int).toNat)
 (KK.dflt Kd.item)).src, C.int .i64 (rd (ofF (flF l) most).items ((0 : Nat) + (↑z : Int).toNat) (KK.dflt Kd.item)).mode]]) (True ∧ EndsAs 1 (ct_planSides l most) (VV.one (V1.c (C.bool false))) [Atom.ro
 Kd.cell l, Atom.gone, Atom.gone, Atom.arr Kd.item (ofF l most).items, Atom.gone, Atom.arr Kd.item (ofF (flF l) most).items, Atom.gone, Atom.cells 34 [C.slc 3 0 (ofF l most).items.length none, C.slc 4 0
 (ofF l most).left.length none, C.int .i64 (ofF l most).n0, C.int .i64 (ofF l most).b0, C.int .i64 (ofF l most).n1, C.int .i64 (ofF l most).b1], Atom.cells 34 [C.slc 5 0 (ofF (flF l) most).items.length
 none, C.slc 6 0 (ofF (flF l) most).left.length none, C.int .i64 (ofF (flF l) most).n0, C.int .i64 (ofF (flF l) most).b0, C.int .i64 (ofF (flF l) most).n1, C.int .i64 (ofF (flF l) most).b1], Atom.cells
 42 [C.int .i64 (rd (ofF (flF l) most).items ((0 : Nat) + (↑z : Int).toNat) (KK.dflt Kd.item)).number, C.int .i64 (rd (ofF (flF l) most).items ((0 : Nat) + (↑z : Int).toNat) (KK.dflt Kd.item)).cell, C.str
 (rd (ofF (flF l) most).items ((0 : Nat) + (↑z : Int).toNat) (KK.dflt Kd.item)).path, C.int .i64 (rd (ofF (flF l) most).items ((0 : Nat) + (↑z : Int).toNat) (KK.dflt Kd.item)).what, C.int .i64 (rd (ofF
 (flF l) most).items ((0 : Nat) + (↑z : Int).toNat) (KK.dflt Kd.item)).dst, C.int .i64 (rd (ofF (flF l) most).items ((0 : Nat) + (↑z : Int).toNat) (KK.dflt Kd.item)).src, C.int .i64 (rd (ofF (flF l) most).items
 ((0 : Nat) + (↑z : Int).toNat) (KK.dflt Kd.item)).mode]])) (EndsAs 1 (ct_planSides l most) (boolv true) [Atom.ro Kd.cell l, Atom.gone, Atom.gone, Atom.arr Kd.item (ofF l most).items, Atom.gone, Atom.arr
 Kd.item (ofF (flF l) most).items, Atom.gone, Atom.cells 34 [C.slc 3 0 (ofF l most).items.length none, C.slc 4 0 (ofF l most).left.length none, C.int .i64 (ofF l most).n0, C.int .i64 (ofF l most).b0, C.int
 .i64 (ofF l most).n1, C.int .i64 (ofF l most).b1], Atom.cells 34 [C.slc 5 0 (ofF (flF l) most).items.length none, C.slc 6 0 (ofF (flF l) most).left.length none, C.int .i64 (ofF (flF l) most).n0, C.int
 .i64 (ofF (flF l) most).b0, C.int .i64 (ofF (flF l) most).n1, C.int .i64 (ofF (flF l) most).b1]])) (EndsAs 1 (ct_planSides l most) (boolv false) [Atom.ro Kd.cell l, Atom.cells 25 [C.slc 0 0 l.length none],
 Atom.arr Kd.cell (flipF l l.length), Atom.arr Kd.item (ofF l most).items, Atom.arr Kd.int (ofF l most).left, Atom.arr Kd.item (ofF (flipF l l.length) most).items, Atom.arr Kd.int (ofF (flipF l l.length)
 most).left, Atom.cells 34 [C.slc 3 0 (ofF l most).items.length none, C.slc 4 0 (ofF l most).left.length none, C.int .i64 (ofF l most).n0, C.int .i64 (ofF l most).b0, C.int .i64 (ofF l most).n1, C.int .i64
 (ofF l most).b1], Atom.cells 34 [C.slc 5 0 (ofF (flipF l l.length) most).items.length none, C.slc 6 0 (ofF (flipF l l.length) most).left.length none, C.int .i64 (ofF (flipF l l.length) most).n0, C.int
 .i64 (ofF (flipF l l.length) most).b0, C.int .i64 (ofF (flipF l l.length) most).n1, C.int .i64 (ofF (flipF l l.length) most).b1], Atom.cells 32 [C.int .i64 ((ofF l most).n0.tdiv (2 : Int)), C.int .i64
 (ofF l most).b0, C.int .i64 (ofF l most).n1, C.int .i64 ((ofF l most).b1.tdiv (2 : Int))]])) (EndsAs 1 (ct_planSides l most) (boolv false) [Atom.ro Kd.cell l, Atom.cells 25 [C.slc 0 0 l.length none], Atom.arr
 Kd.cell (flipF l l.length), Atom.arr Kd.item (ofF l most).items, Atom.arr Kd.int (ofF l most).left, Atom.arr Kd.item (ofF (flipF l l.length) most).items, Atom.arr Kd.int (ofF (flipF l l.length) most).left,
 Atom.cells 34 [C.slc 3 0 (ofF l most).items.length none, C.slc 4 0 (ofF l most).left.length none, C.int .i64 (ofF l most).n0, C.int .i64 (ofF l most).b0, C.int .i64 (ofF l most).n1, C.int .i64 (ofF l most).b1],
 Atom.cells 34 [C.slc 5 0 (ofF (flipF l l.length) most).items.length none, C.slc 6 0 (ofF (flipF l l.length) most).left.length none, C.int .i64 (ofF (flipF l l.length) most).n0, C.int .i64 (ofF (flipF l
 l.length) most).b0, C.int .i64 (ofF (flipF l l.length) most).n1, C.int .i64 (ofF (flipF l l.length) most).b1], Atom.cells 32 [C.int .i64 ((ofF l most).n0.tdiv (2 : Int)), C.int .i64 (ofF l most).b0, C.int
 .i64 (ofF l most).n1, C.int .i64 ((ofF l most).b1.tdiv (2 : Int))]])) (EndsAs 1 (ct_planSides l most) (boolv false) [Atom.ro Kd.cell l, Atom.cells 25 [C.slc 0 0 l.length none], Atom.arr Kd.cell (flipF
 l l.length), Atom.arr Kd.item (ofF l most).items, Atom.arr Kd.int (ofF l most).left, Atom.arr Kd.item (ofF (flipF l l.length) most).items, Atom.arr Kd.int (ofF (flipF l l.length) most).left, Atom.cells
 34 [C.slc 3 0 (ofF l most).items.length none, C.slc 4 0 (ofF l most).left.length none, C.int .i64 (ofF l most).n0, C.int .i64 (ofF l most).b0, C.int .i64 (ofF l most).n1, C.int .i64 (ofF l most).b1], Atom.cells
 34 [C.slc 5 0 (ofF (flipF l l.length) most).items.length none, C.slc 6 0 (ofF (flipF l l.length) most).left.length none, C.int .i64 (ofF (flipF l l.length) most).n0, C.int .i64 (ofF (flipF l l.length)
 most).b0, C.int .i64 (ofF (flipF l l.length) most).n1, C.int .i64 (ofF (flipF l l.length) most).b1], Atom.cells 32 [C.int .i64 ((ofF l most).n0.tdiv (2 : Int)), C.int .i64 (ofF l most).b0, C.int .i64 (ofF
 l most).n1, C.int .i64 ((ofF l most).b1.tdiv (2 : Int))]])) (EndsAs 1 (ct_planSides l most) (boolv false) [Atom.ro Kd.cell l, Atom.cells 25 [C.slc 0 0 l.length none], Atom.arr Kd.cell (flipF l l.length),
 Atom.arr Kd.item (ofF l most).items, Atom.arr Kd.int (ofF l most).left, Atom.arr Kd.item (ofF (flipF l l.length) most).items, Atom.arr Kd.int (ofF (flipF l l.length) most).left, Atom.cells 34 [C.slc 3
 0 (ofF l most).items.length none, C.slc 4 0 (ofF l most).left.length none, C.int .i64 (ofF l most).n0, C.int .i64 (ofF l most).b0, C.int .i64 (ofF l most).n1, C.int .i64 (ofF l most).b1], Atom.cells 34
 [C.slc 5 0 (ofF (flipF l l.length) most).items.length none, C.slc 6 0 (ofF (flipF l l.length) most).left.length none, C.int .i64 (ofF (flipF l l.length) most).n0, C.int .i64 (ofF (flipF l l.length) most).b0,
 C.int .i64 (ofF (flipF l l.length) most).n1, C.int .i64 (ofF (flipF l l.length) most).b1], Atom.cells 32 [C.int .i64 ((ofF l most).n0.tdiv (2 : Int)), C.int .i64 (ofF l most).b0, C.int .i64 (ofF l most).n1,
 C.int .i64 ((ofF l most).b1.tdiv (2 : Int))]])) (True ∧ EndsAs 1 (ct_planSides l most) (boolv false) [Atom.ro Kd.cell l, Atom.cells 25 [C.slc 0 0 l.length none], Atom.arr Kd.cell (flipF l l.length), Atom.arr
 Kd.item (ofF l most).items, Atom.arr Kd.int (ofF l most).left, Atom.arr Kd.item (ofF (flipF l l.length) most).items, Atom.arr Kd.int (ofF (flipF l l.length) most).left, Atom.cells 34 [C.slc 3 0 (ofF l
 most).items.length none, C.slc 4 0 (ofF l most).left.length none, C.int .i64 (ofF l most).n0, C.int .i64 (ofF l most).b0, C.int .i64 (ofF l most).n1, C.int .i64 (ofF l most).b1], Atom.cells 34 [C.slc 5
 0 (ofF (flipF l l.length) most).items.length none, C.slc 6 0 (ofF (flipF l l.length) most).left.length none, C.int .i64 (ofF (flipF l l.length) most).n0, C.int .i64 (ofF (flipF l l.length) most).b0, C.int
 .i64 (ofF (flipF l l.length) most).n1, C.int .i64 (ofF (flipF l l.length) most).b1], Atom.cells 32 [C.int .i64 ((ofF l most).n0.tdiv (2 : Int)), C.int .i64 (ofF l most).b0, C.int .i64 (ofF l most).n1,
 C.int .i64 ((ofF l most).b1.tdiv (2 : Int))]])) (EndsAs 1 (ct_planSides l most) (boolv true) [Atom.ro Kd.cell l, Atom.cells 25 [C.slc 0 0 l.length none]])) := by kernel_rfl
end Go.Proofs.Ytljamcgngojaeaa.T
