/- The plan: as many items as there is room for, the law's function. -/
import Derived.Test.YtljamcgngojaeaaPz
namespace Go.Proofs.Ytljamcgngojaeaa.T
open Go.Proofs.Ytljamcgngojaeaa.E
set_option maxRecDepth 100000
set_option linter.unusedVariables false
def tab11 : Tab Try.prog KK := ⟨mixed, fun f args H => match f, args with
  | 23, [.one (.agg [.int _ p, .int _ q, .int _ r, .int _ s]), .one (.agg [.int _ p', .int _ q', .int _ r', .int _ s'])] => some (ct_fitsB ⟨p, q, r, s⟩ ⟨p', q', r', s'⟩, [], [])
  | 24, [.one (.agg [.slc n 0 len none]), .one (.agg [.slc i 0 ilen none, .slc j 0 jlen none, .int _ p, .int _ q, .int _ r, .int _ s]), .one (.c (.int _ a))] => match getL .cell (at_ H n), getL .item (at_ H i), getL .int (at_ H j) with
    | some l, some its, some left => some (ct_beg l its left p q r s a.toNat, [], [n, i, j])
    | _, _, _ => none
  | f, args => tab10.pick f args H, fun f args H ct ks τ h => by
    split at h
    · cases h; exact fitsB_ok _ _
    · split at h
      · cases h; exact beg_ok _ _ _ _ _ _ _ _
      · cases h
    · exact tab10.ok _ _ _ _ _ _ h⟩
def ct_planFits (l : List Cell) (most : Int) (f g : Four) : Ct KK := { need := Cells l ∧ Paths l ∧ i64ok most, pre := [.ro .cell l], args := [.agg [.slc 0 0 l.length none], i64 most, .agg [.int .i64 f.n0, .int .i64 f.b0, .int .i64 f.n1, .int .i64 f.b1], .agg [.int .i64 g.n0, .int .i64 g.b0, .int .i64 g.n1, .int .i64 g.b1]], Y := Unit, ok := fun _ => True, ret := fun _ => boolv true, post := fun _ => [.gone] }
abbrev fr14 (l : List Cell) (most : Int) (f : Four) : List VV := [.any, i64 most, .any, .any, .c (.ptr 1 0 0), .any, .c (.ptr 2 0 0), .c (.ptr 3 0 0), .any, .c (.ptr 6 0 0), i64 (fitsF l most f)]
abbrev HZ (l : List Cell) (most : Int) (f g : Four) : VH KK := [.ro .cell l, .cells 25 [.slc 0 0 l.length none], .cells 32 [.int .i64 f.n0, .int .i64 f.b0, .int .i64 f.n1, .int .i64 f.b1], .cells 32 [.int .i64 g.n0, .int .i64 g.b0, .int .i64 g.n1, .int .i64 g.b1], .arr .item (ofF l most).items, .arr .int (ofF l most).left, .cells 34 (planC 4 5 (ofF l most))]
def invZ10 (l : List Cell) (most : Int) (f g : Four) : Inv KK := { X := Nat, fr := fun i => fr14 l most f ++ ([i64 i] ++ anys 118), H := fun _ => HZ l most f g, ok := fun i => i ≤ (ofF l most).items.length, meas := fun i : Nat => (ofF l most).items.length - i }
def invZ16 (l : List Cell) (most : Int) (f g : Four) : Inv KK := { X := Unit, fr := fun _ => fr14 l most f ++ anys 119, H := fun _ => HZ l most f g, ok := fun _ => True, meas := fun _ => 0 }
def roomV (f g : Four) (v : Nat) : Four := ⟨if 0 < v then max f.n0 g.n0 else 0, if 0 < v then max f.b0 g.b0 else 0, if 1 < v then max f.n1 g.n1 else 0, if 1 < v then max f.b1 g.b1 else 0⟩
abbrev HV (l : List Cell) (most : Int) (f g r : Four) : VH KK := HZ l most f g ++ [.cells 32 [.int .i64 r.n0, .int .i64 r.b0, .int .i64 r.n1, .int .i64 r.b1]]
def invZ18 (l : List Cell) (most : Int) (f g : Four) : Inv KK := { X := Nat, fr := fun v => fr14 l most f ++ ([.any, .c (.ptr 7 0 0), i64 v] ++ anys 116), H := fun v => HV l most f g (roomV f g v), ok := fun v => v ≤ 2, meas := fun v : Nat => 2 - v }
def invZ20 (l : List Cell) (most : Int) (f g : Four) (u : Nat) (v : Int) : Inv KK := { X := Unit, fr := fun _ => fr14 l most f ++ ([.any, .c (.ptr 7 0 0), i64 u] ++ anys 116), H := fun _ => HV l most f g (roomV f g u), ok := fun _ => v = (u : Int), meas := fun _ => 0 }
def annZ (l : List Cell) (most : Int) (f g : Four) : Ann KK := ⟨fun id _ _ => match id with
  | 10 => some (invZ10 l most f g)
  | 18 => some (invZ18 l most f g)
  | _ => none, fun id fr _ => match id, fr.getD 13 .any with
  | 16, _ => some (invZ16 l most f g)
  | 20, .one (.c (.int _ v)) => some (invZ20 l most f g 0 v)
  | 520, .one (.c (.int _ v)) => some (invZ20 l most f g 1 v)
  | _, _ => none⟩
theorem vc_planFits (l : List Cell) (most : Int) (f g : Four) : evFn tab11 (annZ l most f g) Try.f8 (ct_planFits l most f g) = ( (i64ok (↑l.length : Int) ∧ ∀ (c : Cell), List.Mem c l → i64ok (↑c.path.size : Int)) ∧ Into (K := KK) 0 [] [0] [VV.one (V1.agg [C.slc 0 0 l.length none])] [Atom.ro Kd.cell l, Atom.cells 25 [C.slc 0 0 l.length
 none], Atom.cells 32 [C.int .i64 f.n0, C.int .i64 f.b0, C.int .i64 f.n1, C.int .i64 f.b1], Atom.cells 32 [C.int .i64 g.n0, C.int .i64 g.b0, C.int .i64 g.n1, C.int .i64 g.b1]] [VV.one (V1.agg [C.slc 0 0
 l.length none])] [Atom.ro Kd.cell l] ∧ ∀ (y : Bool), (y = true → l.length ≤ 300) → ite2 y (True ∧ Into (K := KK) 0 [] [] [] [Atom.ro Kd.cell l, Atom.cells 25 [C.slc 0 0 l.length none], Atom.cells 32 [C.int
 .i64 f.n0, C.int .i64 f.b0, C.int .i64 f.n1, C.int .i64 f.b1], Atom.cells 32 [C.int .i64 g.n0, C.int .i64 g.b0, C.int .i64 g.n1, C.int .i64 g.b1]] [] [] ∧ ∀ (y_1 : Unit), True → ((∀ (c : Cell), List.Mem
 c l → c.Ok) ∧ l.length ≤ 100000 ∧ i64ok most) ∧ Into (K := KK) 0 [] [0] [VV.one (V1.agg [C.slc 0 0 l.length none]), i64 most] [Atom.ro Kd.cell l, Atom.cells 25 [C.slc 0 0 l.length none], Atom.cells 32
 [C.int .i64 f.n0, C.int .i64 f.b0, C.int .i64 f.n1, C.int .i64 f.b1], Atom.cells 32 [C.int .i64 g.n0, C.int .i64 g.b0, C.int .i64 g.n1, C.int .i64 g.b1]] [VV.one (V1.agg [C.slc 0 0 l.length none]), i64
 most] [Atom.ro Kd.cell l] ∧ ∀ (y_2 : Unit), True → ((∀ (c : Cell), List.Mem c l → c.Ok) ∧ l.length ≤ 100000 ∧ i64ok most) ∧ Into (K := KK) 0 [] [0] [VV.one (V1.agg [C.slc 0 0 l.length none]), i64 most,
 VV.one (V1.agg [C.int .i64 f.n0, C.int .i64 f.b0, C.int .i64 f.n1, C.int .i64 f.b1])] [Atom.ro Kd.cell l, Atom.cells 25 [C.slc 0 0 l.length none], Atom.cells 32 [C.int .i64 f.n0, C.int .i64 f.b0, C.int
 .i64 f.n1, C.int .i64 f.b1], Atom.cells 32 [C.int .i64 g.n0, C.int .i64 g.b0, C.int .i64 g.n1, C.int .i64 g.b1], Atom.arr Kd.item (ofF l most).items, Atom.arr Kd.int (ofF l most).left, Atom.cells 34 [C.slc
 4 0 (ofF l most).items.length none, C.slc 5 0 (ofF l most).left.length none, C.int .i64 (ofF l most).n0, C.int .i64 (ofF l most).b0, C.int .i64 (ofF l most).n1, C.int .i64 (ofF l most).b1]] [VV.one (V1.agg
 [C.slc 0 0 l.length none]), i64 most, VV.one (V1.agg [C.int .i64 f.n0, C.int .i64 f.b0, C.int .i64 f.n1, C.int .i64 f.b1])] [Atom.ro Kd.cell l] ∧ ∀ (y_3 : Unit), True → ite2 (decide ((↑(ofF l most).items.length
 : Int) < (↑(fitsF l most (Four.mk (f.n0) (f.b0) (f.n1) (f.b1))) : Int))) (True ∧ (VV.tup [] = VV.tup [] ∧ True) ∧ EndsAs 1 (ct_planFits l most f g) (boolv false) [Atom.ro Kd.cell l, Atom.cells 25 [C.slc
 0 0 l.length none], Atom.cells 32 [C.int .i64 f.n0, C.int .i64 f.b0, C.int .i64 f.n1, C.int .i64 f.b1], Atom.cells 32 [C.int .i64 g.n0, C.int .i64 g.b0, C.int .i64 g.n1, C.int .i64 g.b1], Atom.arr Kd.item
 (ofF l most).items, Atom.arr Kd.int (ofF l most).left, Atom.cells 34 [C.slc 4 0 (ofF l most).items.length none, C.slc 5 0 (ofF l most).left.length none, C.int .i64 (ofF l most).n0, C.int .i64 (ofF l most).b0,
 C.int .i64 (ofF l most).n1, C.int .i64 (ofF l most).b1]]) (True ∧ ((∀ (c : Cell), List.Mem c l → c.Ok) ∧ l.length ≤ 100000 ∧ i64ok most) ∧ Into (K := KK) 0 [] [0] [VV.one (V1.agg [C.slc 0 0 l.length none]),
 i64 most, VV.one (V1.agg [C.int .i64 (ofF l most).n0, C.int .i64 (ofF l most).b0, C.int .i64 (ofF l most).n1, C.int .i64 (ofF l most).b1])] [Atom.ro Kd.cell l, Atom.cells 25 [C.slc 0 0 l.length none],
 Atom.cells 32 [C.int .i64 f.n0, C.int .i64 f.b0, C.int .i64 f.n1, C.int .i64 f.b1], Atom.cells 32 [C.int .i64 g.n0, C.int .i64 g.b0, C.int .i64 g.n1, C.int .i64 g.b1], Atom.arr Kd.item (ofF l most).items,
 Atom.arr Kd.int (ofF l most).left, Atom.cells 34 [C.slc 4 0 (ofF l most).items.length none, C.slc 5 0 (ofF l most).left.length none, C.int .i64 (ofF l most).n0, C.int .i64 (ofF l most).b0, C.int .i64 (ofF
 l most).n1, C.int .i64 (ofF l most).b1]] [VV.one (V1.agg [C.slc 0 0 l.length none]), i64 most, VV.one (V1.agg [C.int .i64 (ofF l most).n0, C.int .i64 (ofF l most).b0, C.int .i64 (ofF l most).n1, C.int
 .i64 (ofF l most).b1])] [Atom.ro Kd.cell l] ∧ ∀ (y_4 : Unit), True → ite2 (decide ((↑(fitsF l most (Four.mk ((ofF l most).n0) ((ofF l most).b0) ((ofF l most).n1) ((ofF l most).b1))) : Int) = (↑(ofF l most).items.length
 : Int))) ((VV.one (V1.c (C.slc 4 0 (ofF l most).items.length none)) = VV.one (V1.c (C.slc 4 0 (ofF l most).items.length none)) ∧ True) ∧ Enter 1 (invZ10 l most f g) (fun (x : Nat) => True) [VV.one (V1.agg
 [C.slc 0 0 l.length none]), i64 most, VV.one (V1.agg [C.int .i64 f.n0, C.int .i64 f.b0, C.int .i64 f.n1, C.int .i64 f.b1]), VV.one (V1.agg [C.int .i64 g.n0, C.int .i64 g.b0, C.int .i64 g.n1, C.int .i64
 g.b1]), VV.one (V1.c (C.ptr 1 0 0)), VV.any, VV.one (V1.c (C.ptr 2 0 0)), VV.one (V1.c (C.ptr 3 0 0)), boolv false, VV.one (V1.c (C.ptr 6 0 0)), VV.one (V1.c (C.int .i64 (↑(fitsF l most (Four.mk (f.n0)
 (f.b0) (f.n1) (f.b1))) : Int))), i64 (0 : Int), VV.any, VV.any, VV.one (V1.agg [C.slc 0 0 l.length none]), boolv y, boolv false, boolv true, boolv false, VV.one (V1.agg [C.slc 0 0 l.length none]), i64
 most, VV.one (V1.agg [C.slc 4 0 (ofF l most).items.length none, C.slc 5 0 (ofF l most).left.length none, C.int .i64 (ofF l most).n0, C.int .i64 (ofF l most).b0, C.int .i64 (ofF l most).n1, C.int .i64 (ofF
 l most).b1]), VV.one (V1.agg [C.slc 0 0 l.length none]), i64 most, VV.one (V1.agg [C.int .i64 f.n0, C.int .i64 f.b0, C.int .i64 f.n1, C.int .i64 f.b1]), VV.one (V1.c (C.int .i64 (↑(fitsF l most (Four.mk
 (f.n0) (f.b0) (f.n1) (f.b1))) : Int))), VV.one (V1.c (C.int .i64 (↑(fitsF l most (Four.mk (f.n0) (f.b0) (f.n1) (f.b1))) : Int))), boolv false, boolv false, VV.one (V1.c (C.int .i64 (↑(fitsF l most (Four.mk
 (f.n0) (f.b0) (f.n1) (f.b1))) : Int))), VV.one (V1.c (C.ptr 6 0 0)), VV.one (V1.c (C.slc 4 0 (ofF l most).items.length none)), VV.one (V1.c (C.int .i64 (↑(ofF l most).items.length : Int))), boolv false,
 boolv false, boolv false, VV.one (V1.agg [C.slc 0 0 l.length none]), i64 most, VV.one (V1.c (C.ptr 6 0 2)), VV.one (V1.agg [C.int .i64 (ofF l most).n0, C.int .i64 (ofF l most).b0, C.int .i64 (ofF l most).n1,
 C.int .i64 (ofF l most).b1]), VV.one (V1.c (C.int .i64 (↑(fitsF l most (Four.mk ((ofF l most).n0) ((ofF l most).b0) ((ofF l most).n1) ((ofF l most).b1))) : Int))), VV.one (V1.c (C.ptr 6 0 0)), VV.one (V1.c
 (C.slc 4 0 (ofF l most).items.length none)), VV.one (V1.c (C.int .i64 (↑(ofF l most).items.length : Int))), boolv false, boolv false, VV.any, VV.any, VV.any, VV.any, VV.any, VV.any, VV.any, VV.any, VV.any,
 VV.any, VV.any, VV.any, VV.any, VV.any, VV.any, VV.any, VV.any, VV.any, VV.any, VV.any, VV.any, VV.any, VV.any, VV.any, VV.any, VV.any, VV.any, VV.any, VV.any, VV.any, VV.any, VV.any, VV.any, VV.any, VV.any,
 VV.any, VV.any, VV.any, VV.any, VV.any, VV.any, VV.any, VV.any, VV.any, VV.any, VV.any, VV.any, VV.any, VV.any, VV.any, VV.any, VV.any, VV.any, VV.any, VV.any, VV.any, VV.any, VV.any, VV.any, VV.any, VV.any,
 VV.any, VV.any, VV.any, VV.any, VV.any, VV.any, VV.any, VV.any, VV.any, VV.any, VV.any, VV.any, VV.any, VV.any, VV.any, VV.any, VV.any, VV.any, VV.any, VV.any, VV.any, VV.any, VV.any] [Atom.ro Kd.cell
 l, Atom.cells 25 [C.slc 0 0 l.length none], Atom.cells 32 [C.int .i64 f.n0, C.int .i64 f.b0, C.int .i64 f.n1, C.int .i64 f.b1], Atom.cells 32 [C.int .i64 g.n0, C.int .i64 g.b0, C.int .i64 g.n1, C.int .i64
 g.b1], Atom.arr Kd.item (ofF l most).items, Atom.arr Kd.int (ofF l most).left, Atom.cells 34 [C.slc 4 0 (ofF l most).items.length none, C.slc 5 0 (ofF l most).left.length none, C.int .i64 (ofF l most).n0,
 C.int .i64 (ofF l most).b0, C.int .i64 (ofF l most).n1, C.int .i64 (ofF l most).b1]] ∧ ∀ (z : Nat), z ≤ (ofF l most).items.length → ite2 (decide ((↑z : Int) < (↑(ofF l most).items.length : Int))) (((0
 : Int) ≤ (↑z : Int) ∧ (↑z : Int) < (↑(ofF l most).items.length : Int)) ∧ 0 + (↑z : Int).toNat < (ofF l most).items.length ∧ True ∧ 0 + (↑z : Int).toNat < (ofF l most).items.length ∧ ite2 (decide ((rd (ofF
 l most).items (0 + (↑z : Int).toNat) (KK.dflt Kd.item)).cell < (0 : Int))) (True ∧ EndsAs 1 (ct_planFits l most f g) (boolv false) [Atom.ro Kd.cell l, Atom.cells 25 [C.slc 0 0 l.length none], Atom.cells
 32 [C.int .i64 f.n0, C.int .i64 f.b0, C.int .i64 f.n1, C.int .i64 f.b1], Atom.cells 32 [C.int .i64 g.n0, C.int .i64 g.b0, C.int .i64 g.n1, C.int .i64 g.b1], Atom.arr Kd.item (ofF l most).items, Atom.arr
 Kd.int (ofF l most).left, Atom.cells 34 [C.slc 4 0 (ofF l most).items.length none, C.slc 5 0 (ofF l most).left.length none, C.int .i64 (ofF l most).n0, C.int .i64 (ofF l most).b0, C.int .i64 (ofF l most).n1,
 C.int .i64 (ofF l most).b1]]) (((0 : Int) ≤ (↑z : Int) ∧ (↑z : Int) < (↑(ofF l most).items.length : Int)) ∧ 0 + (↑z : Int).toNat < (ofF l most).items.length ∧ True ∧ 0 + (↑z : Int).toNat < (ofF l most).items.length
 ∧ ite2 (decide ((↑l.length : Int) ≤ (rd (ofF l most).items (0 + (↑z : Int).toNat) (KK.dflt Kd.item)).cell)) (True ∧ EndsAs 1 (ct_planFits l most f g) (boolv false) [Atom.ro Kd.cell l, Atom.cells 25 [C.slc
 0 0 l.length none], Atom.cells 32 [C.int .i64 f.n0, C.int .i64 f.b0, C.int .i64 f.n1, C.int .i64 f.b1], Atom.cells 32 [C.int .i64 g.n0, C.int .i64 g.b0, C.int .i64 g.n1, C.int .i64 g.b1], Atom.arr Kd.item
 (ofF l most).items, Atom.arr Kd.int (ofF l most).left, Atom.cells 34 [C.slc 4 0 (ofF l most).items.length none, C.slc 5 0 (ofF l most).left.length none, C.int .i64 (ofF l most).n0, C.int .i64 (ofF l most).b0,
 C.int .i64 (ofF l most).n1, C.int .i64 (ofF l most).b1]]) (True ∧ i64ok ((↑z : Int) + (1 : Int)) ∧ Enter 1 (invZ10 l most f g) (fun (z' : Nat) => (ofF l most).items.length - z' < (ofF l most).items.length
 - z) [VV.any, i64 most, VV.any, VV.any, VV.one (V1.c (C.ptr 1 0 0)), VV.any, VV.one (V1.c (C.ptr 2 0 0)), VV.one (V1.c (C.ptr 3 0 0)), VV.any, VV.one (V1.c (C.ptr 6 0 0)), i64 (↑(fitsF l most f) : Int),
 i64 ((↑z : Int) + (1 : Int)), VV.any, VV.any, VV.any, VV.any, VV.any, VV.any, VV.any, VV.any, VV.any, VV.any, VV.any, VV.any, VV.any, VV.any, VV.any, VV.any, VV.any, VV.any, VV.any, VV.any, VV.any, VV.any,
 VV.any, VV.any, VV.any, VV.any, VV.any, VV.any, VV.any, VV.any, VV.any, VV.any, VV.any, VV.any, i64 (↑z : Int), VV.one (V1.c (C.ptr 6 0 0)), VV.one (V1.c (C.slc 4 0 (ofF l most).items.length none)), i64
 (↑(ofF l most).items.length : Int), boolv true, i64 (↑z : Int), i64 ((↑z : Int) + (1 : Int)), VV.one (V1.c (C.ptr 6 0 0)), VV.one (V1.c (C.slc 4 0 (ofF l most).items.length none)), i64 (↑z : Int), VV.one
 (V1.c (C.ptr 4 (0 + (↑z : Int).toNat) 0)), VV.one (V1.c (C.ptr 4 (0 + (↑z : Int).toNat) 1)), VV.one (V1.c (C.int .i64 (rd (ofF l most).items (0 + (↑z : Int).toNat) (KK.dflt Kd.item)).cell)), boolv false,
 boolv false, VV.one (V1.c (C.ptr 6 0 0)), VV.one (V1.c (C.slc 4 0 (ofF l most).items.length none)), i64 (↑z : Int), VV.one (V1.c (C.ptr 4 (0 + (↑z : Int).toNat) 0)), VV.one (V1.c (C.ptr 4 (0 + (↑z : Int).toNat)
 1)), VV.one (V1.c (C.int .i64 (rd (ofF l most).items (0 + (↑z : Int).toNat) (KK.dflt Kd.item)).cell)), VV.one (V1.c (C.ptr 1 0 0)), VV.one (V1.c (C.slc 0 0 l.length none)), i64 (↑l.length : Int), boolv
 false, boolv false, VV.any, VV.any, VV.any, VV.any, VV.any, VV.any, VV.any, VV.any, VV.any, VV.any, VV.any, VV.any, VV.any, VV.any, VV.any, VV.any, VV.any, VV.any, VV.any, VV.any, VV.any, VV.any, VV.any,
 VV.any, VV.any, VV.any, VV.any, VV.any, VV.any, VV.any, VV.any, VV.any, VV.any, VV.any, VV.any, VV.any, VV.any, VV.any, VV.any, VV.any, VV.any, VV.any, VV.any, VV.any, VV.any, VV.any, VV.any, VV.any, VV.any,
 VV.any, VV.any, VV.any, VV.any, VV.any, VV.any, VV.any, VV.any, VV.any] [Atom.ro Kd.cell l, Atom.cells 25 [C.slc 0 0 l.length none], Atom.cells 32 [C.int .i64 f.n0, C.int .i64 f.b0, C.int .i64 f.n1, C.int
 .i64 f.b1], Atom.cells 32 [C.int .i64 g.n0, C.int .i64 g.b0, C.int .i64 g.n1, C.int .i64 g.b1], Atom.arr Kd.item (ofF l most).items, Atom.arr Kd.int (ofF l most).left, Atom.cells 34 [C.slc 4 0 (ofF l most).items.length
 none, C.slc 5 0 (ofF l most).left.length none, C.int .i64 (ofF l most).n0, C.int .i64 (ofF l most).b0, C.int .i64 (ofF l most).n1, C.int .i64 (ofF l most).b1]]))) ((True ∧ ((∀ (c : Cell), List.Mem c l
 → c.Ok) ∧ (↑(fitsF l most f) : Int).toNat ≤ (ofF l most).items.length ∧ (ofF l most).items.length ≤ 100000 ∧ ∀ (it : Item), List.Mem it (ofF l most).items → (0 : Int) ≤ it.cell ∧ it.cell < (↑l.length :
 Int)) ∧ Into (K := KK) 0 [] [0, 4, 5] [VV.one (V1.agg [C.slc 0 0 l.length none]), VV.one (V1.agg [C.slc 4 0 (ofF l most).items.length none, C.slc 5 0 (ofF l most).left.length none, C.int .i64 (ofF l most).n0,
 C.int .i64 (ofF l most).b0, C.int .i64 (ofF l most).n1, C.int .i64 (ofF l most).b1]), i64 (↑(fitsF l most f) : Int)] [Atom.ro Kd.cell l, Atom.cells 25 [C.slc 0 0 l.length none], Atom.cells 32 [C.int .i64
 f.n0, C.int .i64 f.b0, C.int .i64 f.n1, C.int .i64 f.b1], Atom.cells 32 [C.int .i64 g.n0, C.int .i64 g.b0, C.int .i64 g.n1, C.int .i64 g.b1], Atom.arr Kd.item (ofF l most).items, Atom.arr Kd.int (ofF l
 most).left, Atom.cells 34 [C.slc 4 0 (ofF l most).items.length none, C.slc 5 0 (ofF l most).left.length none, C.int .i64 (ofF l most).n0, C.int .i64 (ofF l most).b0, C.int .i64 (ofF l most).n1, C.int .i64
 (ofF l most).b1]] [VV.one (V1.agg [C.slc 0 0 l.length none]), VV.one (V1.agg [C.slc 1 0 (ofF l most).items.length none, C.slc 2 0 (ofF l most).left.length none, C.int .i64 (ofF l most).n0, C.int .i64 (ofF
 l most).b0, C.int .i64 (ofF l most).n1, C.int .i64 (ofF l most).b1]), i64 (↑(↑(fitsF l most f) : Int).toNat : Int)] [Atom.ro Kd.cell l, Atom.ro Kd.item (ofF l most).items, Atom.ro Kd.int (ofF l most).left]
 ∧ ∀ (y : Unit), True → (VV.one (V1.agg [C.int .i64 f.n0, C.int .i64 f.b0, C.int .i64 f.n1, C.int .i64 f.b1]) = VV.one (V1.agg [C.int .i64 f.n0, C.int .i64 f.b0, C.int .i64 f.n1, C.int .i64 f.b1]) ∧ True)
 ∧ ((∀ (c : Cell), List.Mem c (begF l (ofF l most).items (↑(fitsF l most f) : Int).toNat) → c.Ok) ∧ (begF l (ofF l most).items (↑(fitsF l most f) : Int).toNat).length ≤ 100000 ∧ i64ok (1048576 : Int)) ∧
 Into (K := KK) 0 [] [7] [VV.one (V1.agg [C.slc 7 0 (↑(fitsF l most f) : Int).toNat none]), i64 (1048576 : Int)] [Atom.ro Kd.cell l, Atom.cells 25 [C.slc 0 0 l.length none], Atom.cells 32 [C.int .i64 f.n0,
 C.int .i64 f.b0, C.int .i64 f.n1, C.int .i64 f.b1], Atom.cells 32 [C.int .i64 g.n0, C.int .i64 g.b0, C.int .i64 g.n1, C.int .i64 g.b1], Atom.arr Kd.item (ofF l most).items, Atom.arr Kd.int (ofF l most).left,
 Atom.cells 34 [C.slc 4 0 (ofF l most).items.length none, C.slc 5 0 (ofF l most).left.length none, C.int .i64 (ofF l most).n0, C.int .i64 (ofF l most).b0, C.int .i64 (ofF l most).n1, C.int .i64 (ofF l most).b1],
 Atom.arr Kd.cell (begF l (ofF l most).items (↑(fitsF l most f) : Int).toNat)] [VV.one (V1.agg [C.slc 0 0 (begF l (ofF l most).items (↑(fitsF l most f) : Int).toNat).length none]), i64 (1048576 : Int)]
 [Atom.ro Kd.cell (begF l (ofF l most).items (↑(fitsF l most f) : Int).toNat)] ∧ ∀ (y : Unit), True → (VV.one (V1.agg [C.int .i64 f.n0, C.int .i64 f.b0, C.int .i64 f.n1, C.int .i64 f.b1]) = VV.one (V1.agg
 [C.int .i64 f.n0, C.int .i64 f.b0, C.int .i64 f.n1, C.int .i64 f.b1]) ∧ True) ∧ True ∧ Into (K := KK) 0 [] [] [VV.one (V1.agg [C.int .i64 (ofF (castK KK (instDecidableEqKd._proof_1 Kd.cell Kd.cell (Nat.eq_of_beq_eq_true
 (Eq.refl (Kd.cell.ctorIdx.beq Kd.cell.ctorIdx)))) (begF l (ofF l most).items (↑(fitsF l most f) : Int).toNat)) (1048576 : Int)).n0, C.int .i64 (ofF (castK KK (instDecidableEqKd._proof_1 Kd.cell Kd.cell
 (Nat.eq_of_beq_eq_true (Eq.refl (Kd.cell.ctorIdx.beq Kd.cell.ctorIdx)))) (begF l (ofF l most).items (↑(fitsF l most f) : Int).toNat)) (1048576 : Int)).b0, C.int .i64 (ofF (castK KK (instDecidableEqKd._proof_1
 Kd.cell Kd.cell (Nat.eq_of_beq_eq_true (Eq.refl (Kd.cell.ctorIdx.beq Kd.cell.ctorIdx)))) (begF l (ofF l most).items (↑(fitsF l most f) : Int).toNat)) (1048576 : Int)).n1, C.int .i64 (ofF (castK KK (instDecidableEqKd._proof_1
 Kd.cell Kd.cell (Nat.eq_of_beq_eq_true (Eq.refl (Kd.cell.ctorIdx.beq Kd.cell.ctorIdx)))) (begF l (ofF l most).items (↑(fitsF l most f) : Int).toNat)) (1048576 : Int)).b1]), VV.one (V1.agg [C.int .i64 f.n0,
 C.int .i64 f.b0, C.int .i64 f.n1, C.int .i64 f.b1])] [Atom.ro Kd.cell l, Atom.cells 25 [C.slc 0 0 l.length none], Atom.cells 32 [C.int .i64 f.n0, C.int .i64 f.b0, C.int .i64 f.n1, C.int .i64 f.b1], Atom.cells
 32 [C.int .i64 g.n0, C.int .i64 g.b0, C.int .i64 g.n1, C.int .i64 g.b1], Atom.arr Kd.item (ofF l most).items, Atom.arr Kd.int (ofF l most).left, Atom.cells 34 [C.slc 4 0 (ofF l most).items.length none,
 C.slc 5 0 (ofF l most).left.length none, C.int .i64 (ofF l most).n0, C.int .i64 (ofF l most).b0, C.int .i64 (ofF l most).n1, C.int .i64 (ofF l most).b1], Atom.arr Kd.cell (begF l (ofF l most).items (↑(fitsF
 l most f) : Int).toNat), Atom.arr Kd.item (ofF (castK KK (instDecidableEqKd._proof_1 Kd.cell Kd.cell (Nat.eq_of_beq_eq_true (Eq.refl (Kd.cell.ctorIdx.beq Kd.cell.ctorIdx)))) (begF l (ofF l most).items
 (↑(fitsF l most f) : Int).toNat)) (1048576 : Int)).items, Atom.arr Kd.int (ofF (castK KK (instDecidableEqKd._proof_1 Kd.cell Kd.cell (Nat.eq_of_beq_eq_true (Eq.refl (Kd.cell.ctorIdx.beq Kd.cell.ctorIdx))))
 (begF l (ofF l most).items (↑(fitsF l most f) : Int).toNat)) (1048576 : Int)).left] [VV.one (V1.agg [C.int .i64 (ofF (castK KK (instDecidableEqKd._proof_1 Kd.cell Kd.cell (Nat.eq_of_beq_eq_true (Eq.refl
 (Kd.cell.ctorIdx.beq Kd.cell.ctorIdx)))) (begF l (ofF l most).items (↑(fitsF l most f) : Int).toNat)) (1048576 : Int)).n0, C.int .i64 (ofF (castK KK (instDecidableEqKd._proof_1 Kd.cell Kd.cell (Nat.eq_of_beq_eq_true
 (Eq.refl (Kd.cell.ctorIdx.beq Kd.cell.ctorIdx)))) (begF l (ofF l most).items (↑(fitsF l most f) : Int).toNat)) (1048576 : Int)).b0, C.int .i64 (ofF (castK KK (instDecidableEqKd._proof_1 Kd.cell Kd.cell
 (Nat.eq_of_beq_eq_true (Eq.refl (Kd.cell.ctorIdx.beq Kd.cell.ctorIdx)))) (begF l (ofF l most).items (↑(fitsF l most f) : Int).toNat)) (1048576 : Int)).n1, C.int .i64 (ofF (castK KK (instDecidableEqKd._proof_1
 Kd.cell Kd.cell (Nat.eq_of_beq_eq_true (Eq.refl (Kd.cell.ctorIdx.beq Kd.cell.ctorIdx)))) (begF l (ofF l most).items (↑(fitsF l most f) : Int).toNat)) (1048576 : Int)).b1]), VV.one (V1.agg [C.int .i64 f.n0,
 C.int .i64 f.b0, C.int .i64 f.n1, C.int .i64 f.b1])] [] ∧ ∀ (y : Unit), True → ite2 (fitsB (Four.mk ((ofF (castK KK (instDecidableEqKd._proof_1 Kd.cell Kd.cell (Nat.eq_of_beq_eq_true (Eq.refl (Kd.cell.ctorIdx.beq
 Kd.cell.ctorIdx)))) (begF l (ofF l most).items (↑(fitsF l most f) : Int).toNat)) (1048576 : Int)).n0) ((ofF (castK KK (instDecidableEqKd._proof_1 Kd.cell Kd.cell (Nat.eq_of_beq_eq_true (Eq.refl (Kd.cell.ctorIdx.beq
 Kd.cell.ctorIdx)))) (begF l (ofF l most).items (↑(fitsF l most f) : Int).toNat)) (1048576 : Int)).b0) ((ofF (castK KK (instDecidableEqKd._proof_1 Kd.cell Kd.cell (Nat.eq_of_beq_eq_true (Eq.refl (Kd.cell.ctorIdx.beq
 Kd.cell.ctorIdx)))) (begF l (ofF l most).items (↑(fitsF l most f) : Int).toNat)) (1048576 : Int)).n1) ((ofF (castK KK (instDecidableEqKd._proof_1 Kd.cell Kd.cell (Nat.eq_of_beq_eq_true (Eq.refl (Kd.cell.ctorIdx.beq
 Kd.cell.ctorIdx)))) (begF l (ofF l most).items (↑(fitsF l most f) : Int).toNat)) (1048576 : Int)).b1)) (Four.mk (f.n0) (f.b0) (f.n1) (f.b1))) (ite2 (decide ((↑(fitsF l most f) : Int) < (↑(ofF l most).items.length
 : Int))) (i64ok ((↑(fitsF l most f) : Int) + (1 : Int)) ∧ True ∧ ((∀ (c : Cell), List.Mem c l → c.Ok) ∧ ((↑(fitsF l most f) : Int) + (1 : Int)).toNat ≤ (ofF l most).items.length ∧ (ofF l most).items.length
 ≤ 100000 ∧ ∀ (it : Item), List.Mem it (ofF l most).items → (0 : Int) ≤ it.cell ∧ it.cell < (↑l.length : Int)) ∧ Into (K := KK) 0 [] [0, 4, 5] [VV.one (V1.agg [C.slc 0 0 l.length none]), VV.one (V1.agg
 [C.slc 4 0 (ofF l most).items.length none, C.slc 5 0 (ofF l most).left.length none, C.int .i64 (ofF l most).n0, C.int .i64 (ofF l most).b0, C.int .i64 (ofF l most).n1, C.int .i64 (ofF l most).b1]), VV.one
 (V1.c (C.int .i64 ((↑(fitsF l most f) : Int) + (1 : Int))))] [Atom.ro Kd.cell l, Atom.cells 25 [C.slc 0 0 l.length none], Atom.cells 32 [C.int .i64 f.n0, C.int .i64 f.b0, C.int .i64 f.n1, C.int .i64 f.b1],
 Atom.cells 32 [C.int .i64 g.n0, C.int .i64 g.b0, C.int .i64 g.n1, C.int .i64 g.b1], Atom.arr Kd.item (ofF l most).items, Atom.arr Kd.int (ofF l most).left, Atom.cells 34 [C.slc 4 0 (ofF l most).items.length
 none, C.slc 5 0 (ofF l most).left.length none, C.int .i64 (ofF l most).n0, C.int .i64 (ofF l most).b0, C.int .i64 (ofF l most).n1, C.int .i64 (ofF l most).b1], Atom.arr Kd.cell (begF l (ofF l most).items
 (↑(fitsF l most f) : Int).toNat), Atom.arr Kd.item (ofF (castK KK (instDecidableEqKd._proof_1 Kd.cell Kd.cell (Nat.eq_of_beq_eq_true (Eq.refl (Kd.cell.ctorIdx.beq Kd.cell.ctorIdx)))) (begF l (ofF l most).items
 (↑(fitsF l most f) : Int).toNat)) (1048576 : Int)).items, Atom.arr Kd.int (ofF (castK KK (instDecidableEqKd._proof_1 Kd.cell Kd.cell (Nat.eq_of_beq_eq_true (Eq.refl (Kd.cell.ctorIdx.beq Kd.cell.ctorIdx))))
 (begF l (ofF l most).items (↑(fitsF l most f) : Int).toNat)) (1048576 : Int)).left] [VV.one (V1.agg [C.slc 0 0 l.length none]), VV.one (V1.agg [C.slc 1 0 (ofF l most).items.length none, C.slc 2 0 (ofF
 l most).left.length none, C.int .i64 (ofF l most).n0, C.int .i64 (ofF l most).b0, C.int .i64 (ofF l most).n1, C.int .i64 (ofF l most).b1]), VV.one (V1.c (C.int .i64 (↑((↑(fitsF l most f) : Int) + (1 :
 Int)).toNat : Int)))] [Atom.ro Kd.cell l, Atom.ro Kd.item (ofF l most).items, Atom.ro Kd.int (ofF l most).left] ∧ ∀ (y : Unit), True → (VV.one (V1.agg [C.int .i64 f.n0, C.int .i64 f.b0, C.int .i64 f.n1,
 C.int .i64 f.b1]) = VV.one (V1.agg [C.int .i64 f.n0, C.int .i64 f.b0, C.int .i64 f.n1, C.int .i64 f.b1]) ∧ True) ∧ ((∀ (c : Cell), List.Mem c (begF l (ofF l most).items ((↑(fitsF l most f) : Int) + (1
 : Int)).toNat) → c.Ok) ∧ (begF l (ofF l most).items ((↑(fitsF l most f) : Int) + (1 : Int)).toNat).length ≤ 100000 ∧ i64ok (1048576 : Int)) ∧ Into (K := KK) 0 [] [10] [VV.one (V1.agg [C.slc 10 0 ((↑(fitsF
 l most f) : Int) + (1 : Int)).toNat none]), VV.one (V1.c (C.int .i64 (1048576 : Int)))] [Atom.ro Kd.cell l, Atom.cells 25 [C.slc 0 0 l.length none], Atom.cells 32 [C.int .i64 f.n0, C.int .i64 f.b0, C.int
 .i64 f.n1, C.int .i64 f.b1], Atom.cells 32 [C.int .i64 g.n0, C.int .i64 g.b0, C.int .i64 g.n1, C.int .i64 g.b1], Atom.arr Kd.item (ofF l most).items, Atom.arr Kd.int (ofF l most).left, Atom.cells 34 [C.slc
 4 0 (ofF l most).items.length none, C.slc 5 0 (ofF l most).left.length none, C.int .i64 (ofF l most).n0, C.int .i64 (ofF l most).b0, C.int .i64 (ofF l most).n1, C.int .i64 (ofF l most).b1], Atom.arr Kd.cell
 (begF l (ofF l most).items (↑(fitsF l most f) : Int).toNat), Atom.arr Kd.item (ofF (castK KK (instDecidableEqKd._proof_1 Kd.cell Kd.cell (Nat.eq_of_beq_eq_true (Eq.refl (Kd.cell.ctorIdx.beq Kd.cell.ctorIdx))))
 (begF l (ofF l most).items (↑(fitsF l most f) : Int).toNat)) (1048576 : Int)).items, Atom.arr Kd.int (ofF (castK KK (instDecidableEqKd._proof_1 Kd.cell Kd.cell (Nat.eq_of_beq_eq_true (Eq.refl (Kd.cell.ctorIdx.beq
 Kd.cell.ctorIdx)))) (begF l (ofF l most).items (↑(fitsF l most f) : Int).toNat)) (1048576 : Int)).left, Atom.arr Kd.cell (begF l (ofF l most).items ((↑(fitsF l most f) : Int) + (1 : Int)).toNat)] [VV.one
 (V1.agg [C.slc 0 0 (begF l (ofF l most).items ((↑(fitsF l most f) : Int) + (1 : Int)).toNat).length none]), VV.one (V1.c (C.int .i64 (1048576 : Int)))] [Atom.ro Kd.cell (begF l (ofF l most).items ((↑(fitsF
 l most f) : Int) + (1 : Int)).toNat)] ∧ ∀ (y : Unit), True → (VV.one (V1.agg [C.int .i64 f.n0, C.int .i64 f.b0, C.int .i64 f.n1, C.int .i64 f.b1]) = VV.one (V1.agg [C.int .i64 f.n0, C.int .i64 f.b0, C.int
 .i64 f.n1, C.int .i64 f.b1]) ∧ True) ∧ True ∧ Into (K := KK) 0 [] [] [VV.one (V1.agg [C.int .i64 (ofF (castK KK (instDecidableEqKd._proof_1 Kd.cell Kd.cell (Nat.eq_of_beq_eq_true (Eq.refl (Kd.cell.ctorIdx.beq
 Kd.cell.ctorIdx)))) (begF l (ofF l most).items ((↑(fitsF l most f) : Int) + (1 : Int)).toNat)) (1048576 : Int)).n0, C.int .i64 (ofF (castK KK (instDecidableEqKd._proof_1 Kd.cell Kd.cell (Nat.eq_of_beq_eq_true
 (Eq.refl (Kd.cell.ctorIdx.beq Kd.cell.ctorIdx)))) (begF l (ofF l most).items ((↑(fitsF l most f) : Int) + (1 : Int)).toNat)) (1048576 : Int)).b0, C.int .i64 (ofF (castK KK (instDecidableEqKd._proof_1 Kd.cell
 Kd.cell (Nat.eq_of_beq_eq_true (Eq.refl (Kd.cell.ctorIdx.beq Kd.cell.ctorIdx)))) (begF l (ofF l most).items ((↑(fitsF l most f) : Int) + (1 : Int)).toNat)) (1048576 : Int)).n1, C.int .i64 (ofF (castK KK
 (instDecidableEqKd._proof_1 Kd.cell Kd.cell (Nat.eq_of_beq_eq_true (Eq.refl (Kd.cell.ctorIdx.beq Kd.cell.ctorIdx)))) (begF l (ofF l most).items ((↑(fitsF l most f) : Int) + (1 : Int)).toNat)) (1048576
 : Int)).b1]), VV.one (V1.agg [C.int .i64 f.n0, C.int .i64 f.b0, C.int .i64 f.n1, C.int .i64 f.b1])] [Atom.ro Kd.cell l, Atom.cells 25 [C.slc 0 0 l.length none], Atom.cells 32 [C.int .i64 f.n0, C.int .i64
 f.b0, C.int .i64 f.n1, C.int .i64 f.b1], Atom.cells 32 [C.int .i64 g.n0, C.int .i64 g.b0, C.int .i64 g.n1, C.int .i64 g.b1], Atom.arr Kd.item (ofF l most).items, Atom.arr Kd.int (ofF l most).left, Atom.cells
 34 [C.slc 4 0 (ofF l most).items.length none, C.slc 5 0 (ofF l most).left.length none, C.int .i64 (ofF l most).n0, C.int .i64 (ofF l most).b0, C.int .i64 (ofF l most).n1, C.int .i64 (ofF l most).b1], Atom.arr
 Kd.cell (begF l (ofF l most).items (↑(fitsF l most f) : Int).toNat), Atom.arr Kd.item (ofF (castK KK (instDecidableEqKd._proof_1 Kd.cell Kd.cell (Nat.eq_of_beq_eq_true (Eq.refl (Kd.cell.ctorIdx.beq Kd.cell.ctorIdx))))
 (begF l (ofF l most).items (↑(fitsF l most f) : Int).toNat)) (1048576 : Int)).items, Atom.arr Kd.int (ofF (castK KK (instDecidableEqKd._proof_1 Kd.cell Kd.cell (Nat.eq_of_beq_eq_true (Eq.refl (Kd.cell.ctorIdx.beq
 Kd.cell.ctorIdx)))) (begF l (ofF l most).items (↑(fitsF l most f) : Int).toNat)) (1048576 : Int)).left, Atom.arr Kd.cell (begF l (ofF l most).items ((↑(fitsF l most f) : Int) + (1 : Int)).toNat), Atom.arr
 Kd.item (ofF (castK KK (instDecidableEqKd._proof_1 Kd.cell Kd.cell (Nat.eq_of_beq_eq_true (Eq.refl (Kd.cell.ctorIdx.beq Kd.cell.ctorIdx)))) (begF l (ofF l most).items ((↑(fitsF l most f) : Int) + (1 :
 Int)).toNat)) (1048576 : Int)).items, Atom.arr Kd.int (ofF (castK KK (instDecidableEqKd._proof_1 Kd.cell Kd.cell (Nat.eq_of_beq_eq_true (Eq.refl (Kd.cell.ctorIdx.beq Kd.cell.ctorIdx)))) (begF l (ofF l
 most).items ((↑(fitsF l most f) : Int) + (1 : Int)).toNat)) (1048576 : Int)).left] [VV.one (V1.agg [C.int .i64 (ofF (castK KK (instDecidableEqKd._proof_1 Kd.cell Kd.cell (Nat.eq_of_beq_eq_true (Eq.refl
 (Kd.cell.ctorIdx.beq Kd.cell.ctorIdx)))) (begF l (ofF l most).items ((↑(fitsF l most f) : Int) + (1 : Int)).toNat)) (1048576 : Int)).n0, C.int .i64 (ofF (castK KK (instDecidableEqKd._proof_1 Kd.cell Kd.cell
 (Nat.eq_of_beq_eq_true (Eq.refl (Kd.cell.ctorIdx.beq Kd.cell.ctorIdx)))) (begF l (ofF l most).items ((↑(fitsF l most f) : Int) + (1 : Int)).toNat)) (1048576 : Int)).b0, C.int .i64 (ofF (castK KK (instDecidableEqKd._proof_1
 Kd.cell Kd.cell (Nat.eq_of_beq_eq_true (Eq.refl (Kd.cell.ctorIdx.beq Kd.cell.ctorIdx)))) (begF l (ofF l most).items ((↑(fitsF l most f) : Int) + (1 : Int)).toNat)) (1048576 : Int)).n1, C.int .i64 (ofF
 (castK KK (instDecidableEqKd._proof_1 Kd.cell Kd.cell (Nat.eq_of_beq_eq_true (Eq.refl (Kd.cell.ctorIdx.beq Kd.cell.ctorIdx)))) (begF l (ofF l most).items ((↑(fitsF l most f) : Int) + (1 : Int)).toNat))
 (1048576 : Int)).b1]), VV.one (V1.agg [C.int .i64 f.n0, C.int .i64 f.b0, C.int .i64 f.n1, C.int .i64 f.b1])] [] ∧ ∀ (y : Unit), True → ite2 (fitsB (Four.mk ((ofF (castK KK (instDecidableEqKd._proof_1 Kd.cell
 Kd.cell (Nat.eq_of_beq_eq_true (Eq.refl (Kd.cell.ctorIdx.beq Kd.cell.ctorIdx)))) (begF l (ofF l most).items ((↑(fitsF l most f) : Int) + (1 : Int)).toNat)) (1048576 : Int)).n0) ((ofF (castK KK (instDecidableEqKd._proof_1
 Kd.cell Kd.cell (Nat.eq_of_beq_eq_true (Eq.refl (Kd.cell.ctorIdx.beq Kd.cell.ctorIdx)))) (begF l (ofF l most).items ((↑(fitsF l most f) : Int) + (1 : Int)).toNat)) (1048576 : Int)).b0) ((ofF (castK KK
 (instDecidableEqKd._proof_1 Kd.cell Kd.cell (Nat.eq_of_beq_eq_true (Eq.refl (Kd.cell.ctorIdx.beq Kd.cell.ctorIdx)))) (begF l (ofF l most).items ((↑(fitsF l most f) : Int) + (1 : Int)).toNat)) (1048576
 : Int)).n1) ((ofF (castK KK (instDecidableEqKd._proof_1 Kd.cell Kd.cell (Nat.eq_of_beq_eq_true (Eq.refl (Kd.cell.ctorIdx.beq Kd.cell.ctorIdx)))) (begF l (ofF l most).items ((↑(fitsF l most f) : Int) +
 (1 : Int)).toNat)) (1048576 : Int)).b1)) (Four.mk (f.n0) (f.b0) (f.n1) (f.b1))) (True ∧ EndsAs 1 (ct_planFits l most f g) (VV.one (V1.c (C.bool false))) [Atom.ro Kd.cell l, Atom.cells 25 [C.slc 0 0 l.length
 none], Atom.cells 32 [C.int .i64 f.n0, C.int .i64 f.b0, C.int .i64 f.n1, C.int .i64 f.b1], Atom.cells 32 [C.int .i64 g.n0, C.int .i64 g.b0, C.int .i64 g.n1, C.int .i64 g.b1], Atom.arr Kd.item (ofF l most).items,
 Atom.arr Kd.int (ofF l most).left, Atom.cells 34 [C.slc 4 0 (ofF l most).items.length none, C.slc 5 0 (ofF l most).left.length none, C.int .i64 (ofF l most).n0, C.int .i64 (ofF l most).b0, C.int .i64 (ofF
 l most).n1, C.int .i64 (ofF l most).b1], Atom.arr Kd.cell (begF l (ofF l most).items (↑(fitsF l most f) : Int).toNat), Atom.arr Kd.item (ofF (castK KK (instDecidableEqKd._proof_1 Kd.cell Kd.cell (Nat.eq_of_beq_eq_true
 (Eq.refl (Kd.cell.ctorIdx.beq Kd.cell.ctorIdx)))) (begF l (ofF l most).items (↑(fitsF l most f) : Int).toNat)) (1048576 : Int)).items, Atom.arr Kd.int (ofF (castK KK (instDecidableEqKd._proof_1 Kd.cell
 Kd.cell (Nat.eq_of_beq_eq_true (Eq.refl (Kd.cell.ctorIdx.beq Kd.cell.ctorIdx)))) (begF l (ofF l most).items (↑(fitsF l most f) : Int).toNat)) (1048576 : Int)).left, Atom.arr Kd.cell (begF l (ofF l most).items
 ((↑(fitsF l most f) : Int) + (1 : Int)).toNat), Atom.arr Kd.item (ofF (castK KK (instDecidableEqKd._proof_1 Kd.cell Kd.cell (Nat.eq_of_beq_eq_true (Eq.refl (Kd.cell.ctorIdx.beq Kd.cell.ctorIdx)))) (begF
 l (ofF l most).items ((↑(fitsF l most f) : Int) + (1 : Int)).toNat)) (1048576 : Int)).items, Atom.arr Kd.int (ofF (castK KK (instDecidableEqKd._proof_1 Kd.cell Kd.cell (Nat.eq_of_beq_eq_true (Eq.refl (Kd.cell.ctorIdx.beq
 Kd.cell.ctorIdx)))) (begF l (ofF l most).items ((↑(fitsF l most f) : Int) + (1 : Int)).toNat)) (1048576 : Int)).left]) (True ∧ Enter 1 (invZ16 l most f g) (fun (x : Unit) => True) [VV.any, VV.one (V1.c
 (C.int .i64 most)), VV.any, VV.any, VV.one (V1.c (C.ptr 1 0 0)), VV.any, VV.one (V1.c (C.ptr 2 0 0)), VV.one (V1.c (C.ptr 3 0 0)), VV.any, VV.one (V1.c (C.ptr 6 0 0)), VV.one (V1.c (C.int .i64 (↑(fitsF
 l most f) : Int))), VV.one (V1.c (C.int .i64 (↑z : Int))), VV.any, VV.any, VV.any, VV.any, VV.any, VV.any, VV.any, VV.any, VV.any, VV.any, VV.any, VV.any, VV.any, VV.any, VV.any, VV.any, VV.any, VV.any,
 VV.any, VV.any, VV.any, VV.any, VV.any, VV.any, VV.any, VV.any, VV.any, VV.any, VV.any, VV.any, VV.any, VV.any, VV.any, VV.any, VV.one (V1.c (C.int .i64 (↑z : Int))), VV.one (V1.c (C.ptr 6 0 0)), VV.one
 (V1.c (C.slc 4 0 (ofF l most).items.length none)), VV.one (V1.c (C.int .i64 (↑(ofF l most).items.length : Int))), VV.one (V1.c (C.bool false)), VV.any, VV.any, VV.any, VV.any, VV.any, VV.any, VV.any, VV.any,
 VV.any, VV.any, VV.any, VV.any, VV.any, VV.any, VV.any, VV.any, VV.any, VV.any, VV.any, VV.any, VV.any, VV.one (V1.agg [C.slc 0 0 l.length none]), VV.one (V1.agg [C.slc 4 0 (ofF l most).items.length none,
 C.slc 5 0 (ofF l most).left.length none, C.int .i64 (ofF l most).n0, C.int .i64 (ofF l most).b0, C.int .i64 (ofF l most).n1, C.int .i64 (ofF l most).b1]), VV.one (V1.c (C.int .i64 (↑(fitsF l most f) :
 Int))), VV.one (V1.agg [C.slc 7 0 (↑(fitsF l most f) : Int).toNat none]), VV.one (V1.agg [C.slc 8 0 (ofF (castK KK (instDecidableEqKd._proof_1 Kd.cell Kd.cell (Nat.eq_of_beq_eq_true (Eq.refl (Kd.cell.ctorIdx.beq
 Kd.cell.ctorIdx)))) (begF l (ofF l most).items (↑(fitsF l most f) : Int).toNat)) (1048576 : Int)).items.length none, C.slc 9 0 (ofF (castK KK (instDecidableEqKd._proof_1 Kd.cell Kd.cell (Nat.eq_of_beq_eq_true
 (Eq.refl (Kd.cell.ctorIdx.beq Kd.cell.ctorIdx)))) (begF l (ofF l most).items (↑(fitsF l most f) : Int).toNat)) (1048576 : Int)).left.length none, C.int .i64 (ofF (castK KK (instDecidableEqKd._proof_1 Kd.cell
 Kd.cell (Nat.eq_of_beq_eq_true (Eq.refl (Kd.cell.ctorIdx.beq Kd.cell.ctorIdx)))) (begF l (ofF l most).items (↑(fitsF l most f) : Int).toNat)) (1048576 : Int)).n0, C.int .i64 (ofF (castK KK (instDecidableEqKd._proof_1
 Kd.cell Kd.cell (Nat.eq_of_beq_eq_true (Eq.refl (Kd.cell.ctorIdx.beq Kd.cell.ctorIdx)))) (begF l (ofF l most).items (↑(fitsF l most f) : Int).toNat)) (1048576 : Int)).b0, C.int .i64 (ofF (castK KK (instDecidableEqKd._proof_1
 Kd.cell Kd.cell (Nat.eq_of_beq_eq_true (Eq.refl (Kd.cell.ctorIdx.beq Kd.cell.ctorIdx)))) (begF l (ofF l most).items (↑(fitsF l most f) : Int).toNat)) (1048576 : Int)).n1, C.int .i64 (ofF (castK KK (instDecidableEqKd._proof_1
 Kd.cell Kd.cell (Nat.eq_of_beq_eq_true (Eq.refl (Kd.cell.ctorIdx.beq Kd.cell.ctorIdx)))) (begF l (ofF l most).items (↑(fitsF l most f) : Int).toNat)) (1048576 : Int)).b1]), VV.one (V1.agg [C.int .i64 (ofF
 (castK KK (instDecidableEqKd._proof_1 Kd.cell Kd.cell (Nat.eq_of_beq_eq_true (Eq.refl (Kd.cell.ctorIdx.beq Kd.cell.ctorIdx)))) (begF l (ofF l most).items (↑(fitsF l most f) : Int).toNat)) (1048576 : Int)).n0,
 C.int .i64 (ofF (castK KK (instDecidableEqKd._proof_1 Kd.cell Kd.cell (Nat.eq_of_beq_eq_true (Eq.refl (Kd.cell.ctorIdx.beq Kd.cell.ctorIdx)))) (begF l (ofF l most).items (↑(fitsF l most f) : Int).toNat))
 (1048576 : Int)).b0, C.int .i64 (ofF (castK KK (instDecidableEqKd._proof_1 Kd.cell Kd.cell (Nat.eq_of_beq_eq_true (Eq.refl (Kd.cell.ctorIdx.beq Kd.cell.ctorIdx)))) (begF l (ofF l most).items (↑(fitsF l
 most f) : Int).toNat)) (1048576 : Int)).n1, C.int .i64 (ofF (castK KK (instDecidableEqKd._proof_1 Kd.cell Kd.cell (Nat.eq_of_beq_eq_true (Eq.refl (Kd.cell.ctorIdx.beq Kd.cell.ctorIdx)))) (begF l (ofF l
 most).items (↑(fitsF l most f) : Int).toNat)) (1048576 : Int)).b1]), VV.one (V1.agg [C.int .i64 f.n0, C.int .i64 f.b0, C.int .i64 f.n1, C.int .i64 f.b1]), VV.one (V1.c (C.bool (fitsB (Four.mk ((ofF (castK
 KK (instDecidableEqKd._proof_1 Kd.cell Kd.cell (Nat.eq_of_beq_eq_true (Eq.refl (Kd.cell.ctorIdx.beq Kd.cell.ctorIdx)))) (begF l (ofF l most).items (↑(fitsF l most f) : Int).toNat)) (1048576 : Int)).n0)
 ((ofF (castK KK (instDecidableEqKd._proof_1 Kd.cell Kd.cell (Nat.eq_of_beq_eq_true (Eq.refl (Kd.cell.ctorIdx.beq Kd.cell.ctorIdx)))) (begF l (ofF l most).items (↑(fitsF l most f) : Int).toNat)) (1048576
 : Int)).b0) ((ofF (castK KK (instDecidableEqKd._proof_1 Kd.cell Kd.cell (Nat.eq_of_beq_eq_true (Eq.refl (Kd.cell.ctorIdx.beq Kd.cell.ctorIdx)))) (begF l (ofF l most).items (↑(fitsF l most f) : Int).toNat))
 (1048576 : Int)).n1) ((ofF (castK KK (instDecidableEqKd._proof_1 Kd.cell Kd.cell (Nat.eq_of_beq_eq_true (Eq.refl (Kd.cell.ctorIdx.beq Kd.cell.ctorIdx)))) (begF l (ofF l most).items (↑(fitsF l most f) :
 Int).toNat)) (1048576 : Int)).b1)) (Four.mk (f.n0) (f.b0) (f.n1) (f.b1))))), VV.one (V1.c (C.bool false)), VV.one (V1.c (C.bool false)), VV.one (V1.c (C.int .i64 (↑(fitsF l most f) : Int))), VV.one (V1.c
 (C.ptr 6 0 0)), VV.one (V1.c (C.slc 4 0 (ofF l most).items.length none)), VV.one (V1.c (C.int .i64 (↑(ofF l most).items.length : Int))), VV.one (V1.c (C.bool true)), VV.one (V1.c (C.bool true)), VV.one
 (V1.agg [C.slc 0 0 l.length none]), VV.one (V1.agg [C.slc 4 0 (ofF l most).items.length none, C.slc 5 0 (ofF l most).left.length none, C.int .i64 (ofF l most).n0, C.int .i64 (ofF l most).b0, C.int .i64
 (ofF l most).n1, C.int .i64 (ofF l most).b1]), VV.one (V1.c (C.int .i64 (↑(fitsF l most f) : Int))), VV.one (V1.c (C.int .i64 ((↑(fitsF l most f) : Int) + (1 : Int)))), VV.one (V1.agg [C.slc 10 0 ((↑(fitsF
 l most f) : Int) + (1 : Int)).toNat none]), VV.one (V1.agg [C.slc 11 0 (ofF (castK KK (instDecidableEqKd._proof_1 Kd.cell Kd.cell (Nat.eq_of_beq_eq_true (Eq.refl (Kd.cell.ctorIdx.beq Kd.cell.ctorIdx))))
 (begF l (ofF l most).items ((↑(fitsF l most f) : Int) + (1 : Int)).toNat)) (1048576 : Int)).items.length none, C.slc 12 0 (ofF (castK KK (instDecidableEqKd._proof_1 Kd.cell Kd.cell (Nat.eq_of_beq_eq_true
 (Eq.refl (Kd.cell.ctorIdx.beq Kd.cell.ctorIdx)))) (begF l (ofF l most).items ((↑(fitsF l most f) : Int) + (1 : Int)).toNat)) (1048576 : Int)).left.length none, C.int .i64 (ofF (castK KK (instDecidableEqKd._proof_1
 Kd.cell Kd.cell (Nat.eq_of_beq_eq_true (Eq.refl (Kd.cell.ctorIdx.beq Kd.cell.ctorIdx)))) (begF l (ofF l most).items ((↑(fitsF l most f) : Int) + (1 : Int)).toNat)) (1048576 : Int)).n0, C.int .i64 (ofF
 (castK KK (instDecidableEqKd._proof_1 Kd.cell Kd.cell (Nat.eq_of_beq_eq_true (Eq.refl (Kd.cell.ctorIdx.beq Kd.cell.ctorIdx)))) (begF l (ofF l most).items ((↑(fitsF l most f) : Int) + (1 : Int)).toNat))
 (1048576 : Int)).b0, C.int .i64 (ofF (castK KK (instDecidableEqKd._proof_1 Kd.cell Kd.cell (Nat.eq_of_beq_eq_true (Eq.refl (Kd.cell.ctorIdx.beq Kd.cell.ctorIdx)))) (begF l (ofF l most).items ((↑(fitsF
 l most f) : Int) + (1 : Int)).toNat)) (1048576 : Int)).n1, C.int .i64 (ofF (castK KK (instDecidableEqKd._proof_1 Kd.cell Kd.cell (Nat.eq_of_beq_eq_true (Eq.refl (Kd.cell.ctorIdx.beq Kd.cell.ctorIdx))))
 (begF l (ofF l most).items ((↑(fitsF l most f) : Int) + (1 : Int)).toNat)) (1048576 : Int)).b1]), VV.one (V1.agg [C.int .i64 (ofF (castK KK (instDecidableEqKd._proof_1 Kd.cell Kd.cell (Nat.eq_of_beq_eq_true
 (Eq.refl (Kd.cell.ctorIdx.beq Kd.cell.ctorIdx)))) (begF l (ofF l most).items ((↑(fitsF l most f) : Int) + (1 : Int)).toNat)) (1048576 : Int)).n0, C.int .i64 (ofF (castK KK (instDecidableEqKd._proof_1 Kd.cell
 Kd.cell (Nat.eq_of_beq_eq_true (Eq.refl (Kd.cell.ctorIdx.beq Kd.cell.ctorIdx)))) (begF l (ofF l most).items ((↑(fitsF l most f) : Int) + (1 : Int)).toNat)) (1048576 : Int)).b0, C.int .i64 (ofF (castK KK
 (instDecidableEqKd._proof_1 Kd.cell Kd.cell (Nat.eq_of_beq_eq_true (Eq.refl (Kd.cell.ctorIdx.beq Kd.cell.ctorIdx)))) (begF l (ofF l most).items ((↑(fitsF l most f) : Int) + (1 : Int)).toNat)) (1048576
 : Int)).n1, C.int .i64 (ofF (castK KK (instDecidableEqKd._proof_1 Kd.cell Kd.cell (Nat.eq_of_beq_eq_true (Eq.refl (Kd.cell.ctorIdx.beq Kd.cell.ctorIdx)))) (begF l (ofF l most).items ((↑(fitsF l most f)
 : Int) + (1 : Int)).toNat)) (1048576 : Int)).b1]), VV.one (V1.agg [C.int .i64 f.n0, C.int .i64 f.b0, C.int .i64 f.n1, C.int .i64 f.b1]), VV.one (V1.c (C.bool (fitsB (Four.mk ((ofF (castK KK (instDecidableEqKd._proof_1
 Kd.cell Kd.cell (Nat.eq_of_beq_eq_true (Eq.refl (Kd.cell.ctorIdx.beq Kd.cell.ctorIdx)))) (begF l (ofF l most).items ((↑(fitsF l most f) : Int) + (1 : Int)).toNat)) (1048576 : Int)).n0) ((ofF (castK KK
 (instDecidableEqKd._proof_1 Kd.cell Kd.cell (Nat.eq_of_beq_eq_true (Eq.refl (Kd.cell.ctorIdx.beq Kd.cell.ctorIdx)))) (begF l (ofF l most).items ((↑(fitsF l most f) : Int) + (1 : Int)).toNat)) (1048576
 : Int)).b0) ((ofF (castK KK (instDecidableEqKd._proof_1 Kd.cell Kd.cell (Nat.eq_of_beq_eq_true (Eq.refl (Kd.cell.ctorIdx.beq Kd.cell.ctorIdx)))) (begF l (ofF l most).items ((↑(fitsF l most f) : Int) +
 (1 : Int)).toNat)) (1048576 : Int)).n1) ((ofF (castK KK (instDecidableEqKd._proof_1 Kd.cell Kd.cell (Nat.eq_of_beq_eq_true (Eq.refl (Kd.cell.ctorIdx.beq Kd.cell.ctorIdx)))) (begF l (ofF l most).items ((↑(fitsF
 l most f) : Int) + (1 : Int)).toNat)) (1048576 : Int)).b1)) (Four.mk (f.n0) (f.b0) (f.n1) (f.b1))))), VV.one (V1.c (C.bool false)), VV.one (V1.c (C.bool false)), VV.any, VV.any, VV.any, VV.any, VV.any,
 VV.any, VV.any, VV.any, VV.any, VV.any, VV.any, VV.any, VV.any, VV.any, VV.any, VV.any, VV.any, VV.any, VV.any, VV.any, VV.any, VV.any, VV.any, VV.any, VV.any, VV.any, VV.any, VV.any, VV.any, VV.any, VV.any]
 [Atom.ro Kd.cell l, Atom.cells 25 [C.slc 0 0 l.length none], Atom.cells 32 [C.int .i64 f.n0, C.int .i64 f.b0, C.int .i64 f.n1, C.int .i64 f.b1], Atom.cells 32 [C.int .i64 g.n0, C.int .i64 g.b0, C.int .i64
 g.n1, C.int .i64 g.b1], Atom.arr Kd.item (ofF l most).items, Atom.arr Kd.int (ofF l most).left, Atom.cells 34 [C.slc 4 0 (ofF l most).items.length none, C.slc 5 0 (ofF l most).left.length none, C.int .i64
 (ofF l most).n0, C.int .i64 (ofF l most).b0, C.int .i64 (ofF l most).n1, C.int .i64 (ofF l most).b1], Atom.arr Kd.cell (begF l (ofF l most).items (↑(fitsF l most f) : Int).toNat), Atom.arr Kd.item (ofF
 (castK KK (instDecidableEqKd._proof_1 Kd.cell Kd.cell (Nat.eq_of_beq_eq_true (Eq.refl (Kd.cell.ctorIdx.beq Kd.cell.ctorIdx)))) (begF l (ofF l most).items (↑(fitsF l most f) : Int).toNat)) (1048576 : Int)).items,
 Atom.arr Kd.int (ofF (castK KK (instDecidableEqKd._proof_1 Kd.cell Kd.cell (Nat.eq_of_beq_eq_true (Eq.refl (Kd.cell.ctorIdx.beq Kd.cell.ctorIdx)))) (begF l (ofF l most).items (↑(fitsF l most f) : Int).toNat))
 (1048576 : Int)).left, Atom.arr Kd.cell (begF l (ofF l most).items ((↑(fitsF l most f) : Int) + (1 : Int)).toNat), Atom.arr Kd.item (ofF (castK KK (instDecidableEqKd._proof_1 Kd.cell Kd.cell (Nat.eq_of_beq_eq_true
 (Eq.refl (Kd.cell.ctorIdx.beq Kd.cell.ctorIdx)))) (begF l (ofF l most).items ((↑(fitsF l most f) : Int) + (1 : Int)).toNat)) (1048576 : Int)).items, Atom.arr Kd.int (ofF (castK KK (instDecidableEqKd._proof_1
 Kd.cell Kd.cell (Nat.eq_of_beq_eq_true (Eq.refl (Kd.cell.ctorIdx.beq Kd.cell.ctorIdx)))) (begF l (ofF l most).items ((↑(fitsF l most f) : Int) + (1 : Int)).toNat)) (1048576 : Int)).left])) (True ∧ (VV.tup
 [] = VV.tup [] ∧ True) ∧ (VV.tup [] = VV.tup [] ∧ True) ∧ True ∧ Enter 1 (invZ16 l most f g) (fun (x : Unit) => True) [VV.any, i64 most, VV.any, VV.any, VV.one (V1.c (C.ptr 1 0 0)), VV.any, VV.one (V1.c
 (C.ptr 2 0 0)), VV.one (V1.c (C.ptr 3 0 0)), VV.any, VV.one (V1.c (C.ptr 6 0 0)), VV.one (V1.c (C.int .i64 (↑(fitsF l most f) : Int))), i64 (↑z : Int), VV.any, VV.any, VV.any, VV.any, VV.any, VV.any, VV.any,
 VV.any, VV.any, VV.any, VV.any, VV.any, VV.any, VV.any, VV.any, VV.any, VV.any, VV.any, VV.any, VV.any, VV.any, VV.any, VV.any, VV.any, VV.any, VV.any, VV.any, VV.any, VV.any, VV.any, VV.any, VV.any, VV.any,
 VV.any, i64 (↑z : Int), VV.one (V1.c (C.ptr 6 0 0)), VV.one (V1.c (C.slc 4 0 (ofF l most).items.length none)), VV.one (V1.c (C.int .i64 (↑(ofF l most).items.length : Int))), boolv false, VV.any, VV.any,
 VV.any, VV.any, VV.any, VV.any, VV.any, VV.any, VV.any, VV.any, VV.any, VV.any, VV.any, VV.any, VV.any, VV.any, VV.any, VV.any, VV.any, VV.any, VV.any, VV.one (V1.agg [C.slc 0 0 l.length none]), VV.one
 (V1.agg [C.slc 4 0 (ofF l most).items.length none, C.slc 5 0 (ofF l most).left.length none, C.int .i64 (ofF l most).n0, C.int .i64 (ofF l most).b0, C.int .i64 (ofF l most).n1, C.int .i64 (ofF l most).b1]),
 VV.one (V1.c (C.int .i64 (↑(fitsF l most f) : Int))), VV.one (V1.agg [C.slc 7 0 (↑(fitsF l most f) : Int).toNat none]), VV.one (V1.agg [C.slc 8 0 (ofF (castK KK (instDecidableEqKd._proof_1 Kd.cell Kd.cell
 (Nat.eq_of_beq_eq_true (Eq.refl (Kd.cell.ctorIdx.beq Kd.cell.ctorIdx)))) (begF l (ofF l most).items (↑(fitsF l most f) : Int).toNat)) (1048576 : Int)).items.length none, C.slc 9 0 (ofF (castK KK (instDecidableEqKd._proof_1
 Kd.cell Kd.cell (Nat.eq_of_beq_eq_true (Eq.refl (Kd.cell.ctorIdx.beq Kd.cell.ctorIdx)))) (begF l (ofF l most).items (↑(fitsF l most f) : Int).toNat)) (1048576 : Int)).left.length none, C.int .i64 (ofF
 (castK KK (instDecidableEqKd._proof_1 Kd.cell Kd.cell (Nat.eq_of_beq_eq_true (Eq.refl (Kd.cell.ctorIdx.beq Kd.cell.ctorIdx)))) (begF l (ofF l most).items (↑(fitsF l most f) : Int).toNat)) (1048576 : Int)).n0,
 C.int .i64 (ofF (castK KK (instDecidableEqKd._proof_1 Kd.cell Kd.cell (Nat.eq_of_beq_eq_true (Eq.refl (Kd.cell.ctorIdx.beq Kd.cell.ctorIdx)))) (begF l (ofF l most).items (↑(fitsF l most f) : Int).toNat))
 (1048576 : Int)).b0, C.int .i64 (ofF (castK KK (instDecidableEqKd._proof_1 Kd.cell Kd.cell (Nat.eq_of_beq_eq_true (Eq.refl (Kd.cell.ctorIdx.beq Kd.cell.ctorIdx)))) (begF l (ofF l most).items (↑(fitsF l
 most f) : Int).toNat)) (1048576 : Int)).n1, C.int .i64 (ofF (castK KK (instDecidableEqKd._proof_1 Kd.cell Kd.cell (Nat.eq_of_beq_eq_true (Eq.refl (Kd.cell.ctorIdx.beq Kd.cell.ctorIdx)))) (begF l (ofF l
 most).items (↑(fitsF l most f) : Int).toNat)) (1048576 : Int)).b1]), VV.one (V1.agg [C.int .i64 (ofF (castK KK (instDecidableEqKd._proof_1 Kd.cell Kd.cell (Nat.eq_of_beq_eq_true (Eq.refl (Kd.cell.ctorIdx.beq
 Kd.cell.ctorIdx)))) (begF l (ofF l most).items (↑(fitsF l most f) : Int).toNat)) (1048576 : Int)).n0, C.int .i64 (ofF (castK KK (instDecidableEqKd._proof_1 Kd.cell Kd.cell (Nat.eq_of_beq_eq_true (Eq.refl
 (Kd.cell.ctorIdx.beq Kd.cell.ctorIdx)))) (begF l (ofF l most).items (↑(fitsF l most f) : Int).toNat)) (1048576 : Int)).b0, C.int .i64 (ofF (castK KK (instDecidableEqKd._proof_1 Kd.cell Kd.cell (Nat.eq_of_beq_eq_true
 (Eq.refl (Kd.cell.ctorIdx.beq Kd.cell.ctorIdx)))) (begF l (ofF l most).items (↑(fitsF l most f) : Int).toNat)) (1048576 : Int)).n1, C.int .i64 (ofF (castK KK (instDecidableEqKd._proof_1 Kd.cell Kd.cell
 (Nat.eq_of_beq_eq_true (Eq.refl (Kd.cell.ctorIdx.beq Kd.cell.ctorIdx)))) (begF l (ofF l most).items (↑(fitsF l most f) : Int).toNat)) (1048576 : Int)).b1]), VV.one (V1.agg [C.int .i64 f.n0, C.int .i64
 f.b0, C.int .i64 f.n1, C.int .i64 f.b1]), VV.one (V1.c (C.bool (fitsB (Four.mk ((ofF (castK KK (instDecidableEqKd._proof_1 Kd.cell Kd.cell (Nat.eq_of_beq_eq_true (Eq.refl (Kd.cell.ctorIdx.beq Kd.cell.ctorIdx))))
 (begF l (ofF l most).items (↑(fitsF l most f) : Int).toNat)) (1048576 : Int)).n0) ((ofF (castK KK (instDecidableEqKd._proof_1 Kd.cell Kd.cell (Nat.eq_of_beq_eq_true (Eq.refl (Kd.cell.ctorIdx.beq Kd.cell.ctorIdx))))
 (begF l (ofF l most).items (↑(fitsF l most f) : Int).toNat)) (1048576 : Int)).b0) ((ofF (castK KK (instDecidableEqKd._proof_1 Kd.cell Kd.cell (Nat.eq_of_beq_eq_true (Eq.refl (Kd.cell.ctorIdx.beq Kd.cell.ctorIdx))))
 (begF l (ofF l most).items (↑(fitsF l most f) : Int).toNat)) (1048576 : Int)).n1) ((ofF (castK KK (instDecidableEqKd._proof_1 Kd.cell Kd.cell (Nat.eq_of_beq_eq_true (Eq.refl (Kd.cell.ctorIdx.beq Kd.cell.ctorIdx))))
 (begF l (ofF l most).items (↑(fitsF l most f) : Int).toNat)) (1048576 : Int)).b1)) (Four.mk (f.n0) (f.b0) (f.n1) (f.b1))))), boolv false, boolv false, VV.one (V1.c (C.int .i64 (↑(fitsF l most f) : Int))),
 VV.one (V1.c (C.ptr 6 0 0)), VV.one (V1.c (C.slc 4 0 (ofF l most).items.length none)), VV.one (V1.c (C.int .i64 (↑(ofF l most).items.length : Int))), boolv false, boolv false, VV.tup [], VV.tup [], VV.tup
 [], VV.tup [], VV.tup [], VV.tup [], VV.tup [], VV.tup [], VV.tup [], boolv false, boolv false, VV.any, VV.any, VV.any, VV.any, VV.any, VV.any, VV.any, VV.any, VV.any, VV.any, VV.any, VV.any, VV.any, VV.any,
 VV.any, VV.any, VV.any, VV.any, VV.any, VV.any, VV.any, VV.any, VV.any, VV.any, VV.any, VV.any, VV.any, VV.any, VV.any, VV.any, VV.any] [Atom.ro Kd.cell l, Atom.cells 25 [C.slc 0 0 l.length none], Atom.cells
 32 [C.int .i64 f.n0, C.int .i64 f.b0, C.int .i64 f.n1, C.int .i64 f.b1], Atom.cells 32 [C.int .i64 g.n0, C.int .i64 g.b0, C.int .i64 g.n1, C.int .i64 g.b1], Atom.arr Kd.item (ofF l most).items, Atom.arr
 Kd.int (ofF l most).left, Atom.cells 34 [C.slc 4 0 (ofF l most).items.length none, C.slc 5 0 (ofF l most).left.length none, C.int .i64 (ofF l most).n0, C.int .i64 (ofF l most).b0, C.int .i64 (ofF l most).n1,
 C.int .i64 (ofF l most).b1], Atom.arr Kd.cell (begF l (ofF l most).items (↑(fitsF l most f) : Int).toNat), Atom.arr Kd.item (ofF (castK KK (instDecidableEqKd._proof_1 Kd.cell Kd.cell (Nat.eq_of_beq_eq_true
 (Eq.refl (Kd.cell.ctorIdx.beq Kd.cell.ctorIdx)))) (begF l (ofF l most).items (↑(fitsF l most f) : Int).toNat)) (1048576 : Int)).items, Atom.arr Kd.int (ofF (castK KK (instDecidableEqKd._proof_1 Kd.cell
 Kd.cell (Nat.eq_of_beq_eq_true (Eq.refl (Kd.cell.ctorIdx.beq Kd.cell.ctorIdx)))) (begF l (ofF l most).items (↑(fitsF l most f) : Int).toNat)) (1048576 : Int)).left])) (True ∧ (VV.tup [] = VV.tup [] ∧ True)
 ∧ (VV.tup [] = VV.tup [] ∧ True) ∧ True ∧ EndsAs 1 (ct_planFits l most f g) (boolv false) [Atom.ro Kd.cell l, Atom.cells 25 [C.slc 0 0 l.length none], Atom.cells 32 [C.int .i64 f.n0, C.int .i64 f.b0, C.int
 .i64 f.n1, C.int .i64 f.b1], Atom.cells 32 [C.int .i64 g.n0, C.int .i64 g.b0, C.int .i64 g.n1, C.int .i64 g.b1], Atom.arr Kd.item (ofF l most).items, Atom.arr Kd.int (ofF l most).left, Atom.cells 34 [C.slc
 4 0 (ofF l most).items.length none, C.slc 5 0 (ofF l most).left.length none, C.int .i64 (ofF l most).n0, C.int .i64 (ofF l most).b0, C.int .i64 (ofF l most).n1, C.int .i64 (ofF l most).b1], Atom.arr Kd.cell
 (begF l (ofF l most).items (↑(fitsF l most f) : Int).toNat), Atom.arr Kd.item (ofF (castK KK (instDecidableEqKd._proof_1 Kd.cell Kd.cell (Nat.eq_of_beq_eq_true (Eq.refl (Kd.cell.ctorIdx.beq Kd.cell.ctorIdx))))
 (begF l (ofF l most).items (↑(fitsF l most f) : Int).toNat)) (1048576 : Int)).items, Atom.arr Kd.int (ofF (castK KK (instDecidableEqKd._proof_1 Kd.cell Kd.cell (Nat.eq_of_beq_eq_true (Eq.refl (Kd.cell.ctorIdx.beq
 Kd.cell.ctorIdx)))) (begF l (ofF l most).items (↑(fitsF l most f) : Int).toNat)) (1048576 : Int)).left])) ∧ ∀ (z : Unit), True → Enter 1 (invZ18 l most f g) (fun (x : Nat) => True) [VV.any, i64 most, VV.any,
 VV.any, VV.one (V1.c (C.ptr 1 0 0)), VV.any, VV.one (V1.c (C.ptr 2 0 0)), VV.one (V1.c (C.ptr 3 0 0)), VV.any, VV.one (V1.c (C.ptr 6 0 0)), i64 (↑(fitsF l most f) : Int), VV.any, VV.one (V1.c (C.ptr 7
 0 0)), i64 (0 : Int), VV.any, VV.any, VV.any, VV.any, VV.any, VV.any, VV.any, VV.any, VV.any, VV.any, VV.any, VV.any, VV.any, VV.any, VV.any, VV.any, VV.any, VV.any, VV.any, VV.any, VV.any, VV.any, VV.any,
 VV.any, VV.any, VV.any, VV.any, VV.any, VV.any, VV.any, VV.any, VV.any, VV.any, VV.any, VV.any, VV.any, VV.any, VV.any, VV.any, VV.any, VV.any, VV.any, VV.any, VV.any, VV.any, VV.any, VV.any, VV.any, VV.any,
 VV.any, VV.any, VV.any, VV.any, VV.any, VV.any, VV.any, VV.any, VV.any, VV.any, VV.any, VV.any, VV.any, VV.any, VV.any, VV.any, VV.any, VV.any, VV.any, VV.any, VV.any, VV.any, VV.any, VV.any, VV.any, VV.any,
 VV.any, VV.any, VV.any, VV.any, VV.any, VV.any, VV.any, VV.any, VV.any, VV.any, VV.any, VV.any, VV.any, VV.any, VV.any, VV.any, VV.any, VV.any, VV.any, VV.any, VV.any, VV.any, VV.any, VV.any, VV.any, VV.any,
 VV.any, VV.any, VV.any, VV.any, VV.any, VV.any, VV.any, VV.any, VV.any, VV.any, VV.any, VV.any, VV.any, VV.any, VV.any] [Atom.ro Kd.cell l, Atom.cells 25 [C.slc 0 0 l.length none], Atom.cells 32 [C.int
 .i64 f.n0, C.int .i64 f.b0, C.int .i64 f.n1, C.int .i64 f.b1], Atom.cells 32 [C.int .i64 g.n0, C.int .i64 g.b0, C.int .i64 g.n1, C.int .i64 g.b1], Atom.arr Kd.item (ofF l most).items, Atom.arr Kd.int (ofF
 l most).left, Atom.cells 34 [C.slc 4 0 (ofF l most).items.length none, C.slc 5 0 (ofF l most).left.length none, C.int .i64 (ofF l most).n0, C.int .i64 (ofF l most).b0, C.int .i64 (ofF l most).n1, C.int
 .i64 (ofF l most).b1], Atom.cells 32 [C.int .i64 (0 : Int), C.int .i64 (0 : Int), C.int .i64 (0 : Int), C.int .i64 (0 : Int)]] ∧ ∀ (z : Nat), z ≤ 2 → ite2 (decide ((↑z : Int) < (2 : Int))) (Enter 1 (invZ20
 l most f g 0 (↑z : Int)) (fun (x : Unit) => True) [VV.any, i64 most, VV.any, VV.any, VV.one (V1.c (C.ptr 1 0 0)), VV.any, VV.one (V1.c (C.ptr 2 0 0)), VV.one (V1.c (C.ptr 3 0 0)), VV.any, VV.one (V1.c
 (C.ptr 6 0 0)), i64 (↑(fitsF l most f) : Int), VV.any, VV.one (V1.c (C.ptr 7 0 0)), i64 (↑z : Int), VV.any, VV.any, VV.any, VV.any, VV.any, VV.any, VV.any, VV.any, VV.any, VV.any, VV.any, VV.any, VV.any,
 VV.any, VV.any, VV.any, VV.any, VV.any, VV.any, VV.any, VV.any, VV.any, VV.any, VV.any, VV.any, VV.any, VV.any, VV.any, VV.any, VV.any, VV.any, VV.any, VV.any, VV.any, VV.any, VV.any, VV.any, VV.any, VV.any,
 VV.any, VV.any, VV.any, VV.any, VV.any, VV.any, VV.any, VV.any, VV.any, VV.any, VV.any, VV.any, VV.any, VV.any, VV.any, VV.any, VV.any, VV.any, VV.any, VV.any, VV.any, VV.any, VV.any, VV.any, VV.any, VV.any,
 VV.any, VV.any, VV.any, VV.any, VV.any, VV.any, VV.any, VV.any, VV.any, VV.any, VV.any, VV.any, VV.any, VV.any, VV.any, VV.any, VV.any, VV.any, VV.any, VV.any, i64 (↑z : Int), boolv true, VV.any, VV.any,
 VV.any, VV.any, VV.any, VV.any, VV.any, VV.any, VV.any, VV.any, VV.any, VV.any, VV.any, VV.any, VV.any, VV.any, VV.any, VV.any, VV.any, VV.any, VV.any, VV.any, VV.any, VV.any, VV.any, VV.any, VV.any, VV.any,
 VV.any] [Atom.ro Kd.cell l, Atom.cells 25 [C.slc 0 0 l.length none], Atom.cells 32 [C.int .i64 f.n0, C.int .i64 f.b0, C.int .i64 f.n1, C.int .i64 f.b1], Atom.cells 32 [C.int .i64 g.n0, C.int .i64 g.b0,
 C.int .i64 g.n1, C.int .i64 g.b1], Atom.arr Kd.item (ofF l most).items, Atom.arr Kd.int (ofF l most).left, Atom.cells 34 [C.slc 4 0 (ofF l most).items.length none, C.slc 5 0 (ofF l most).left.length none,
 C.int .i64 (ofF l most).n0, C.int .i64 (ofF l most).b0, C.int .i64 (ofF l most).n1, C.int .i64 (ofF l most).b1], Atom.cells 32 [C.int .i64 (roomV f g z).n0, C.int .i64 (roomV f g z).b0, C.int .i64 (roomV
 f g z).n1, C.int .i64 (roomV f g z).b1]] ∨ Enter 1 (invZ20 l most f g 1 (↑z : Int)) (fun (x : Unit) => True) [VV.any, i64 most, VV.any, VV.any, VV.one (V1.c (C.ptr 1 0 0)), VV.any, VV.one (V1.c (C.ptr
 2 0 0)), VV.one (V1.c (C.ptr 3 0 0)), VV.any, VV.one (V1.c (C.ptr 6 0 0)), i64 (↑(fitsF l most f) : Int), VV.any, VV.one (V1.c (C.ptr 7 0 0)), i64 (↑z : Int), VV.any, VV.any, VV.any, VV.any, VV.any, VV.any,
 VV.any, VV.any, VV.any, VV.any, VV.any, VV.any, VV.any, VV.any, VV.any, VV.any, VV.any, VV.any, VV.any, VV.any, VV.any, VV.any, VV.any, VV.any, VV.any, VV.any, VV.any, VV.any, VV.any, VV.any, VV.any, VV.any,
 VV.any, VV.any, VV.any, VV.any, VV.any, VV.any, VV.any, VV.any, VV.any, VV.any, VV.any, VV.any, VV.any, VV.any, VV.any, VV.any, VV.any, VV.any, VV.any, VV.any, VV.any, VV.any, VV.any, VV.any, VV.any, VV.any,
 VV.any, VV.any, VV.any, VV.any, VV.any, VV.any, VV.any, VV.any, VV.any, VV.any, VV.any, VV.any, VV.any, VV.any, VV.any, VV.any, VV.any, VV.any, VV.any, VV.any, VV.any, VV.any, VV.any, VV.any, VV.any, VV.any,
 VV.any, i64 (↑z : Int), boolv true, VV.any, VV.any, VV.any, VV.any, VV.any, VV.any, VV.any, VV.any, VV.any, VV.any, VV.any, VV.any, VV.any, VV.any, VV.any, VV.any, VV.any, VV.any, VV.any, VV.any, VV.any,
 VV.any, VV.any, VV.any, VV.any, VV.any, VV.any, VV.any, VV.any] [Atom.ro Kd.cell l, Atom.cells 25 [C.slc 0 0 l.length none], Atom.cells 32 [C.int .i64 f.n0, C.int .i64 f.b0, C.int .i64 f.n1, C.int .i64
 f.b1], Atom.cells 32 [C.int .i64 g.n0, C.int .i64 g.b0, C.int .i64 g.n1, C.int .i64 g.b1], Atom.arr Kd.item (ofF l most).items, Atom.arr Kd.int (ofF l most).left, Atom.cells 34 [C.slc 4 0 (ofF l most).items.length
 none, C.slc 5 0 (ofF l most).left.length none, C.int .i64 (ofF l most).n0, C.int .i64 (ofF l most).b0, C.int .i64 (ofF l most).n1, C.int .i64 (ofF l most).b1], Atom.cells 32 [C.int .i64 (roomV f g z).n0,
 C.int .i64 (roomV f g z).b0, C.int .i64 (roomV f g z).n1, C.int .i64 (roomV f g z).b1]]) (((∀ (c : Cell), List.Mem c l → c.Ok) ∧ l.length ≤ 100000 ∧ i64ok most) ∧ Into (K := KK) 0 [] [0] [VV.one (V1.agg
 [C.slc 0 0 l.length none]), i64 most, VV.one (V1.agg [C.int .i64 (roomV f g z).n0, C.int .i64 (roomV f g z).b0, C.int .i64 (roomV f g z).n1, C.int .i64 (roomV f g z).b1])] [Atom.ro Kd.cell l, Atom.cells
 25 [C.slc 0 0 l.length none], Atom.cells 32 [C.int .i64 f.n0, C.int .i64 f.b0, C.int .i64 f.n1, C.int .i64 f.b1], Atom.cells 32 [C.int .i64 g.n0, C.int .i64 g.b0, C.int .i64 g.n1, C.int .i64 g.b1], Atom.arr
 Kd.item (ofF l most).items, Atom.arr Kd.int (ofF l most).left, Atom.cells 34 [C.slc 4 0 (ofF l most).items.length none, C.slc 5 0 (ofF l most).left.length none, C.int .i64 (ofF l most).n0, C.int .i64 (ofF
 l most).b0, C.int .i64 (ofF l most).n1, C.int .i64 (ofF l most).b1], Atom.cells 32 [C.int .i64 (roomV f g z).n0, C.int .i64 (roomV f g z).b0, C.int .i64 (roomV f g z).n1, C.int .i64 (roomV f g z).b1]]
 [VV.one (V1.agg [C.slc 0 0 l.length none]), i64 most, VV.one (V1.agg [C.int .i64 (roomV f g z).n0, C.int .i64 (roomV f g z).b0, C.int .i64 (roomV f g z).n1, C.int .i64 (roomV f g z).b1])] [Atom.ro Kd.cell
 l] ∧ ∀ (y : Unit), True → ite2 (decide ((↑(fitsF l most f) : Int) ≤ (↑(fitsF l most (Four.mk ((roomV f g z).n0) ((roomV f g z).b0) ((roomV f g z).n1) ((roomV f g z).b1))) : Int))) (EndsAs 1 (ct_planFits
 l most f g) (boolv true) [Atom.ro Kd.cell l, Atom.cells 25 [C.slc 0 0 l.length none], Atom.cells 32 [C.int .i64 f.n0, C.int .i64 f.b0, C.int .i64 f.n1, C.int .i64 f.b1], Atom.cells 32 [C.int .i64 g.n0,
 C.int .i64 g.b0, C.int .i64 g.n1, C.int .i64 g.b1], Atom.arr Kd.item (ofF l most).items, Atom.arr Kd.int (ofF l most).left, Atom.cells 34 [C.slc 4 0 (ofF l most).items.length none, C.slc 5 0 (ofF l most).left.length
 none, C.int .i64 (ofF l most).n0, C.int .i64 (ofF l most).b0, C.int .i64 (ofF l most).n1, C.int .i64 (ofF l most).b1], Atom.cells 32 [C.int .i64 (roomV f g z).n0, C.int .i64 (roomV f g z).b0, C.int .i64
 (roomV f g z).n1, C.int .i64 (roomV f g z).b1]]) (EndsAs 1 (ct_planFits l most f g) (boolv false) [Atom.ro Kd.cell l, Atom.cells 25 [C.slc 0 0 l.length none], Atom.cells 32 [C.int .i64 f.n0, C.int .i64
 f.b0, C.int .i64 f.n1, C.int .i64 f.b1], Atom.cells 32 [C.int .i64 g.n0, C.int .i64 g.b0, C.int .i64 g.n1, C.int .i64 g.b1], Atom.arr Kd.item (ofF l most).items, Atom.arr Kd.int (ofF l most).left, Atom.cells
 34 [C.slc 4 0 (ofF l most).items.length none, C.slc 5 0 (ofF l most).left.length none, C.int .i64 (ofF l most).n0, C.int .i64 (ofF l most).b0, C.int .i64 (ofF l most).n1, C.int .i64 (ofF l most).b1], Atom.cells
 32 [C.int .i64 (roomV f g z).n0, C.int .i64 (roomV f g z).b0, C.int .i64 (roomV f g z).n1, C.int .i64 (roomV f g z).b1]])) ∧ (∀ (z_1 : Unit), (↑z : Int) = (0 : Int) → ((0 : Int) ≤ (0 : Int) ∧ (0 : Int)
 < (2 : Int)) ∧ ((0 : Int) ≤ (0 : Int) ∧ (0 : Int) < (2 : Int)) ∧ ((0 : Int) ≤ (0 : Int) ∧ (0 : Int) < (2 : Int)) ∧ ((0 : Int) ≤ (0 : Int) ∧ (0 : Int) < (2 : Int)) ∧ ((0 : Int) ≤ (0 : Int) ∧ (0 : Int) <
 (2 : Int)) ∧ True ∧ True ∧ i64ok (1 : Int) ∧ Enter 1 (invZ18 l most f g) (fun (z' : Nat) => 2 - z' < 2 - z) [VV.any, i64 most, VV.any, VV.any, VV.one (V1.c (C.ptr 1 0 0)), VV.any, VV.one (V1.c (C.ptr 2
 0 0)), VV.one (V1.c (C.ptr 3 0 0)), VV.any, VV.one (V1.c (C.ptr 6 0 0)), i64 (↑(fitsF l most f) : Int), VV.any, VV.one (V1.c (C.ptr 7 0 0)), i64 (1 : Int), VV.any, VV.any, VV.any, VV.any, VV.any, VV.any,
 VV.any, VV.any, VV.any, VV.any, VV.any, VV.any, VV.any, VV.any, VV.any, VV.any, VV.any, VV.any, VV.any, VV.any, VV.any, VV.any, VV.any, VV.any, VV.any, VV.any, VV.any, VV.any, VV.any, VV.any, VV.any, VV.any,
 VV.any, VV.any, VV.any, VV.any, VV.any, VV.any, VV.any, VV.any, VV.any, VV.any, VV.any, VV.any, VV.any, VV.any, VV.any, VV.any, VV.any, VV.any, VV.any, VV.any, VV.any, VV.any, VV.any, VV.any, VV.any, VV.any,
 VV.any, VV.any, VV.any, VV.any, VV.any, VV.any, VV.any, VV.any, VV.any, VV.any, VV.any, VV.any, VV.any, VV.any, VV.any, VV.any, VV.any, VV.any, VV.any, VV.any, VV.any, VV.any, VV.any, VV.any, VV.any, VV.any,
 VV.any, VV.any, VV.any, i64 (0 : Int), i64 (1 : Int), i64 (0 : Int), i64 (0 : Int), VV.one (V1.c (C.ptr 2 0 0)), VV.one (V1.c (C.ptr 2 0 0)), i64 f.n0, i64 (0 : Int), VV.one (V1.c (C.ptr 3 0 0)), VV.one
 (V1.c (C.ptr 3 0 0)), i64 g.n0, i64 (max f.n0 g.n0), i64 (0 : Int), VV.one (V1.c (C.ptr 2 0 0)), VV.one (V1.c (C.ptr 2 0 1)), i64 f.b0, i64 (0 : Int), VV.one (V1.c (C.ptr 3 0 0)), VV.one (V1.c (C.ptr 3
 0 1)), i64 g.b0, i64 (max f.b0 g.b0), VV.one (V1.agg [C.int .i64 (max f.n0 g.n0), C.int .i64 (max f.b0 g.b0)]), VV.one (V1.c (C.ptr 7 0 0)), VV.any, VV.any, VV.any, VV.any, VV.any, VV.any] [Atom.ro Kd.cell
 l, Atom.cells 25 [C.slc 0 0 l.length none], Atom.cells 32 [C.int .i64 f.n0, C.int .i64 f.b0, C.int .i64 f.n1, C.int .i64 f.b1], Atom.cells 32 [C.int .i64 g.n0, C.int .i64 g.b0, C.int .i64 g.n1, C.int .i64
 g.b1], Atom.arr Kd.item (ofF l most).items, Atom.arr Kd.int (ofF l most).left, Atom.cells 34 [C.slc 4 0 (ofF l most).items.length none, C.slc 5 0 (ofF l most).left.length none, C.int .i64 (ofF l most).n0,
 C.int .i64 (ofF l most).b0, C.int .i64 (ofF l most).n1, C.int .i64 (ofF l most).b1], Atom.cells 32 [C.int .i64 (max f.n0 g.n0), C.int .i64 (max f.b0 g.b0), C.int .i64 (roomV f g 0).n1, C.int .i64 (roomV
 f g 0).b1]]) ∧ ∀ (z_1 : Unit), (↑z : Int) = (1 : Int) → ((0 : Int) ≤ (1 : Int) ∧ (1 : Int) < (2 : Int)) ∧ ((0 : Int) ≤ (1 : Int) ∧ (1 : Int) < (2 : Int)) ∧ ((0 : Int) ≤ (1 : Int) ∧ (1 : Int) < (2 : Int))
 ∧ ((0 : Int) ≤ (1 : Int) ∧ (1 : Int) < (2 : Int)) ∧ ((0 : Int) ≤ (1 : Int) ∧ (1 : Int) < (2 : Int)) ∧ True ∧ True ∧ i64ok (2 : Int) ∧ Enter 1 (invZ18 l most f g) (fun (z' : Nat) => 2 - z' < 2 - z) [VV.any,
 i64 most, VV.any, VV.any, VV.one (V1.c (C.ptr 1 0 0)), VV.any, VV.one (V1.c (C.ptr 2 0 0)), VV.one (V1.c (C.ptr 3 0 0)), VV.any, VV.one (V1.c (C.ptr 6 0 0)), i64 (↑(fitsF l most f) : Int), VV.any, VV.one
 (V1.c (C.ptr 7 0 0)), i64 (2 : Int), VV.any, VV.any, VV.any, VV.any, VV.any, VV.any, VV.any, VV.any, VV.any, VV.any, VV.any, VV.any, VV.any, VV.any, VV.any, VV.any, VV.any, VV.any, VV.any, VV.any, VV.any,
 VV.any, VV.any, VV.any, VV.any, VV.any, VV.any, VV.any, VV.any, VV.any, VV.any, VV.any, VV.any, VV.any, VV.any, VV.any, VV.any, VV.any, VV.any, VV.any, VV.any, VV.any, VV.any, VV.any, VV.any, VV.any, VV.any,
 VV.any, VV.any, VV.any, VV.any, VV.any, VV.any, VV.any, VV.any, VV.any, VV.any, VV.any, VV.any, VV.any, VV.any, VV.any, VV.any, VV.any, VV.any, VV.any, VV.any, VV.any, VV.any, VV.any, VV.any, VV.any, VV.any,
 VV.any, VV.any, VV.any, VV.any, VV.any, VV.any, VV.any, VV.any, VV.any, VV.any, VV.any, VV.any, VV.any, VV.any, i64 (1 : Int), i64 (2 : Int), i64 (1 : Int), i64 (1 : Int), VV.one (V1.c (C.ptr 2 0 2)),
 VV.one (V1.c (C.ptr 2 0 2)), i64 f.n1, i64 (1 : Int), VV.one (V1.c (C.ptr 3 0 2)), VV.one (V1.c (C.ptr 3 0 2)), i64 g.n1, i64 (max f.n1 g.n1), i64 (1 : Int), VV.one (V1.c (C.ptr 2 0 2)), VV.one (V1.c (C.ptr
 2 0 3)), i64 f.b1, i64 (1 : Int), VV.one (V1.c (C.ptr 3 0 2)), VV.one (V1.c (C.ptr 3 0 3)), i64 g.b1, i64 (max f.b1 g.b1), VV.one (V1.agg [C.int .i64 (max f.n1 g.n1), C.int .i64 (max f.b1 g.b1)]), VV.one
 (V1.c (C.ptr 7 0 2)), VV.any, VV.any, VV.any, VV.any, VV.any, VV.any] [Atom.ro Kd.cell l, Atom.cells 25 [C.slc 0 0 l.length none], Atom.cells 32 [C.int .i64 f.n0, C.int .i64 f.b0, C.int .i64 f.n1, C.int
 .i64 f.b1], Atom.cells 32 [C.int .i64 g.n0, C.int .i64 g.b0, C.int .i64 g.n1, C.int .i64 g.b1], Atom.arr Kd.item (ofF l most).items, Atom.arr Kd.int (ofF l most).left, Atom.cells 34 [C.slc 4 0 (ofF l most).items.length
 none, C.slc 5 0 (ofF l most).left.length none, C.int .i64 (ofF l most).n0, C.int .i64 (ofF l most).b0, C.int .i64 (ofF l most).n1, C.int .i64 (ofF l most).b1], Atom.cells 32 [C.int .i64 (roomV f g 1).n0,
 C.int .i64 (roomV f g 1).b0, C.int .i64 (max f.n1 g.n1), C.int .i64 (max f.b1 g.b1)]])) ((VV.one (V1.c (C.slc 4 0 (ofF l most).items.length none)) = VV.one (V1.c (C.slc 4 0 (ofF l most).items.length none))
 ∧ True) ∧ EndsAs 1 (ct_planFits l most f g) (boolv false) [Atom.ro Kd.cell l, Atom.cells 25 [C.slc 0 0 l.length none], Atom.cells 32 [C.int .i64 f.n0, C.int .i64 f.b0, C.int .i64 f.n1, C.int .i64 f.b1],
 Atom.cells 32 [C.int .i64 g.n0, C.int .i64 g.b0, C.int .i64 g.n1, C.int .i64 g.b1], Atom.arr Kd.item (ofF l most).items, Atom.arr Kd.int (ofF l most).left, Atom.cells 34 [C.slc 4 0 (ofF l most).items.length
 none, C.slc 5 0 (ofF l most).left.length none, C.int .i64 (ofF l most).n0, C.int .i64 (ofF l most).b0, C.int .i64 (ofF l most).n1, C.int .i64 (ofF l most).b1]]))) (EndsAs 1 (ct_planFits l most f g) (boolv
 true) [Atom.ro Kd.cell l, Atom.cells 25 [C.slc 0 0 l.length none], Atom.cells 32 [C.int .i64 f.n0, C.int .i64 f.b0, C.int .i64 f.n1, C.int .i64 f.b1], Atom.cells 32 [C.int .i64 g.n0, C.int .i64 g.b0, C.int
 .i64 g.n1, C.int .i64 g.b1]])) := by kernel_rfl
end Go.Proofs.Ytljamcgngojaeaa.T
