/- The plan: what is left. -/
import Derived.Test.YtljamcgngojaeaaPj
namespace Go.Proofs.Ytljamcgngojaeaa.T
open Go.Proofs.Ytljamcgngojaeaa.E
set_option maxRecDepth 100000
set_option linter.unusedVariables false
def tab9 : Tab Try.prog KK := ⟨mixed, fun f args H => match f, args with
  | 10, [] => some (ct_known, [], [])
  | f, args => tab8.pick f args H, fun f args H ct ks τ h => by
    split at h
    · cases h; exact known_ok
    · exact tab8.ok _ _ _ _ _ _ h⟩
abbrev pc (l : List Cell) : List Cell := plainF l l.length
abbrev mostF (most : Int) : Int := min (max most 1) 1048576
abbrev lfF (l : List Cell) (most : Int) : List Int := (ofF (pc l) most).left
abbrev aF (l : List Cell) : List Int := gA (pc l) (pc l).length
abbrev bF (l : List Cell) : List Int := gB (pc l) (pc l).length
def wantF (a b : List Int) (n : Nat) : List Int := if n ≤ a.length then a.drop (a.length - n) else a ++ b.drop (b.length - (n - a.length))
def lastF (a b : List Int) (n : Nat) : Int := if n ≤ a.length then (if 0 < n then rd a (a.length - n) 0 else -1) else rd b (b.length - (n - a.length)) 0
def lessF (lf : List Int) (last : Int) (i : Nat) : List Int := (lf.take i).filter (fun x => decide (x ≠ last))
def ct_planLeft (l : List Cell) (most : Int) : Ct KK := { need := Cells l ∧ Paths l ∧ i64ok most, pre := [.ro .cell l], args := [.agg [.slc 0 0 l.length none], i64 most], Y := Unit, ok := fun _ => True, ret := fun _ => boolv true, post := fun _ => [.gone] }
abbrev frQ (l : List Cell) (most : Int) : List VV := [.any, i64 (mostF most), .c (.ptr 1 0 0), .any, .any, .c (.ptr 5 0 0), .c (.slc 6 0 (aF l).length none), .c (.slc 7 0 (bF l).length none)]
abbrev HQ (l : List Cell) (most : Int) : VH KK := [.ro .cell l, .cells 25 [.slc 2 0 l.length none], .arr .cell (pc l), .arr .item (ofF (pc l) most).items, .arr .int (lfF l most), .cells 34 (planC 3 4 (ofF (pc l) most)), .arr .int (aF l), .arr .int (bF l)]
def invQ10 (l : List Cell) (most : Int) : Inv KK := { X := Nat, fr := fun i => frQ l most ++ ([i64 i] ++ anys 162), H := fun _ => HQ l most, ok := fun i => 1 ≤ i, meas := fun i : Nat => (lfF l most).length - i }
abbrev nF (l : List Cell) (most : Int) : Nat := (lfF l most).length
abbrev wF (l : List Cell) (most : Int) : List Int := wantF (aF l) (bF l) (nF l most)
abbrev laF (l : List Cell) (most : Int) : Int := lastF (aF l) (bF l) (nF l most)
def invQ25 (l : List Cell) (most : Int) : Inv KK := { X := Unit, fr := fun _ => frQ l most ++ ([.any, i64 (nF l most), i64 (laF l most), .c (.slc 8 0 (wF l most).length none)] ++ anys 159), H := fun _ => HQ l most ++ [.arr .int (wF l most)], ok := fun _ => True, meas := fun _ => 0 }
def invQ26 (l : List Cell) (most : Int) : Inv KK := { X := Nat, fr := fun i => frQ l most ++ ([.any, i64 (nF l most), i64 (laF l most), .c (.slc 8 0 (wF l most).length none), .any, i64 i] ++ anys 157), H := fun _ => HQ l most ++ [.arr .int (wF l most)], ok := fun i => i ≤ nF l most, meas := fun i : Nat => nF l most - i }
def invQ32 (l : List Cell) (most : Int) : Inv KK := { X := Unit, fr := fun _ => frQ l most ++ ([.any, i64 (nF l most), i64 (laF l most)] ++ anys 160), H := fun _ => HQ l most, ok := fun _ => True, meas := fun _ => 0 }
abbrev leF (l : List Cell) (most : Int) (i : Nat) : List Int := lessF (lfF l most) (laF l most) i
def invQ34 (l : List Cell) (most : Int) : Inv KK := { X := Nat, fr := fun i => frQ l most ++ ([.any, i64 (nF l most), i64 (laF l most), .any, .any, .any, .c (.slc 8 0 (leF l most i).length none), i64 i] ++ anys 155), H := fun i => HQ l most ++ [.arr .int (leF l most i)], ok := fun i => i ≤ nF l most, meas := fun i : Nat => nF l most - i }
def annLeft (l : List Cell) (most : Int) : Ann KK := ⟨fun id _ _ => match id with
  | 10 => some (invQ10 l most)
  | 26 => some (invQ26 l most)
  | 34 => some (invQ34 l most)
  | _ => none, fun id _ _ => match id with
  | 25 => some (invQ25 l most)
  | 32 => some (invQ32 l most)
  | _ => none⟩
theorem vc_planLeft (l : List Cell) (most : Int) : evFn tab9 (annLeft l most) Try.f4 (ct_planLeft l most) = ( (i64ok (↑l.length : Int) ∧ ∀ (c : Cell), List.Mem c l → i64ok (↑c.path.size : Int)) ∧ Into (K := KK) 0 [] [0] [VV.one (V1.agg [C.slc 0 0 l.length none])] [Atom.ro Kd.cell l, Atom.cells 25 [C.slc 0 0 l.length
 none]] [VV.one (V1.agg [C.slc 0 0 l.length none])] [Atom.ro Kd.cell l] ∧ ∀ (y : Bool), (y = true → l.length ≤ 300) → ite2 y (True ∧ Into (K := KK) 0 [] [] [] [Atom.ro Kd.cell l, Atom.cells 25 [C.slc 0
 0 l.length none]] [] [] ∧ ∀ (y_1 : Unit), True → ((∀ (c : Cell), List.Mem c l → c.Ok) ∧ l.length ≤ 300) ∧ Into (K := KK) 0 [] [0] [VV.one (V1.agg [C.slc 0 0 l.length none])] [Atom.ro Kd.cell l, Atom.cells
 25 [C.slc 0 0 l.length none]] [VV.one (V1.agg [C.slc 0 0 l.length none])] [Atom.ro Kd.cell l] ∧ ∀ (y_2 : Unit), True → ((∀ (c : Cell), List.Mem c (plainF l l.length) → c.Ok) ∧ (plainF l l.length).length
 ≤ 100000 ∧ i64ok most) ∧ Into (K := KK) 0 [] [2] [VV.one (V1.agg [C.slc 2 0 l.length none]), i64 most] [Atom.ro Kd.cell l, Atom.cells 25 [C.slc 2 0 l.length none], Atom.arr Kd.cell (plainF l l.length)]
 [VV.one (V1.agg [C.slc 0 0 (plainF l l.length).length none]), i64 most] [Atom.ro Kd.cell (plainF l l.length)] ∧ ∀ (y_3 : Unit), True → (plainF l l.length).length ≤ 300 ∧ Into (K := KK) 0 [] [2] [VV.one
 (V1.c (C.slc 2 0 l.length none))] [Atom.ro Kd.cell l, Atom.cells 25 [C.slc 2 0 l.length none], Atom.arr Kd.cell (plainF l l.length), Atom.arr Kd.item (ofF (plainF l l.length) most).items, Atom.arr Kd.int
 (ofF (plainF l l.length) most).left, Atom.cells 34 [C.slc 3 0 (ofF (plainF l l.length) most).items.length none, C.slc 4 0 (ofF (plainF l l.length) most).left.length none, C.int .i64 (ofF (plainF l l.length)
 most).n0, C.int .i64 (ofF (plainF l l.length) most).b0, C.int .i64 (ofF (plainF l l.length) most).n1, C.int .i64 (ofF (plainF l l.length) most).b1]] [VV.one (V1.c (C.slc 0 0 (plainF l l.length).length
 none))] [Atom.ro Kd.cell (plainF l l.length)] ∧ ∀ (y_4 : Unit), True → Enter 1 (invQ10 l most) (fun (x : Nat) => True) [VV.one (V1.agg [C.slc 0 0 l.length none]), i64 (min (max most (1 : Int)) (1048576
 : Int)), VV.one (V1.c (C.ptr 1 0 0)), VV.any, boolv false, VV.one (V1.c (C.ptr 5 0 0)), VV.one (V1.c (C.slc 6 0 (gA (plainF l l.length) (plainF l l.length).length).length none)), VV.one (V1.c (C.slc 7
 0 (gB (plainF l l.length) (plainF l l.length).length).length none)), i64 (1 : Int), VV.any, VV.any, VV.any, VV.any, VV.any, VV.any, VV.any, VV.one (V1.agg [C.slc 0 0 l.length none]), boolv y, boolv false,
 boolv true, boolv false, VV.one (V1.agg [C.slc 0 0 l.length none]), VV.one (V1.agg [C.slc 2 0 l.length none]), VV.one (V1.agg [C.slc 2 0 l.length none]), i64 most, VV.one (V1.agg [C.slc 3 0 (ofF (plainF
 l l.length) most).items.length none, C.slc 4 0 (ofF (plainF l l.length) most).left.length none, C.int .i64 (ofF (plainF l l.length) most).n0, C.int .i64 (ofF (plainF l l.length) most).b0, C.int .i64 (ofF
 (plainF l l.length) most).n1, C.int .i64 (ofF (plainF l l.length) most).b1]), i64 most, i64 (max most (1 : Int)), i64 (min (max most (1 : Int)) (1048576 : Int)), VV.tup [V1.c (C.slc 6 0 (gA (plainF l l.length)
 (plainF l l.length).length).length none), V1.c (C.slc 7 0 (gB (plainF l l.length) (plainF l l.length).length).length none)], VV.one (V1.c (C.ptr 1 0 0)), VV.one (V1.c (C.slc 2 0 l.length none)), VV.tup
 [V1.c (C.slc 6 0 (gA (plainF l l.length) (plainF l l.length).length).length none), V1.c (C.slc 7 0 (gB (plainF l l.length) (plainF l l.length).length).length none)], VV.one (V1.c (C.slc 6 0 (gA (plainF
 l l.length) (plainF l l.length).length).length none)), VV.one (V1.c (C.slc 7 0 (gB (plainF l l.length) (plainF l l.length).length).length none)), VV.any, VV.any, VV.any, VV.any, VV.any, VV.any, VV.any,
 VV.any, VV.any, VV.any, VV.any, VV.any, VV.any, VV.any, VV.any, VV.any, VV.any, VV.any, VV.any, VV.any, VV.any, VV.any, VV.any, VV.any, VV.any, VV.any, VV.any, VV.any, VV.any, VV.any, VV.any, VV.any, VV.any,
 VV.any, VV.any, VV.any, VV.any, VV.any, VV.any, VV.any, VV.any, VV.any, VV.any, VV.any, VV.any, VV.any, VV.any, VV.any, VV.any, VV.any, VV.any, VV.any, VV.any, VV.any, VV.any, VV.any, VV.any, VV.any, VV.any,
 VV.any, VV.any, VV.any, VV.any, VV.any, VV.any, VV.any, VV.any, VV.any, VV.any, VV.any, VV.any, VV.any, VV.any, VV.any, VV.any, VV.any, VV.any, VV.any, VV.any, VV.any, VV.any, VV.any, VV.any, VV.any, VV.any,
 VV.any, VV.any, VV.any, VV.any, VV.any, VV.any, VV.any, VV.any, VV.any, VV.any, VV.any, VV.any, VV.any, VV.any, VV.any, VV.any, VV.any, VV.any, VV.any, VV.any, VV.any, VV.any, VV.any, VV.any, VV.any, VV.any,
 VV.any, VV.any, VV.any, VV.any, VV.any, VV.any, VV.any, VV.any, VV.any, VV.any, VV.any, VV.any, VV.any, VV.any, VV.any, VV.any, VV.any, VV.any, VV.any, VV.any, VV.any, VV.any, VV.any, VV.any, VV.any] [Atom.ro
 Kd.cell l, Atom.cells 25 [C.slc 2 0 l.length none], Atom.arr Kd.cell (plainF l l.length), Atom.arr Kd.item (ofF (plainF l l.length) most).items, Atom.arr Kd.int (ofF (plainF l l.length) most).left, Atom.cells
 34 [C.slc 3 0 (ofF (plainF l l.length) most).items.length none, C.slc 4 0 (ofF (plainF l l.length) most).left.length none, C.int .i64 (ofF (plainF l l.length) most).n0, C.int .i64 (ofF (plainF l l.length)
 most).b0, C.int .i64 (ofF (plainF l l.length) most).n1, C.int .i64 (ofF (plainF l l.length) most).b1], Atom.arr Kd.int (gA (plainF l l.length) (plainF l l.length).length), Atom.arr Kd.int (gB (plainF l
 l.length) (plainF l l.length).length)] ∧ ∀ (z : Nat), 1 ≤ z → ite2 (decide ((↑z : Int) < (↑(ofF (plainF l l.length) most).left.length : Int))) (((0 : Int) ≤ (↑z : Int) ∧ (↑z : Int) < (↑(ofF (plainF l l.length)
 most).left.length : Int)) ∧ 0 + (↑z : Int).toNat < (ofF (plainF l l.length) most).left.length ∧ True ∧ 0 + (↑z : Int).toNat < (ofF (plainF l l.length) most).left.length ∧ i64ok ((↑z : Int) - (1 : Int))
 ∧ ((0 : Int) ≤ (↑z : Int) - (1 : Int) ∧ (↑z : Int) - (1 : Int) < (↑(ofF (plainF l l.length) most).left.length : Int)) ∧ 0 + ((↑z : Int) - (1 : Int)).toNat < (ofF (plainF l l.length) most).left.length ∧
 True ∧ 0 + ((↑z : Int) - (1 : Int)).toNat < (ofF (plainF l l.length) most).left.length ∧ ite2 (decide (rd (ofF (plainF l l.length) most).left (0 + (↑z : Int).toNat) (0 : Int) ≤ rd (ofF (plainF l l.length)
 most).left (0 + ((↑z : Int) - (1 : Int)).toNat) (0 : Int))) (True ∧ EndsAs 1 (ct_planLeft l most) (boolv false) [Atom.ro Kd.cell l, Atom.cells 25 [C.slc 2 0 l.length none], Atom.arr Kd.cell (plainF l l.length),
 Atom.arr Kd.item (ofF (plainF l l.length) most).items, Atom.arr Kd.int (ofF (plainF l l.length) most).left, Atom.cells 34 [C.slc 3 0 (ofF (plainF l l.length) most).items.length none, C.slc 4 0 (ofF (plainF
 l l.length) most).left.length none, C.int .i64 (ofF (plainF l l.length) most).n0, C.int .i64 (ofF (plainF l l.length) most).b0, C.int .i64 (ofF (plainF l l.length) most).n1, C.int .i64 (ofF (plainF l l.length)
 most).b1], Atom.arr Kd.int (gA (plainF l l.length) (plainF l l.length).length), Atom.arr Kd.int (gB (plainF l l.length) (plainF l l.length).length)]) (True ∧ i64ok ((↑z : Int) + (1 : Int)) ∧ Enter 1 (invQ10
 l most) (fun (z' : Nat) => (ofF (plainF l l.length) most).left.length - z' < (ofF (plainF l l.length) most).left.length - z) [VV.any, i64 (min (max most (1 : Int)) (1048576 : Int)), VV.one (V1.c (C.ptr
 1 0 0)), VV.any, VV.any, VV.one (V1.c (C.ptr 5 0 0)), VV.one (V1.c (C.slc 6 0 (gA (plainF l l.length) (plainF l l.length).length).length none)), VV.one (V1.c (C.slc 7 0 (gB (plainF l l.length) (plainF
 l l.length).length).length none)), i64 ((↑z : Int) + (1 : Int)), VV.any, VV.any, VV.any, VV.any, VV.any, VV.any, VV.any, VV.any, VV.any, VV.any, VV.any, VV.any, VV.any, VV.any, VV.any, VV.any, VV.any,
 VV.any, VV.any, VV.any, VV.any, VV.any, VV.any, VV.any, VV.any, VV.any, i64 (↑z : Int), VV.one (V1.c (C.ptr 5 0 1)), VV.one (V1.c (C.slc 4 0 (ofF (plainF l l.length) most).left.length none)), i64 (↑(ofF
 (plainF l l.length) most).left.length : Int), boolv true, i64 (↑z : Int), i64 ((↑z : Int) + (1 : Int)), VV.one (V1.c (C.ptr 5 0 1)), VV.one (V1.c (C.slc 4 0 (ofF (plainF l l.length) most).left.length none)),
 i64 (↑z : Int), VV.one (V1.c (C.ptr 4 (0 + (↑z : Int).toNat) 0)), VV.one (V1.c (C.int .i64 (rd (ofF (plainF l l.length) most).left (0 + (↑z : Int).toNat) (0 : Int)))), VV.one (V1.c (C.ptr 5 0 1)), VV.one
 (V1.c (C.slc 4 0 (ofF (plainF l l.length) most).left.length none)), i64 (↑z : Int), i64 ((↑z : Int) - (1 : Int)), VV.one (V1.c (C.ptr 4 (0 + ((↑z : Int) - (1 : Int)).toNat) 0)), VV.one (V1.c (C.int .i64
 (rd (ofF (plainF l l.length) most).left (0 + ((↑z : Int) - (1 : Int)).toNat) (0 : Int)))), boolv false, VV.any, VV.any, VV.any, VV.any, VV.any, VV.any, VV.any, VV.any, VV.any, VV.any, VV.any, VV.any, VV.any,
 VV.any, VV.any, VV.any, VV.any, VV.any, VV.any, VV.any, VV.any, VV.any, VV.any, VV.any, VV.any, VV.any, VV.any, VV.any, VV.any, VV.any, VV.any, VV.any, VV.any, VV.any, VV.any, VV.any, VV.any, VV.any, VV.any,
 VV.any, VV.any, VV.any, VV.any, VV.any, VV.any, VV.any, VV.any, VV.any, VV.any, VV.any, VV.any, VV.any, VV.any, VV.any, VV.any, VV.any, VV.any, VV.any, VV.any, VV.any, VV.any, VV.any, VV.any, VV.any, VV.any,
 VV.any, VV.any, VV.any, VV.any, VV.any, VV.any, VV.any, VV.any, VV.any, VV.any, VV.any, VV.any, VV.any, VV.any, VV.any, VV.any, VV.any, VV.any, VV.any, VV.any, VV.any, VV.any, VV.any, VV.any, VV.any, VV.any,
 VV.any, VV.any, VV.any, VV.any, VV.any, VV.any, VV.any, VV.any, VV.any, VV.any, VV.any, VV.any, VV.any, VV.any, VV.any, VV.any, VV.any, VV.any, VV.any, VV.any, VV.any, VV.any, VV.any, VV.any, VV.any, VV.any]
 [Atom.ro Kd.cell l, Atom.cells 25 [C.slc 2 0 l.length none], Atom.arr Kd.cell (plainF l l.length), Atom.arr Kd.item (ofF (plainF l l.length) most).items, Atom.arr Kd.int (ofF (plainF l l.length) most).left,
 Atom.cells 34 [C.slc 3 0 (ofF (plainF l l.length) most).items.length none, C.slc 4 0 (ofF (plainF l l.length) most).left.length none, C.int .i64 (ofF (plainF l l.length) most).n0, C.int .i64 (ofF (plainF
 l l.length) most).b0, C.int .i64 (ofF (plainF l l.length) most).n1, C.int .i64 (ofF (plainF l l.length) most).b1], Atom.arr Kd.int (gA (plainF l l.length) (plainF l l.length).length), Atom.arr Kd.int (gB
 (plainF l l.length) (plainF l l.length).length)])) (ite2 (decide ((↑(ofF (plainF l l.length) most).left.length : Int) ≤ (↑(gA (plainF l l.length) (plainF l l.length).length).length : Int))) (i64ok ((↑(gA
 (plainF l l.length) (plainF l l.length).length).length : Int) - (↑(ofF (plainF l l.length) most).left.length : Int)) ∧ ((0 : Int) ≤ (↑(gA (plainF l l.length) (plainF l l.length).length).length : Int) -
 (↑(ofF (plainF l l.length) most).left.length : Int) ∧ (↑(gA (plainF l l.length) (plainF l l.length).length).length : Int) - (↑(ofF (plainF l l.length) most).left.length : Int) ≤ (↑(gA (plainF l l.length)
 (plainF l l.length).length).length : Int)) ∧ (0 : Int) + (↑(gA (plainF l l.length) (plainF l l.length).length).length : Int) ≤ (↑(gA (plainF l l.length) (plainF l l.length).length).length : Int) ∧ (0 +
 ((↑(gA (plainF l l.length) (plainF l l.length).length).length : Int) - (↑(ofF (plainF l l.length) most).left.length : Int)).toNat + ((↑(gA (plainF l l.length) (plainF l l.length).length).length : Int)
 - ((↑(gA (plainF l l.length) (plainF l l.length).length).length : Int) - (↑(ofF (plainF l l.length) most).left.length : Int))).toNat ≤ (gA (plainF l l.length) (plainF l l.length).length).length ∧ True)
 ∧ (List.take ((↑(gA (plainF l l.length) (plainF l l.length).length).length : Int) - ((↑(gA (plainF l l.length) (plainF l l.length).length).length : Int) - (↑(ofF (plainF l l.length) most).left.length :
 Int))).toNat (List.drop (0 + ((↑(gA (plainF l l.length) (plainF l l.length).length).length : Int) - (↑(ofF (plainF l l.length) most).left.length : Int)).toNat) (gA (plainF l l.length) (plainF l l.length).length))).length
 * 8 ≤ 140737488355328 ∧ ite2 (decide ((0 : Int) < (↑(ofF (plainF l l.length) most).left.length : Int))) (i64ok ((↑(gA (plainF l l.length) (plainF l l.length).length).length : Int) - (↑(ofF (plainF l l.length)
 most).left.length : Int)) ∧ ((0 : Int) ≤ (↑(gA (plainF l l.length) (plainF l l.length).length).length : Int) - (↑(ofF (plainF l l.length) most).left.length : Int) ∧ (↑(gA (plainF l l.length) (plainF l
 l.length).length).length : Int) - (↑(ofF (plainF l l.length) most).left.length : Int) < (↑(gA (plainF l l.length) (plainF l l.length).length).length : Int)) ∧ 0 + ((↑(gA (plainF l l.length) (plainF l l.length).length).length
 : Int) - (↑(ofF (plainF l l.length) most).left.length : Int)).toNat < (gA (plainF l l.length) (plainF l l.length).length).length ∧ True ∧ 0 + ((↑(gA (plainF l l.length) (plainF l l.length).length).length
 : Int) - (↑(ofF (plainF l l.length) most).left.length : Int)).toNat < (gA (plainF l l.length) (plainF l l.length).length).length ∧ Enter 1 (invQ25 l most) (fun (x : Unit) => True) [VV.any, i64 (min (max
 most (1 : Int)) (1048576 : Int)), VV.one (V1.c (C.ptr 1 0 0)), VV.any, VV.any, VV.one (V1.c (C.ptr 5 0 0)), VV.one (V1.c (C.slc 6 0 (gA (plainF l l.length) (plainF l l.length).length).length none)), VV.one
 (V1.c (C.slc 7 0 (gB (plainF l l.length) (plainF l l.length).length).length none)), i64 (↑z : Int), i64 (↑(ofF (plainF l l.length) most).left.length : Int), VV.one (V1.c (C.int .i64 (rd (gA (plainF l l.length)
 (plainF l l.length).length) (0 + ((↑(gA (plainF l l.length) (plainF l l.length).length).length : Int) - (↑(ofF (plainF l l.length) most).left.length : Int)).toNat) (0 : Int)))), VV.one (V1.c (C.slc 8 0
 (List.take ((↑(gA (plainF l l.length) (plainF l l.length).length).length : Int) - ((↑(gA (plainF l l.length) (plainF l l.length).length).length : Int) - (↑(ofF (plainF l l.length) most).left.length : Int))).toNat
 (List.drop (0 + ((↑(gA (plainF l l.length) (plainF l l.length).length).length : Int) - (↑(ofF (plainF l l.length) most).left.length : Int)).toNat) (gA (plainF l l.length) (plainF l l.length).length))).length
 none)), VV.any, VV.any, VV.any, VV.any, VV.any, VV.any, VV.any, VV.any, VV.any, VV.any, VV.any, VV.any, VV.any, VV.any, VV.any, VV.any, VV.any, VV.any, VV.any, VV.any, VV.any, VV.any, VV.any, i64 (↑z :
 Int), VV.one (V1.c (C.ptr 5 0 1)), VV.one (V1.c (C.slc 4 0 (ofF (plainF l l.length) most).left.length none)), i64 (↑(ofF (plainF l l.length) most).left.length : Int), boolv false, VV.any, VV.any, VV.any,
 VV.any, VV.any, VV.any, VV.any, VV.any, VV.any, VV.any, VV.any, VV.any, VV.any, VV.any, VV.one (V1.c (C.ptr 5 0 1)), VV.one (V1.c (C.slc 4 0 (ofF (plainF l l.length) most).left.length none)), i64 (↑(ofF
 (plainF l l.length) most).left.length : Int), i64 (↑(ofF (plainF l l.length) most).left.length : Int), VV.one (V1.c (C.slc 6 0 (gA (plainF l l.length) (plainF l l.length).length).length none)), VV.one
 (V1.c (C.int .i64 (↑(gA (plainF l l.length) (plainF l l.length).length).length : Int))), boolv true, VV.one (V1.c C.nils), VV.one (V1.c (C.slc 6 0 (gA (plainF l l.length) (plainF l l.length).length).length
 none)), VV.one (V1.c (C.slc 6 0 (gA (plainF l l.length) (plainF l l.length).length).length none)), VV.one (V1.c (C.int .i64 (↑(gA (plainF l l.length) (plainF l l.length).length).length : Int))), i64 (↑(ofF
 (plainF l l.length) most).left.length : Int), VV.one (V1.c (C.int .i64 ((↑(gA (plainF l l.length) (plainF l l.length).length).length : Int) - (↑(ofF (plainF l l.length) most).left.length : Int)))), VV.one
 (V1.c (C.slc 6 (0 + ((↑(gA (plainF l l.length) (plainF l l.length).length).length : Int) - (↑(ofF (plainF l l.length) most).left.length : Int)).toNat) ((↑(gA (plainF l l.length) (plainF l l.length).length).length
 : Int) - ((↑(gA (plainF l l.length) (plainF l l.length).length).length : Int) - (↑(ofF (plainF l l.length) most).left.length : Int))).toNat none)), VV.one (V1.c (C.slc 8 0 (List.take ((↑(gA (plainF l l.length)
 (plainF l l.length).length).length : Int) - ((↑(gA (plainF l l.length) (plainF l l.length).length).length : Int) - (↑(ofF (plainF l l.length) most).left.length : Int))).toNat (List.drop (0 + ((↑(gA (plainF
 l l.length) (plainF l l.length).length).length : Int) - (↑(ofF (plainF l l.length) most).left.length : Int)).toNat) (gA (plainF l l.length) (plainF l l.length).length))).length none)), i64 (↑(ofF (plainF
 l l.length) most).left.length : Int), boolv true, VV.one (V1.c (C.slc 6 0 (gA (plainF l l.length) (plainF l l.length).length).length none)), VV.one (V1.c (C.slc 6 0 (gA (plainF l l.length) (plainF l l.length).length).length
 none)), VV.one (V1.c (C.int .i64 (↑(gA (plainF l l.length) (plainF l l.length).length).length : Int))), i64 (↑(ofF (plainF l l.length) most).left.length : Int), VV.one (V1.c (C.int .i64 ((↑(gA (plainF
 l l.length) (plainF l l.length).length).length : Int) - (↑(ofF (plainF l l.length) most).left.length : Int)))), VV.one (V1.c (C.ptr 6 (0 + ((↑(gA (plainF l l.length) (plainF l l.length).length).length
 : Int) - (↑(ofF (plainF l l.length) most).left.length : Int)).toNat) 0)), VV.one (V1.c (C.int .i64 (rd (gA (plainF l l.length) (plainF l l.length).length) (0 + ((↑(gA (plainF l l.length) (plainF l l.length).length).length
 : Int) - (↑(ofF (plainF l l.length) most).left.length : Int)).toNat) (0 : Int)))), VV.any, VV.any, VV.any, VV.any, VV.any, VV.any, VV.any, VV.any, VV.any, VV.any, VV.any, VV.any, VV.any, VV.any, VV.any,
 VV.any, VV.any, VV.any, VV.any, VV.any, VV.any, VV.any, VV.any, VV.any, VV.any, VV.any, VV.any, VV.any, VV.any, VV.any, VV.any, VV.any, VV.any, VV.any, VV.any, VV.any, VV.any, VV.any, VV.any, VV.any, VV.any,
 VV.any, VV.any, VV.any, VV.any, VV.any, VV.any, VV.any, VV.any, VV.any, VV.any, VV.any, VV.any, VV.any, VV.any, VV.any, VV.any, VV.any, VV.any, VV.any, VV.any, VV.any, VV.any, VV.any, VV.any, VV.any, VV.any,
 VV.any, VV.any, VV.any, VV.any, VV.any, VV.any, VV.any, VV.any, VV.any, VV.any, VV.any, VV.any, VV.any, VV.any, VV.any, VV.any, VV.any, VV.any, VV.any, VV.any, VV.any, VV.any, VV.any, VV.any, VV.any, VV.any]
 [Atom.ro Kd.cell l, Atom.cells 25 [C.slc 2 0 l.length none], Atom.arr Kd.cell (plainF l l.length), Atom.arr Kd.item (ofF (plainF l l.length) most).items, Atom.arr Kd.int (ofF (plainF l l.length) most).left,
 Atom.cells 34 [C.slc 3 0 (ofF (plainF l l.length) most).items.length none, C.slc 4 0 (ofF (plainF l l.length) most).left.length none, C.int .i64 (ofF (plainF l l.length) most).n0, C.int .i64 (ofF (plainF
 l l.length) most).b0, C.int .i64 (ofF (plainF l l.length) most).n1, C.int .i64 (ofF (plainF l l.length) most).b1], Atom.arr Kd.int (gA (plainF l l.length) (plainF l l.length).length), Atom.arr Kd.int (gB
 (plainF l l.length) (plainF l l.length).length), Atom.arr Kd.int (List.take ((↑(gA (plainF l l.length) (plainF l l.length).length).length : Int) - ((↑(gA (plainF l l.length) (plainF l l.length).length).length
 : Int) - (↑(ofF (plainF l l.length) most).left.length : Int))).toNat (List.drop (0 + ((↑(gA (plainF l l.length) (plainF l l.length).length).length : Int) - (↑(ofF (plainF l l.length) most).left.length
 : Int)).toNat) (gA (plainF l l.length) (plainF l l.length).length)))]) (Enter 1 (invQ25 l most) (fun (x : Unit) => True) [VV.any, i64 (min (max most (1 : Int)) (1048576 : Int)), VV.one (V1.c (C.ptr 1 0
 0)), VV.any, VV.any, VV.one (V1.c (C.ptr 5 0 0)), VV.one (V1.c (C.slc 6 0 (gA (plainF l l.length) (plainF l l.length).length).length none)), VV.one (V1.c (C.slc 7 0 (gB (plainF l l.length) (plainF l l.length).length).length
 none)), i64 (↑z : Int), i64 (↑(ofF (plainF l l.length) most).left.length : Int), i64 (-1 : Int), VV.one (V1.c (C.slc 8 0 (List.take ((↑(gA (plainF l l.length) (plainF l l.length).length).length : Int)
 - ((↑(gA (plainF l l.length) (plainF l l.length).length).length : Int) - (↑(ofF (plainF l l.length) most).left.length : Int))).toNat (List.drop (0 + ((↑(gA (plainF l l.length) (plainF l l.length).length).length
 : Int) - (↑(ofF (plainF l l.length) most).left.length : Int)).toNat) (gA (plainF l l.length) (plainF l l.length).length))).length none)), VV.any, VV.any, VV.any, VV.any, VV.any, VV.any, VV.any, VV.any,
 VV.any, VV.any, VV.any, VV.any, VV.any, VV.any, VV.any, VV.any, VV.any, VV.any, VV.any, VV.any, VV.any, VV.any, VV.any, i64 (↑z : Int), VV.one (V1.c (C.ptr 5 0 1)), VV.one (V1.c (C.slc 4 0 (ofF (plainF
 l l.length) most).left.length none)), i64 (↑(ofF (plainF l l.length) most).left.length : Int), boolv false, VV.any, VV.any, VV.any, VV.any, VV.any, VV.any, VV.any, VV.any, VV.any, VV.any, VV.any, VV.any,
 VV.any, VV.any, VV.one (V1.c (C.ptr 5 0 1)), VV.one (V1.c (C.slc 4 0 (ofF (plainF l l.length) most).left.length none)), i64 (↑(ofF (plainF l l.length) most).left.length : Int), i64 (↑(ofF (plainF l l.length)
 most).left.length : Int), VV.one (V1.c (C.slc 6 0 (gA (plainF l l.length) (plainF l l.length).length).length none)), VV.one (V1.c (C.int .i64 (↑(gA (plainF l l.length) (plainF l l.length).length).length
 : Int))), boolv true, VV.one (V1.c C.nils), VV.one (V1.c (C.slc 6 0 (gA (plainF l l.length) (plainF l l.length).length).length none)), VV.one (V1.c (C.slc 6 0 (gA (plainF l l.length) (plainF l l.length).length).length
 none)), VV.one (V1.c (C.int .i64 (↑(gA (plainF l l.length) (plainF l l.length).length).length : Int))), i64 (↑(ofF (plainF l l.length) most).left.length : Int), VV.one (V1.c (C.int .i64 ((↑(gA (plainF
 l l.length) (plainF l l.length).length).length : Int) - (↑(ofF (plainF l l.length) most).left.length : Int)))), VV.one (V1.c (C.slc 6 (0 + ((↑(gA (plainF l l.length) (plainF l l.length).length).length
 : Int) - (↑(ofF (plainF l l.length) most).left.length : Int)).toNat) ((↑(gA (plainF l l.length) (plainF l l.length).length).length : Int) - ((↑(gA (plainF l l.length) (plainF l l.length).length).length
 : Int) - (↑(ofF (plainF l l.length) most).left.length : Int))).toNat none)), VV.one (V1.c (C.slc 8 0 (List.take ((↑(gA (plainF l l.length) (plainF l l.length).length).length : Int) - ((↑(gA (plainF l l.length)
 (plainF l l.length).length).length : Int) - (↑(ofF (plainF l l.length) most).left.length : Int))).toNat (List.drop (0 + ((↑(gA (plainF l l.length) (plainF l l.length).length).length : Int) - (↑(ofF (plainF
 l l.length) most).left.length : Int)).toNat) (gA (plainF l l.length) (plainF l l.length).length))).length none)), i64 (↑(ofF (plainF l l.length) most).left.length : Int), boolv false, VV.any, VV.any, VV.any,
 VV.any, VV.any, VV.any, VV.any, VV.any, VV.any, VV.any, VV.any, VV.any, VV.any, VV.any, VV.any, VV.any, VV.any, VV.any, VV.any, VV.any, VV.any, VV.any, VV.any, VV.any, VV.any, VV.any, VV.any, VV.any, VV.any,
 VV.any, VV.any, VV.any, VV.any, VV.any, VV.any, VV.any, VV.any, VV.any, VV.any, VV.any, VV.any, VV.any, VV.any, VV.any, VV.any, VV.any, VV.any, VV.any, VV.any, VV.any, VV.any, VV.any, VV.any, VV.any, VV.any,
 VV.any, VV.any, VV.any, VV.any, VV.any, VV.any, VV.any, VV.any, VV.any, VV.any, VV.any, VV.any, VV.any, VV.any, VV.any, VV.any, VV.any, VV.any, VV.any, VV.any, VV.any, VV.any, VV.any, VV.any, VV.any, VV.any,
 VV.any, VV.any, VV.any, VV.any, VV.any, VV.any, VV.any, VV.any, VV.any, VV.any, VV.any, VV.any, VV.any, VV.any, VV.any, VV.any, VV.any, VV.any, VV.any] [Atom.ro Kd.cell l, Atom.cells 25 [C.slc 2 0 l.length
 none], Atom.arr Kd.cell (plainF l l.length), Atom.arr Kd.item (ofF (plainF l l.length) most).items, Atom.arr Kd.int (ofF (plainF l l.length) most).left, Atom.cells 34 [C.slc 3 0 (ofF (plainF l l.length)
 most).items.length none, C.slc 4 0 (ofF (plainF l l.length) most).left.length none, C.int .i64 (ofF (plainF l l.length) most).n0, C.int .i64 (ofF (plainF l l.length) most).b0, C.int .i64 (ofF (plainF l
 l.length) most).n1, C.int .i64 (ofF (plainF l l.length) most).b1], Atom.arr Kd.int (gA (plainF l l.length) (plainF l l.length).length), Atom.arr Kd.int (gB (plainF l l.length) (plainF l l.length).length),
 Atom.arr Kd.int (List.take ((↑(gA (plainF l l.length) (plainF l l.length).length).length : Int) - ((↑(gA (plainF l l.length) (plainF l l.length).length).length : Int) - (↑(ofF (plainF l l.length) most).left.length
 : Int))).toNat (List.drop (0 + ((↑(gA (plainF l l.length) (plainF l l.length).length).length : Int) - (↑(ofF (plainF l l.length) most).left.length : Int)).toNat) (gA (plainF l l.length) (plainF l l.length).length)))]))
 (i64ok ((↑(gA (plainF l l.length) (plainF l l.length).length).length : Int) + (↑(gB (plainF l l.length) (plainF l l.length).length).length : Int)) ∧ ite2 (decide ((↑(ofF (plainF l l.length) most).left.length
 : Int) ≤ (↑(gA (plainF l l.length) (plainF l l.length).length).length : Int) + (↑(gB (plainF l l.length) (plainF l l.length).length).length : Int))) (i64ok ((↑(ofF (plainF l l.length) most).left.length
 : Int) - (↑(gA (plainF l l.length) (plainF l l.length).length).length : Int)) ∧ i64ok ((↑(gB (plainF l l.length) (plainF l l.length).length).length : Int) - ((↑(ofF (plainF l l.length) most).left.length
 : Int) - (↑(gA (plainF l l.length) (plainF l l.length).length).length : Int))) ∧ ((0 : Int) ≤ (↑(gB (plainF l l.length) (plainF l l.length).length).length : Int) - ((↑(ofF (plainF l l.length) most).left.length
 : Int) - (↑(gA (plainF l l.length) (plainF l l.length).length).length : Int)) ∧ (↑(gB (plainF l l.length) (plainF l l.length).length).length : Int) - ((↑(ofF (plainF l l.length) most).left.length : Int)
 - (↑(gA (plainF l l.length) (plainF l l.length).length).length : Int)) ≤ (↑(gB (plainF l l.length) (plainF l l.length).length).length : Int)) ∧ (0 : Int) + (↑(gB (plainF l l.length) (plainF l l.length).length).length
 : Int) ≤ (↑(gB (plainF l l.length) (plainF l l.length).length).length : Int) ∧ True ∧ (0 + (gA (plainF l l.length) (plainF l l.length).length).length ≤ (gA (plainF l l.length) (plainF l l.length).length).length
 ∧ True) ∧ (List.take (gA (plainF l l.length) (plainF l l.length).length).length (gA (plainF l l.length) (plainF l l.length).length)).length * 8 ≤ 140737488355328 ∧ ((((0 : Int) ≤ (↑(gB (plainF l l.length)
 (plainF l l.length).length).length : Int) - ((↑(ofF (plainF l l.length) most).left.length : Int) - (↑(gA (plainF l l.length) (plainF l l.length).length).length : Int)) ∧ (↑(gB (plainF l l.length) (plainF
 l l.length).length).length : Int) - ((↑(ofF (plainF l l.length) most).left.length : Int) - (↑(gA (plainF l l.length) (plainF l l.length).length).length : Int)) ≤ (↑(gB (plainF l l.length) (plainF l l.length).length).length
 : Int)) ∧ (0 : Int) + (↑(gB (plainF l l.length) (plainF l l.length).length).length : Int) ≤ (↑(gB (plainF l l.length) (plainF l l.length).length).length : Int) ∧ VV.one (V1.c (C.slc 7 (0 + ((↑(gB (plainF
 l l.length) (plainF l l.length).length).length : Int) - ((↑(ofF (plainF l l.length) most).left.length : Int) - (↑(gA (plainF l l.length) (plainF l l.length).length).length : Int))).toNat) ((↑(gB (plainF
 l l.length) (plainF l l.length).length).length : Int) - ((↑(gB (plainF l l.length) (plainF l l.length).length).length : Int) - ((↑(ofF (plainF l l.length) most).left.length : Int) - (↑(gA (plainF l l.length)
 (plainF l l.length).length).length : Int)))).toNat none)) = VV.one (V1.c (C.slc 7 (0 + ((↑(gB (plainF l l.length) (plainF l l.length).length).length : Int) - ((↑(ofF (plainF l l.length) most).left.length
 : Int) - (↑(gA (plainF l l.length) (plainF l l.length).length).length : Int))).toNat) ((↑(gB (plainF l l.length) (plainF l l.length).length).length : Int) - ((↑(gB (plainF l l.length) (plainF l l.length).length).length
 : Int) - ((↑(ofF (plainF l l.length) most).left.length : Int) - (↑(gA (plainF l l.length) (plainF l l.length).length).length : Int)))).toNat none))) ∧ True) ∧ (List.take (gA (plainF l l.length) (plainF
 l l.length).length).length (gA (plainF l l.length) (plainF l l.length).length)).length = (List.take (gA (plainF l l.length) (plainF l l.length).length).length (gA (plainF l l.length) (plainF l l.length).length)).length
 ∧ (0 + ((↑(gB (plainF l l.length) (plainF l l.length).length).length : Int) - ((↑(ofF (plainF l l.length) most).left.length : Int) - (↑(gA (plainF l l.length) (plainF l l.length).length).length : Int))).toNat
 + ((↑(gB (plainF l l.length) (plainF l l.length).length).length : Int) - ((↑(gB (plainF l l.length) (plainF l l.length).length).length : Int) - ((↑(ofF (plainF l l.length) most).left.length : Int) - (↑(gA
 (plainF l l.length) (plainF l l.length).length).length : Int)))).toNat ≤ (gB (plainF l l.length) (plainF l l.length).length).length ∧ True) ∧ ((List.take (gA (plainF l l.length) (plainF l l.length).length).length
 (gA (plainF l l.length) (plainF l l.length).length)).length + (List.take ((↑(gB (plainF l l.length) (plainF l l.length).length).length : Int) - ((↑(gB (plainF l l.length) (plainF l l.length).length).length
 : Int) - ((↑(ofF (plainF l l.length) most).left.length : Int) - (↑(gA (plainF l l.length) (plainF l l.length).length).length : Int)))).toNat (List.drop (0 + ((↑(gB (plainF l l.length) (plainF l l.length).length).length
 : Int) - ((↑(ofF (plainF l l.length) most).left.length : Int) - (↑(gA (plainF l l.length) (plainF l l.length).length).length : Int))).toNat) (gB (plainF l l.length) (plainF l l.length).length))).length)
 * 8 ≤ 140737488355328 ∧ True ∧ True ∧ i64ok ((↑(gB (plainF l l.length) (plainF l l.length).length).length : Int) - ((↑(ofF (plainF l l.length) most).left.length : Int) - (↑(gA (plainF l l.length) (plainF
 l l.length).length).length : Int))) ∧ ((0 : Int) ≤ (↑(gB (plainF l l.length) (plainF l l.length).length).length : Int) - ((↑(ofF (plainF l l.length) most).left.length : Int) - (↑(gA (plainF l l.length)
 (plainF l l.length).length).length : Int)) ∧ (↑(gB (plainF l l.length) (plainF l l.length).length).length : Int) - ((↑(ofF (plainF l l.length) most).left.length : Int) - (↑(gA (plainF l l.length) (plainF
 l l.length).length).length : Int)) < (↑(gB (plainF l l.length) (plainF l l.length).length).length : Int)) ∧ 0 + ((↑(gB (plainF l l.length) (plainF l l.length).length).length : Int) - ((↑(ofF (plainF l
 l.length) most).left.length : Int) - (↑(gA (plainF l l.length) (plainF l l.length).length).length : Int))).toNat < (gB (plainF l l.length) (plainF l l.length).length).length ∧ True ∧ 0 + ((↑(gB (plainF
 l l.length) (plainF l l.length).length).length : Int) - ((↑(ofF (plainF l l.length) most).left.length : Int) - (↑(gA (plainF l l.length) (plainF l l.length).length).length : Int))).toNat < (gB (plainF
 l l.length) (plainF l l.length).length).length ∧ Enter 1 (invQ25 l most) (fun (x : Unit) => True) [VV.any, VV.one (V1.c (C.int .i64 (min (max most (1 : Int)) (1048576 : Int)))), VV.one (V1.c (C.ptr 1 0
 0)), VV.any, VV.any, VV.one (V1.c (C.ptr 5 0 0)), VV.one (V1.c (C.slc 6 0 (gA (plainF l l.length) (plainF l l.length).length).length none)), VV.one (V1.c (C.slc 7 0 (gB (plainF l l.length) (plainF l l.length).length).length
 none)), i64 (↑z : Int), VV.one (V1.c (C.int .i64 (↑(ofF (plainF l l.length) most).left.length : Int))), VV.one (V1.c (C.int .i64 (rd (gB (plainF l l.length) (plainF l l.length).length) (0 + ((↑(gB (plainF
 l l.length) (plainF l l.length).length).length : Int) - ((↑(ofF (plainF l l.length) most).left.length : Int) - (↑(gA (plainF l l.length) (plainF l l.length).length).length : Int))).toNat) (0 : Int)))),
 VV.one (V1.c (C.slc 9 0 ((List.take (gA (plainF l l.length) (plainF l l.length).length).length (gA (plainF l l.length) (plainF l l.length).length)).length + (List.take ((↑(gB (plainF l l.length) (plainF
 l l.length).length).length : Int) - ((↑(gB (plainF l l.length) (plainF l l.length).length).length : Int) - ((↑(ofF (plainF l l.length) most).left.length : Int) - (↑(gA (plainF l l.length) (plainF l l.length).length).length
 : Int)))).toNat (List.drop (0 + ((↑(gB (plainF l l.length) (plainF l l.length).length).length : Int) - ((↑(ofF (plainF l l.length) most).left.length : Int) - (↑(gA (plainF l l.length) (plainF l l.length).length).length
 : Int))).toNat) (gB (plainF l l.length) (plainF l l.length).length))).length) none)), VV.one (V1.c (C.int .i64 ((↑(ofF (plainF l l.length) most).left.length : Int) - (↑(gA (plainF l l.length) (plainF l
 l.length).length).length : Int)))), VV.any, VV.any, VV.any, VV.any, VV.any, VV.any, VV.any, VV.any, VV.any, VV.any, VV.any, VV.any, VV.any, VV.any, VV.any, VV.any, VV.any, VV.any, VV.any, VV.any, VV.any,
 VV.any, i64 (↑z : Int), VV.one (V1.c (C.ptr 5 0 1)), VV.one (V1.c (C.slc 4 0 (ofF (plainF l l.length) most).left.length none)), VV.one (V1.c (C.int .i64 (↑(ofF (plainF l l.length) most).left.length : Int))),
 boolv false, VV.any, VV.any, VV.any, VV.any, VV.any, VV.any, VV.any, VV.any, VV.any, VV.any, VV.any, VV.any, VV.any, VV.any, VV.one (V1.c (C.ptr 5 0 1)), VV.one (V1.c (C.slc 4 0 (ofF (plainF l l.length)
 most).left.length none)), VV.one (V1.c (C.int .i64 (↑(ofF (plainF l l.length) most).left.length : Int))), VV.one (V1.c (C.int .i64 (↑(ofF (plainF l l.length) most).left.length : Int))), VV.one (V1.c (C.slc
 6 0 (gA (plainF l l.length) (plainF l l.length).length).length none)), VV.one (V1.c (C.int .i64 (↑(gA (plainF l l.length) (plainF l l.length).length).length : Int))), boolv false, VV.any, VV.any, VV.any,
 VV.any, VV.any, VV.any, VV.any, VV.any, VV.any, VV.any, VV.any, VV.any, VV.any, VV.any, VV.any, VV.any, VV.any, VV.one (V1.c (C.int .i64 (↑(ofF (plainF l l.length) most).left.length : Int))), VV.one (V1.c
 (C.slc 6 0 (gA (plainF l l.length) (plainF l l.length).length).length none)), VV.one (V1.c (C.int .i64 (↑(gA (plainF l l.length) (plainF l l.length).length).length : Int))), VV.one (V1.c (C.slc 7 0 (gB
 (plainF l l.length) (plainF l l.length).length).length none)), VV.one (V1.c (C.int .i64 (↑(gB (plainF l l.length) (plainF l l.length).length).length : Int))), VV.one (V1.c (C.int .i64 ((↑(gA (plainF l
 l.length) (plainF l l.length).length).length : Int) + (↑(gB (plainF l l.length) (plainF l l.length).length).length : Int)))), boolv true, VV.one (V1.c (C.int .i64 (↑(ofF (plainF l l.length) most).left.length
 : Int))), VV.one (V1.c (C.slc 6 0 (gA (plainF l l.length) (plainF l l.length).length).length none)), VV.one (V1.c (C.int .i64 (↑(gA (plainF l l.length) (plainF l l.length).length).length : Int))), VV.one
 (V1.c (C.int .i64 ((↑(ofF (plainF l l.length) most).left.length : Int) - (↑(gA (plainF l l.length) (plainF l l.length).length).length : Int)))), VV.one (V1.c C.nils), VV.one (V1.c (C.slc 6 0 (gA (plainF
 l l.length) (plainF l l.length).length).length none)), VV.one (V1.c (C.slc 8 0 (List.take (gA (plainF l l.length) (plainF l l.length).length).length (gA (plainF l l.length) (plainF l l.length).length)).length
 none)), VV.one (V1.c (C.slc 7 0 (gB (plainF l l.length) (plainF l l.length).length).length none)), VV.one (V1.c (C.slc 7 0 (gB (plainF l l.length) (plainF l l.length).length).length none)), VV.one (V1.c
 (C.int .i64 (↑(gB (plainF l l.length) (plainF l l.length).length).length : Int))), VV.one (V1.c (C.int .i64 ((↑(ofF (plainF l l.length) most).left.length : Int) - (↑(gA (plainF l l.length) (plainF l l.length).length).length
 : Int)))), VV.one (V1.c (C.int .i64 ((↑(gB (plainF l l.length) (plainF l l.length).length).length : Int) - ((↑(ofF (plainF l l.length) most).left.length : Int) - (↑(gA (plainF l l.length) (plainF l l.length).length).length
 : Int))))), VV.one (V1.c (C.slc 7 (0 + ((↑(gB (plainF l l.length) (plainF l l.length).length).length : Int) - ((↑(ofF (plainF l l.length) most).left.length : Int) - (↑(gA (plainF l l.length) (plainF l
 l.length).length).length : Int))).toNat) ((↑(gB (plainF l l.length) (plainF l l.length).length).length : Int) - ((↑(gB (plainF l l.length) (plainF l l.length).length).length : Int) - ((↑(ofF (plainF l
 l.length) most).left.length : Int) - (↑(gA (plainF l l.length) (plainF l l.length).length).length : Int)))).toNat none)), VV.one (V1.c (C.slc 9 0 ((List.take (gA (plainF l l.length) (plainF l l.length).length).length
 (gA (plainF l l.length) (plainF l l.length).length)).length + (List.take ((↑(gB (plainF l l.length) (plainF l l.length).length).length : Int) - ((↑(gB (plainF l l.length) (plainF l l.length).length).length
 : Int) - ((↑(ofF (plainF l l.length) most).left.length : Int) - (↑(gA (plainF l l.length) (plainF l l.length).length).length : Int)))).toNat (List.drop (0 + ((↑(gB (plainF l l.length) (plainF l l.length).length).length
 : Int) - ((↑(ofF (plainF l l.length) most).left.length : Int) - (↑(gA (plainF l l.length) (plainF l l.length).length).length : Int))).toNat) (gB (plainF l l.length) (plainF l l.length).length))).length)
 none)), VV.one (V1.c (C.slc 7 0 (gB (plainF l l.length) (plainF l l.length).length).length none)), VV.one (V1.c (C.slc 7 0 (gB (plainF l l.length) (plainF l l.length).length).length none)), VV.one (V1.c
 (C.int .i64 (↑(gB (plainF l l.length) (plainF l l.length).length).length : Int))), VV.one (V1.c (C.int .i64 ((↑(ofF (plainF l l.length) most).left.length : Int) - (↑(gA (plainF l l.length) (plainF l l.length).length).length
 : Int)))), VV.one (V1.c (C.int .i64 ((↑(gB (plainF l l.length) (plainF l l.length).length).length : Int) - ((↑(ofF (plainF l l.length) most).left.length : Int) - (↑(gA (plainF l l.length) (plainF l l.length).length).length
 : Int))))), VV.one (V1.c (C.ptr 7 (0 + ((↑(gB (plainF l l.length) (plainF l l.length).length).length : Int) - ((↑(ofF (plainF l l.length) most).left.length : Int) - (↑(gA (plainF l l.length) (plainF l
 l.length).length).length : Int))).toNat) 0)), VV.one (V1.c (C.int .i64 (rd (gB (plainF l l.length) (plainF l l.length).length) (0 + ((↑(gB (plainF l l.length) (plainF l l.length).length).length : Int)
 - ((↑(ofF (plainF l l.length) most).left.length : Int) - (↑(gA (plainF l l.length) (plainF l l.length).length).length : Int))).toNat) (0 : Int)))), VV.any, VV.any, VV.any, VV.any, VV.any, VV.any, VV.any,
 VV.any, VV.any, VV.any, VV.any, VV.any, VV.any, VV.any, VV.any, VV.any, VV.any, VV.any, VV.any, VV.any, VV.any, VV.any, VV.any, VV.any, VV.any, VV.any, VV.any, VV.any, VV.any, VV.any, VV.any, VV.any, VV.any,
 VV.any, VV.any, VV.any, VV.any, VV.any, VV.any, VV.any, VV.any, VV.any, VV.any, VV.any, VV.any, VV.any, VV.any, VV.any, VV.any, VV.any, VV.any, VV.any, VV.any, VV.any, VV.any, VV.any, VV.any, VV.any, VV.any,
 VV.any, VV.any, VV.any, VV.any, VV.any, VV.any] [Atom.ro Kd.cell l, Atom.cells 25 [C.slc 2 0 l.length none], Atom.arr Kd.cell (plainF l l.length), Atom.arr Kd.item (ofF (plainF l l.length) most).items,
 Atom.arr Kd.int (ofF (plainF l l.length) most).left, Atom.cells 34 [C.slc 3 0 (ofF (plainF l l.length) most).items.length none, C.slc 4 0 (ofF (plainF l l.length) most).left.length none, C.int .i64 (ofF
 (plainF l l.length) most).n0, C.int .i64 (ofF (plainF l l.length) most).b0, C.int .i64 (ofF (plainF l l.length) most).n1, C.int .i64 (ofF (plainF l l.length) most).b1], Atom.arr Kd.int (gA (plainF l l.length)
 (plainF l l.length).length), Atom.arr Kd.int (gB (plainF l l.length) (plainF l l.length).length), Atom.gone, Atom.arr Kd.int (List.take (gA (plainF l l.length) (plainF l l.length).length).length (gA (plainF
 l l.length) (plainF l l.length).length) ++ List.take ((↑(gB (plainF l l.length) (plainF l l.length).length).length : Int) - ((↑(gB (plainF l l.length) (plainF l l.length).length).length : Int) - ((↑(ofF
 (plainF l l.length) most).left.length : Int) - (↑(gA (plainF l l.length) (plainF l l.length).length).length : Int)))).toNat (List.drop (0 + ((↑(gB (plainF l l.length) (plainF l l.length).length).length
 : Int) - ((↑(ofF (plainF l l.length) most).left.length : Int) - (↑(gA (plainF l l.length) (plainF l l.length).length).length : Int))).toNat) (gB (plainF l l.length) (plainF l l.length).length)))]) (Enter
 1 (invQ25 l most) (fun (x : Unit) => True) [VV.any, i64 (min (max most (1 : Int)) (1048576 : Int)), VV.one (V1.c (C.ptr 1 0 0)), VV.any, VV.any, VV.one (V1.c (C.ptr 5 0 0)), VV.one (V1.c (C.slc 6 0 (gA
 (plainF l l.length) (plainF l l.length).length).length none)), VV.one (V1.c (C.slc 7 0 (gB (plainF l l.length) (plainF l l.length).length).length none)), i64 (↑z : Int), i64 (↑(ofF (plainF l l.length)
 most).left.length : Int), i64 (-1 : Int), VV.one (V1.c C.nils), VV.any, VV.any, VV.any, VV.any, VV.any, VV.any, VV.any, VV.any, VV.any, VV.any, VV.any, VV.any, VV.any, VV.any, VV.any, VV.any, VV.any, VV.any,
 VV.any, VV.any, VV.any, VV.any, VV.any, i64 (↑z : Int), VV.one (V1.c (C.ptr 5 0 1)), VV.one (V1.c (C.slc 4 0 (ofF (plainF l l.length) most).left.length none)), i64 (↑(ofF (plainF l l.length) most).left.length
 : Int), boolv false, VV.any, VV.any, VV.any, VV.any, VV.any, VV.any, VV.any, VV.any, VV.any, VV.any, VV.any, VV.any, VV.any, VV.any, VV.one (V1.c (C.ptr 5 0 1)), VV.one (V1.c (C.slc 4 0 (ofF (plainF l
 l.length) most).left.length none)), i64 (↑(ofF (plainF l l.length) most).left.length : Int), i64 (↑(ofF (plainF l l.length) most).left.length : Int), VV.one (V1.c (C.slc 6 0 (gA (plainF l l.length) (plainF
 l l.length).length).length none)), VV.one (V1.c (C.int .i64 (↑(gA (plainF l l.length) (plainF l l.length).length).length : Int))), boolv false, VV.any, VV.any, VV.any, VV.any, VV.any, VV.any, VV.any, VV.any,
 VV.any, VV.any, VV.any, VV.any, VV.any, VV.any, VV.any, VV.any, VV.any, i64 (↑(ofF (plainF l l.length) most).left.length : Int), VV.one (V1.c (C.slc 6 0 (gA (plainF l l.length) (plainF l l.length).length).length
 none)), VV.one (V1.c (C.int .i64 (↑(gA (plainF l l.length) (plainF l l.length).length).length : Int))), VV.one (V1.c (C.slc 7 0 (gB (plainF l l.length) (plainF l l.length).length).length none)), VV.one
 (V1.c (C.int .i64 (↑(gB (plainF l l.length) (plainF l l.length).length).length : Int))), VV.one (V1.c (C.int .i64 ((↑(gA (plainF l l.length) (plainF l l.length).length).length : Int) + (↑(gB (plainF l
 l.length) (plainF l l.length).length).length : Int)))), boolv false, VV.any, VV.any, VV.any, VV.any, VV.any, VV.any, VV.any, VV.any, VV.any, VV.any, VV.any, VV.any, VV.any, VV.any, VV.any, VV.any, VV.any,
 VV.any, VV.any, VV.any, VV.any, VV.any, VV.any, VV.any, VV.any, VV.any, VV.any, VV.any, VV.any, VV.any, VV.any, VV.any, VV.any, VV.any, VV.any, VV.any, VV.any, VV.any, VV.any, VV.any, VV.any, VV.any, VV.any,
 VV.any, VV.any, VV.any, VV.any, VV.any, VV.any, VV.any, VV.any, VV.any, VV.any, VV.any, VV.any, VV.any, VV.any, VV.any, VV.any, VV.any, VV.any, VV.any, VV.any, VV.any, VV.any, VV.any, VV.any, VV.any, VV.any,
 VV.any, VV.any, VV.any, VV.any, VV.any, VV.any, VV.any, VV.any, VV.any, VV.any, VV.any, VV.any, VV.any, VV.any, VV.any, VV.any, VV.any] [Atom.ro Kd.cell l, Atom.cells 25 [C.slc 2 0 l.length none], Atom.arr
 Kd.cell (plainF l l.length), Atom.arr Kd.item (ofF (plainF l l.length) most).items, Atom.arr Kd.int (ofF (plainF l l.length) most).left, Atom.cells 34 [C.slc 3 0 (ofF (plainF l l.length) most).items.length
 none, C.slc 4 0 (ofF (plainF l l.length) most).left.length none, C.int .i64 (ofF (plainF l l.length) most).n0, C.int .i64 (ofF (plainF l l.length) most).b0, C.int .i64 (ofF (plainF l l.length) most).n1,
 C.int .i64 (ofF (plainF l l.length) most).b1], Atom.arr Kd.int (gA (plainF l l.length) (plainF l l.length).length), Atom.arr Kd.int (gB (plainF l l.length) (plainF l l.length).length)])) ∧ ∀ (z : Unit),
 True → Enter 1 (invQ26 l most) (fun (x : Nat) => True) [VV.any, i64 (min (max most (1 : Int)) (1048576 : Int)), VV.one (V1.c (C.ptr 1 0 0)), VV.any, VV.any, VV.one (V1.c (C.ptr 5 0 0)), VV.one (V1.c (C.slc
 6 0 (gA (plainF l l.length) (plainF l l.length).length).length none)), VV.one (V1.c (C.slc 7 0 (gB (plainF l l.length) (plainF l l.length).length).length none)), VV.any, i64 (↑(ofF (plainF l l.length)
 most).left.length : Int), VV.one (V1.c (C.int .i64 (lastF (gA (plainF l l.length) (plainF l l.length).length) (gB (plainF l l.length) (plainF l l.length).length) (ofF (plainF l l.length) most).left.length))),
 VV.one (V1.c (C.slc 8 0 (wantF (gA (plainF l l.length) (plainF l l.length).length) (gB (plainF l l.length) (plainF l l.length).length) (ofF (plainF l l.length) most).left.length).length none)), VV.any,
 i64 (0 : Int), VV.any, VV.any, VV.any, VV.any, VV.any, VV.any, VV.any, VV.any, VV.any, VV.any, VV.any, VV.any, VV.any, VV.any, VV.any, VV.any, VV.any, VV.any, VV.any, VV.any, VV.any, VV.any, VV.any, VV.any,
 VV.any, VV.any, VV.any, VV.any, VV.any, VV.any, VV.any, VV.any, VV.any, VV.any, VV.any, VV.any, VV.any, VV.any, VV.any, VV.any, VV.any, VV.any, VV.any, VV.any, VV.any, VV.any, VV.any, VV.any, VV.any, VV.any,
 VV.any, VV.any, VV.any, VV.any, VV.any, VV.any, VV.any, VV.any, VV.any, VV.any, VV.any, VV.any, VV.any, VV.any, VV.any, VV.any, VV.any, VV.any, VV.any, VV.any, VV.any, VV.any, VV.any, VV.any, VV.any, VV.any,
 VV.any, VV.any, VV.any, VV.any, VV.any, VV.any, VV.any, VV.any, VV.any, VV.any, VV.any, VV.any, VV.any, VV.any, VV.any, VV.any, VV.any, VV.any, VV.any, VV.any, VV.any, VV.any, VV.any, VV.any, VV.any, VV.any,
 VV.any, VV.any, VV.any, VV.any, VV.any, VV.any, VV.any, VV.any, VV.any, VV.any, VV.any, VV.any, VV.any, VV.any, VV.any, VV.any, VV.any, VV.any, VV.any, VV.any, VV.any, VV.any, VV.any, VV.any, VV.any, VV.any,
 VV.any, VV.any, VV.any, VV.any, VV.any, VV.any, VV.any, VV.any, VV.any, VV.any, VV.any, VV.any, VV.any, VV.any, VV.any, VV.any, VV.any, VV.any, VV.any, VV.any, VV.any, VV.any, VV.any, VV.any, VV.any, VV.any,
 VV.any, VV.any, VV.any] [Atom.ro Kd.cell l, Atom.cells 25 [C.slc 2 0 l.length none], Atom.arr Kd.cell (plainF l l.length), Atom.arr Kd.item (ofF (plainF l l.length) most).items, Atom.arr Kd.int (ofF (plainF
 l l.length) most).left, Atom.cells 34 [C.slc 3 0 (ofF (plainF l l.length) most).items.length none, C.slc 4 0 (ofF (plainF l l.length) most).left.length none, C.int .i64 (ofF (plainF l l.length) most).n0,
 C.int .i64 (ofF (plainF l l.length) most).b0, C.int .i64 (ofF (plainF l l.length) most).n1, C.int .i64 (ofF (plainF l l.length) most).b1], Atom.arr Kd.int (gA (plainF l l.length) (plainF l l.length).length),
 Atom.arr Kd.int (gB (plainF l l.length) (plainF l l.length).length), Atom.arr Kd.int (wantF (gA (plainF l l.length) (plainF l l.length).length) (gB (plainF l l.length) (plainF l l.length).length) (ofF
 (plainF l l.length) most).left.length)] ∧ ∀ (z : Nat), z ≤ (ofF (plainF l l.length) most).left.length → ite2 (decide ((↑z : Int) < (↑(ofF (plainF l l.length) most).left.length : Int))) (((0 : Int) ≤ (↑z
 : Int) ∧ (↑z : Int) < (↑(ofF (plainF l l.length) most).left.length : Int)) ∧ 0 + (↑z : Int).toNat < (ofF (plainF l l.length) most).left.length ∧ True ∧ 0 + (↑z : Int).toNat < (ofF (plainF l l.length) most).left.length
 ∧ i64ok (↑(wantF (gA (plainF l l.length) (plainF l l.length).length) (gB (plainF l l.length) (plainF l l.length).length) (ofF (plainF l l.length) most).left.length).length : Int) ∧ Into (K := KK) 0 []
 [8] [VV.one (V1.c (C.slc 8 0 (wantF (gA (plainF l l.length) (plainF l l.length).length) (gB (plainF l l.length) (plainF l l.length).length) (ofF (plainF l l.length) most).left.length).length none)), VV.one
 (V1.c (C.int .i64 (rd (ofF (plainF l l.length) most).left (0 + (↑z : Int).toNat) (0 : Int))))] [Atom.ro Kd.cell l, Atom.cells 25 [C.slc 2 0 l.length none], Atom.arr Kd.cell (plainF l l.length), Atom.arr
 Kd.item (ofF (plainF l l.length) most).items, Atom.arr Kd.int (ofF (plainF l l.length) most).left, Atom.cells 34 [C.slc 3 0 (ofF (plainF l l.length) most).items.length none, C.slc 4 0 (ofF (plainF l l.length)
 most).left.length none, C.int .i64 (ofF (plainF l l.length) most).n0, C.int .i64 (ofF (plainF l l.length) most).b0, C.int .i64 (ofF (plainF l l.length) most).n1, C.int .i64 (ofF (plainF l l.length) most).b1],
 Atom.arr Kd.int (gA (plainF l l.length) (plainF l l.length).length), Atom.arr Kd.int (gB (plainF l l.length) (plainF l l.length).length), Atom.arr Kd.int (wantF (gA (plainF l l.length) (plainF l l.length).length)
 (gB (plainF l l.length) (plainF l l.length).length) (ofF (plainF l l.length) most).left.length)] [VV.one (V1.c (C.slc 0 0 (wantF (gA (plainF l l.length) (plainF l l.length).length) (gB (plainF l l.length)
 (plainF l l.length).length) (ofF (plainF l l.length) most).left.length).length none)), VV.one (V1.c (C.int .i64 (rd (ofF (plainF l l.length) most).left (0 + (↑z : Int).toNat) (0 : Int))))] [Atom.ro Kd.int
 (wantF (gA (plainF l l.length) (plainF l l.length).length) (gB (plainF l l.length) (plainF l l.length).length) (ofF (plainF l l.length) most).left.length)] ∧ ∀ (y : Unit), True → ite2 (decide (rd (ofF
 (plainF l l.length) most).left (0 + (↑z : Int).toNat) (0 : Int) ∈ wantF (gA (plainF l l.length) (plainF l l.length).length) (gB (plainF l l.length) (plainF l l.length).length) (ofF (plainF l l.length)
 most).left.length)) (i64ok ((↑z : Int) + (1 : Int)) ∧ Enter 1 (invQ26 l most) (fun (z' : Nat) => (ofF (plainF l l.length) most).left.length - z' < (ofF (plainF l l.length) most).left.length - z) [VV.any,
 VV.one (V1.c (C.int .i64 (min (max most (1 : Int)) (1048576 : Int)))), VV.one (V1.c (C.ptr 1 0 0)), VV.any, VV.any, VV.one (V1.c (C.ptr 5 0 0)), VV.one (V1.c (C.slc 6 0 (gA (plainF l l.length) (plainF
 l l.length).length).length none)), VV.one (V1.c (C.slc 7 0 (gB (plainF l l.length) (plainF l l.length).length).length none)), VV.any, VV.one (V1.c (C.int .i64 (↑(ofF (plainF l l.length) most).left.length
 : Int))), VV.one (V1.c (C.int .i64 (lastF (gA (plainF l l.length) (plainF l l.length).length) (gB (plainF l l.length) (plainF l l.length).length) (ofF (plainF l l.length) most).left.length))), VV.one (V1.c
 (C.slc 8 0 (wantF (gA (plainF l l.length) (plainF l l.length).length) (gB (plainF l l.length) (plainF l l.length).length) (ofF (plainF l l.length) most).left.length).length none)), VV.any, i64 ((↑z : Int)
 + (1 : Int)), VV.any, VV.any, VV.any, VV.any, VV.any, VV.any, VV.any, VV.any, VV.any, VV.any, VV.any, VV.any, VV.any, VV.any, VV.any, VV.any, VV.any, VV.any, VV.any, VV.any, VV.any, VV.any, VV.any, VV.any,
 VV.any, VV.any, VV.any, VV.any, VV.any, VV.any, VV.any, VV.any, VV.any, VV.any, VV.any, VV.any, VV.any, VV.any, VV.any, VV.any, VV.any, VV.any, VV.any, VV.any, VV.any, VV.any, VV.any, VV.any, VV.any, VV.any,
 VV.any, VV.any, VV.any, VV.any, VV.any, VV.any, VV.any, VV.any, VV.any, VV.any, VV.any, VV.any, VV.any, VV.any, VV.any, VV.any, VV.any, VV.any, VV.any, VV.any, VV.any, VV.any, VV.any, VV.any, VV.any, VV.any,
 VV.any, VV.any, VV.any, VV.any, VV.any, VV.any, VV.any, VV.any, VV.any, VV.any, VV.any, VV.any, VV.any, VV.any, VV.any, VV.any, i64 (↑z : Int), VV.one (V1.c (C.int .i64 (↑(ofF (plainF l l.length) most).left.length
 : Int))), boolv true, i64 (↑z : Int), i64 ((↑z : Int) + (1 : Int)), VV.one (V1.c (C.slc 8 0 (wantF (gA (plainF l l.length) (plainF l l.length).length) (gB (plainF l l.length) (plainF l l.length).length)
 (ofF (plainF l l.length) most).left.length).length none)), VV.one (V1.c (C.ptr 5 0 1)), VV.one (V1.c (C.slc 4 0 (ofF (plainF l l.length) most).left.length none)), i64 (↑z : Int), VV.one (V1.c (C.ptr 4
 (0 + (↑z : Int).toNat) 0)), VV.one (V1.c (C.int .i64 (rd (ofF (plainF l l.length) most).left (0 + (↑z : Int).toNat) (0 : Int)))), VV.one (V1.c (C.bool (decide (rd (ofF (plainF l l.length) most).left (0
 + (↑z : Int).toNat) (0 : Int) ∈ wantF (gA (plainF l l.length) (plainF l l.length).length) (gB (plainF l l.length) (plainF l l.length).length) (ofF (plainF l l.length) most).left.length)))), boolv false,
 VV.any, VV.any, VV.any, VV.any, VV.any, VV.any, VV.any, VV.any, VV.any, VV.any, VV.any, VV.any, VV.any, VV.any, VV.any, VV.any, VV.any, VV.any, VV.any, VV.any, VV.any, VV.any, VV.any, VV.any, VV.any, VV.any,
 VV.any, VV.any, VV.any, VV.any, VV.any, VV.any, VV.any, VV.any, VV.any, VV.any, VV.any, VV.any, VV.any, VV.any, VV.any, VV.any, VV.any, VV.any, VV.any, VV.any, VV.any, VV.any, VV.any, VV.any, VV.any, VV.any]
 [Atom.ro Kd.cell l, Atom.cells 25 [C.slc 2 0 l.length none], Atom.arr Kd.cell (plainF l l.length), Atom.arr Kd.item (ofF (plainF l l.length) most).items, Atom.arr Kd.int (ofF (plainF l l.length) most).left,
 Atom.cells 34 [C.slc 3 0 (ofF (plainF l l.length) most).items.length none, C.slc 4 0 (ofF (plainF l l.length) most).left.length none, C.int .i64 (ofF (plainF l l.length) most).n0, C.int .i64 (ofF (plainF
 l l.length) most).b0, C.int .i64 (ofF (plainF l l.length) most).n1, C.int .i64 (ofF (plainF l l.length) most).b1], Atom.arr Kd.int (gA (plainF l l.length) (plainF l l.length).length), Atom.arr Kd.int (gB
 (plainF l l.length) (plainF l l.length).length), Atom.arr Kd.int (wantF (gA (plainF l l.length) (plainF l l.length).length) (gB (plainF l l.length) (plainF l l.length).length) (ofF (plainF l l.length)
 most).left.length)]) (EndsAs 1 (ct_planLeft l most) (boolv false) [Atom.ro Kd.cell l, Atom.cells 25 [C.slc 2 0 l.length none], Atom.arr Kd.cell (plainF l l.length), Atom.arr Kd.item (ofF (plainF l l.length)
 most).items, Atom.arr Kd.int (ofF (plainF l l.length) most).left, Atom.cells 34 [C.slc 3 0 (ofF (plainF l l.length) most).items.length none, C.slc 4 0 (ofF (plainF l l.length) most).left.length none, C.int
 .i64 (ofF (plainF l l.length) most).n0, C.int .i64 (ofF (plainF l l.length) most).b0, C.int .i64 (ofF (plainF l l.length) most).n1, C.int .i64 (ofF (plainF l l.length) most).b1], Atom.arr Kd.int (gA (plainF
 l l.length) (plainF l l.length).length), Atom.arr Kd.int (gB (plainF l l.length) (plainF l l.length).length), Atom.arr Kd.int (wantF (gA (plainF l l.length) (plainF l l.length).length) (gB (plainF l l.length)
 (plainF l l.length).length) (ofF (plainF l l.length) most).left.length)])) (ite2 (decide ((↑(wantF (gA (plainF l l.length) (plainF l l.length).length) (gB (plainF l l.length) (plainF l l.length).length)
 (ofF (plainF l l.length) most).left.length).length : Int) = (↑(ofF (plainF l l.length) most).left.length : Int))) (i64ok ((↑(gA (plainF l l.length) (plainF l l.length).length).length : Int) + (↑(gB (plainF
 l l.length) (plainF l l.length).length).length : Int)) ∧ ite2 (decide ((↑(ofF (plainF l l.length) most).left.length : Int) < (↑(gA (plainF l l.length) (plainF l l.length).length).length : Int) + (↑(gB
 (plainF l l.length) (plainF l l.length).length).length : Int))) ((((plainF l l.length).length ≤ 300 ∧ ∀ (c : Cell), List.Mem c (plainF l l.length) → ((0 : Int) ≤ c.keep ∧ c.keep < (1099511627776 : Int))
 ∧ (0 : Int) ≤ c.take ∧ c.take < (1099511627776 : Int)) ∧ i64ok (↑(ofF (plainF l l.length) most).left.length : Int)) ∧ Into (K := KK) 0 [] [2, 4] [VV.one (V1.c (C.slc 2 0 l.length none)), VV.one (V1.c (C.slc
 4 0 (ofF (plainF l l.length) most).left.length none))] [Atom.ro Kd.cell l, Atom.cells 25 [C.slc 2 0 l.length none], Atom.arr Kd.cell (plainF l l.length), Atom.arr Kd.item (ofF (plainF l l.length) most).items,
 Atom.arr Kd.int (ofF (plainF l l.length) most).left, Atom.cells 34 [C.slc 3 0 (ofF (plainF l l.length) most).items.length none, C.slc 4 0 (ofF (plainF l l.length) most).left.length none, C.int .i64 (ofF
 (plainF l l.length) most).n0, C.int .i64 (ofF (plainF l l.length) most).b0, C.int .i64 (ofF (plainF l l.length) most).n1, C.int .i64 (ofF (plainF l l.length) most).b1], Atom.arr Kd.int (gA (plainF l l.length)
 (plainF l l.length).length), Atom.arr Kd.int (gB (plainF l l.length) (plainF l l.length).length), Atom.arr Kd.int (wantF (gA (plainF l l.length) (plainF l l.length).length) (gB (plainF l l.length) (plainF
 l l.length).length) (ofF (plainF l l.length) most).left.length)] [VV.one (V1.c (C.slc 0 0 (plainF l l.length).length none)), VV.one (V1.c (C.slc 1 0 (ofF (plainF l l.length) most).left.length none))] [Atom.ro
 Kd.cell (plainF l l.length), Atom.ro Kd.int (ofF (plainF l l.length) most).left] ∧ ∀ (y : Unit), True → ite2 (decide (min (max most (1 : Int)) (1048576 : Int) < lworstF (plainF l l.length) (ofF (plainF
 l l.length) most).left)) (EndsAs 1 (ct_planLeft l most) (boolv false) [Atom.ro Kd.cell l, Atom.cells 25 [C.slc 2 0 l.length none], Atom.arr Kd.cell (plainF l l.length), Atom.arr Kd.item (ofF (plainF l
 l.length) most).items, Atom.arr Kd.int (ofF (plainF l l.length) most).left, Atom.cells 34 [C.slc 3 0 (ofF (plainF l l.length) most).items.length none, C.slc 4 0 (ofF (plainF l l.length) most).left.length
 none, C.int .i64 (ofF (plainF l l.length) most).n0, C.int .i64 (ofF (plainF l l.length) most).b0, C.int .i64 (ofF (plainF l l.length) most).n1, C.int .i64 (ofF (plainF l l.length) most).b1], Atom.arr Kd.int
 (gA (plainF l l.length) (plainF l l.length).length), Atom.arr Kd.int (gB (plainF l l.length) (plainF l l.length).length), Atom.arr Kd.int (wantF (gA (plainF l l.length) (plainF l l.length).length) (gB
 (plainF l l.length) (plainF l l.length).length) (ofF (plainF l l.length) most).left.length)]) (Enter 1 (invQ32 l most) (fun (x : Unit) => True) [VV.any, VV.one (V1.c (C.int .i64 (min (max most (1 : Int))
 (1048576 : Int)))), VV.one (V1.c (C.ptr 1 0 0)), VV.any, VV.any, VV.one (V1.c (C.ptr 5 0 0)), VV.one (V1.c (C.slc 6 0 (gA (plainF l l.length) (plainF l l.length).length).length none)), VV.one (V1.c (C.slc
 7 0 (gB (plainF l l.length) (plainF l l.length).length).length none)), VV.any, VV.one (V1.c (C.int .i64 (↑(ofF (plainF l l.length) most).left.length : Int))), VV.one (V1.c (C.int .i64 (lastF (gA (plainF
 l l.length) (plainF l l.length).length) (gB (plainF l l.length) (plainF l l.length).length) (ofF (plainF l l.length) most).left.length))), VV.one (V1.c (C.slc 8 0 (wantF (gA (plainF l l.length) (plainF
 l l.length).length) (gB (plainF l l.length) (plainF l l.length).length) (ofF (plainF l l.length) most).left.length).length none)), VV.any, i64 (↑z : Int), VV.any, VV.any, VV.any, VV.any, VV.any, VV.any,
 VV.any, VV.any, VV.any, VV.any, VV.any, VV.any, VV.any, VV.any, VV.any, VV.any, VV.any, VV.any, VV.any, VV.any, VV.any, VV.any, VV.any, VV.any, VV.any, VV.any, VV.any, VV.any, VV.any, VV.any, VV.any, VV.any,
 VV.any, VV.any, VV.any, VV.any, VV.any, VV.any, VV.any, VV.any, VV.any, VV.any, VV.any, VV.any, VV.any, VV.any, VV.any, VV.any, VV.any, VV.any, VV.any, VV.any, VV.any, VV.any, VV.any, VV.any, VV.any, VV.any,
 VV.any, VV.any, VV.any, VV.any, VV.any, VV.any, VV.any, VV.any, VV.any, VV.any, VV.any, VV.any, VV.any, VV.any, VV.any, VV.any, VV.any, VV.any, VV.any, VV.any, VV.any, VV.any, VV.any, VV.any, VV.any, VV.any,
 VV.any, VV.any, VV.any, VV.any, VV.any, VV.any, VV.any, VV.any, i64 (↑z : Int), VV.one (V1.c (C.int .i64 (↑(ofF (plainF l l.length) most).left.length : Int))), boolv false, VV.any, VV.any, VV.any, VV.any,
 VV.any, VV.any, VV.any, VV.any, VV.any, VV.any, VV.one (V1.c (C.slc 8 0 (wantF (gA (plainF l l.length) (plainF l l.length).length) (gB (plainF l l.length) (plainF l l.length).length) (ofF (plainF l l.length)
 most).left.length).length none)), VV.one (V1.c (C.int .i64 (↑(wantF (gA (plainF l l.length) (plainF l l.length).length) (gB (plainF l l.length) (plainF l l.length).length) (ofF (plainF l l.length) most).left.length).length
 : Int))), VV.one (V1.c (C.int .i64 (↑(ofF (plainF l l.length) most).left.length : Int))), boolv false, boolv false, VV.one (V1.c (C.int .i64 (↑(ofF (plainF l l.length) most).left.length : Int))), VV.one
 (V1.c (C.slc 6 0 (gA (plainF l l.length) (plainF l l.length).length).length none)), VV.one (V1.c (C.int .i64 (↑(gA (plainF l l.length) (plainF l l.length).length).length : Int))), VV.one (V1.c (C.slc 7
 0 (gB (plainF l l.length) (plainF l l.length).length).length none)), VV.one (V1.c (C.int .i64 (↑(gB (plainF l l.length) (plainF l l.length).length).length : Int))), VV.one (V1.c (C.int .i64 ((↑(gA (plainF
 l l.length) (plainF l l.length).length).length : Int) + (↑(gB (plainF l l.length) (plainF l l.length).length).length : Int)))), boolv true, boolv true, VV.one (V1.c (C.ptr 1 0 0)), VV.one (V1.c (C.slc
 2 0 l.length none)), VV.one (V1.c (C.ptr 5 0 1)), VV.one (V1.c (C.slc 4 0 (ofF (plainF l l.length) most).left.length none)), VV.one (V1.c (C.int .i64 (lworstF (plainF l l.length) (ofF (plainF l l.length)
 most).left))), VV.one (V1.c (C.int .i64 (min (max most (1 : Int)) (1048576 : Int)))), boolv false, boolv false, boolv false, VV.any, VV.any, VV.any, VV.any, VV.any, VV.any, VV.any, VV.any, VV.any, VV.any,
 VV.any, VV.any, VV.any, VV.any, VV.any, VV.any, VV.any, VV.any, VV.any, VV.any, VV.any, VV.any, VV.any, VV.any, VV.any, VV.any, VV.any, VV.any, VV.any, VV.any] [Atom.ro Kd.cell l, Atom.cells 25 [C.slc
 2 0 l.length none], Atom.arr Kd.cell (plainF l l.length), Atom.arr Kd.item (ofF (plainF l l.length) most).items, Atom.arr Kd.int (ofF (plainF l l.length) most).left, Atom.cells 34 [C.slc 3 0 (ofF (plainF
 l l.length) most).items.length none, C.slc 4 0 (ofF (plainF l l.length) most).left.length none, C.int .i64 (ofF (plainF l l.length) most).n0, C.int .i64 (ofF (plainF l l.length) most).b0, C.int .i64 (ofF
 (plainF l l.length) most).n1, C.int .i64 (ofF (plainF l l.length) most).b1], Atom.arr Kd.int (gA (plainF l l.length) (plainF l l.length).length), Atom.arr Kd.int (gB (plainF l l.length) (plainF l l.length).length),
 Atom.arr Kd.int (wantF (gA (plainF l l.length) (plainF l l.length).length) (gB (plainF l l.length) (plainF l l.length).length) (ofF (plainF l l.length) most).left.length)])) (Enter 1 (invQ32 l most) (fun
 (x : Unit) => True) [VV.any, i64 (min (max most (1 : Int)) (1048576 : Int)), VV.one (V1.c (C.ptr 1 0 0)), VV.any, VV.any, VV.one (V1.c (C.ptr 5 0 0)), VV.one (V1.c (C.slc 6 0 (gA (plainF l l.length) (plainF
 l l.length).length).length none)), VV.one (V1.c (C.slc 7 0 (gB (plainF l l.length) (plainF l l.length).length).length none)), VV.any, i64 (↑(ofF (plainF l l.length) most).left.length : Int), VV.one (V1.c
 (C.int .i64 (lastF (gA (plainF l l.length) (plainF l l.length).length) (gB (plainF l l.length) (plainF l l.length).length) (ofF (plainF l l.length) most).left.length))), VV.one (V1.c (C.slc 8 0 (wantF
 (gA (plainF l l.length) (plainF l l.length).length) (gB (plainF l l.length) (plainF l l.length).length) (ofF (plainF l l.length) most).left.length).length none)), VV.any, i64 (↑z : Int), VV.any, VV.any,
 VV.any, VV.any, VV.any, VV.any, VV.any, VV.any, VV.any, VV.any, VV.any, VV.any, VV.any, VV.any, VV.any, VV.any, VV.any, VV.any, VV.any, VV.any, VV.any, VV.any, VV.any, VV.any, VV.any, VV.any, VV.any, VV.any,
 VV.any, VV.any, VV.any, VV.any, VV.any, VV.any, VV.any, VV.any, VV.any, VV.any, VV.any, VV.any, VV.any, VV.any, VV.any, VV.any, VV.any, VV.any, VV.any, VV.any, VV.any, VV.any, VV.any, VV.any, VV.any, VV.any,
 VV.any, VV.any, VV.any, VV.any, VV.any, VV.any, VV.any, VV.any, VV.any, VV.any, VV.any, VV.any, VV.any, VV.any, VV.any, VV.any, VV.any, VV.any, VV.any, VV.any, VV.any, VV.any, VV.any, VV.any, VV.any, VV.any,
 VV.any, VV.any, VV.any, VV.any, VV.any, VV.any, VV.any, VV.any, VV.any, VV.any, VV.any, VV.any, i64 (↑z : Int), i64 (↑(ofF (plainF l l.length) most).left.length : Int), boolv false, VV.any, VV.any, VV.any,
 VV.any, VV.any, VV.any, VV.any, VV.any, VV.any, VV.any, VV.one (V1.c (C.slc 8 0 (wantF (gA (plainF l l.length) (plainF l l.length).length) (gB (plainF l l.length) (plainF l l.length).length) (ofF (plainF
 l l.length) most).left.length).length none)), VV.one (V1.c (C.int .i64 (↑(wantF (gA (plainF l l.length) (plainF l l.length).length) (gB (plainF l l.length) (plainF l l.length).length) (ofF (plainF l l.length)
 most).left.length).length : Int))), i64 (↑(ofF (plainF l l.length) most).left.length : Int), boolv false, boolv false, i64 (↑(ofF (plainF l l.length) most).left.length : Int), VV.one (V1.c (C.slc 6 0 (gA
 (plainF l l.length) (plainF l l.length).length).length none)), VV.one (V1.c (C.int .i64 (↑(gA (plainF l l.length) (plainF l l.length).length).length : Int))), VV.one (V1.c (C.slc 7 0 (gB (plainF l l.length)
 (plainF l l.length).length).length none)), VV.one (V1.c (C.int .i64 (↑(gB (plainF l l.length) (plainF l l.length).length).length : Int))), VV.one (V1.c (C.int .i64 ((↑(gA (plainF l l.length) (plainF l
 l.length).length).length : Int) + (↑(gB (plainF l l.length) (plainF l l.length).length).length : Int)))), boolv false, boolv false, VV.tup [], VV.tup [], VV.tup [], VV.tup [], VV.tup [], VV.tup [], VV.tup
 [], boolv false, boolv false, VV.any, VV.any, VV.any, VV.any, VV.any, VV.any, VV.any, VV.any, VV.any, VV.any, VV.any, VV.any, VV.any, VV.any, VV.any, VV.any, VV.any, VV.any, VV.any, VV.any, VV.any, VV.any,
 VV.any, VV.any, VV.any, VV.any, VV.any, VV.any, VV.any, VV.any] [Atom.ro Kd.cell l, Atom.cells 25 [C.slc 2 0 l.length none], Atom.arr Kd.cell (plainF l l.length), Atom.arr Kd.item (ofF (plainF l l.length)
 most).items, Atom.arr Kd.int (ofF (plainF l l.length) most).left, Atom.cells 34 [C.slc 3 0 (ofF (plainF l l.length) most).items.length none, C.slc 4 0 (ofF (plainF l l.length) most).left.length none, C.int
 .i64 (ofF (plainF l l.length) most).n0, C.int .i64 (ofF (plainF l l.length) most).b0, C.int .i64 (ofF (plainF l l.length) most).n1, C.int .i64 (ofF (plainF l l.length) most).b1], Atom.arr Kd.int (gA (plainF
 l l.length) (plainF l l.length).length), Atom.arr Kd.int (gB (plainF l l.length) (plainF l l.length).length), Atom.arr Kd.int (wantF (gA (plainF l l.length) (plainF l l.length).length) (gB (plainF l l.length)
 (plainF l l.length).length) (ofF (plainF l l.length) most).left.length)])) (EndsAs 1 (ct_planLeft l most) (boolv false) [Atom.ro Kd.cell l, Atom.cells 25 [C.slc 2 0 l.length none], Atom.arr Kd.cell (plainF
 l l.length), Atom.arr Kd.item (ofF (plainF l l.length) most).items, Atom.arr Kd.int (ofF (plainF l l.length) most).left, Atom.cells 34 [C.slc 3 0 (ofF (plainF l l.length) most).items.length none, C.slc
 4 0 (ofF (plainF l l.length) most).left.length none, C.int .i64 (ofF (plainF l l.length) most).n0, C.int .i64 (ofF (plainF l l.length) most).b0, C.int .i64 (ofF (plainF l l.length) most).n1, C.int .i64
 (ofF (plainF l l.length) most).b1], Atom.arr Kd.int (gA (plainF l l.length) (plainF l l.length).length), Atom.arr Kd.int (gB (plainF l l.length) (plainF l l.length).length), Atom.arr Kd.int (wantF (gA
 (plainF l l.length) (plainF l l.length).length) (gB (plainF l l.length) (plainF l l.length).length) (ofF (plainF l l.length) most).left.length)]) ∧ ∀ (z : Unit), True → Enter 1 (invQ34 l most) (fun (x
 : Nat) => True) [VV.any, i64 (min (max most (1 : Int)) (1048576 : Int)), VV.one (V1.c (C.ptr 1 0 0)), VV.any, VV.any, VV.one (V1.c (C.ptr 5 0 0)), VV.one (V1.c (C.slc 6 0 (gA (plainF l l.length) (plainF
 l l.length).length).length none)), VV.one (V1.c (C.slc 7 0 (gB (plainF l l.length) (plainF l l.length).length).length none)), VV.any, i64 (↑(ofF (plainF l l.length) most).left.length : Int), VV.one (V1.c
 (C.int .i64 (lastF (gA (plainF l l.length) (plainF l l.length).length) (gB (plainF l l.length) (plainF l l.length).length) (ofF (plainF l l.length) most).left.length))), VV.any, VV.any, VV.any, VV.one
 (V1.c C.nils), i64 (0 : Int), VV.any, VV.any, VV.any, VV.any, VV.any, VV.any, VV.any, VV.any, VV.any, VV.any, VV.any, VV.any, VV.any, VV.any, VV.any, VV.any, VV.any, VV.any, VV.any, VV.any, VV.any, VV.any,
 VV.any, VV.any, VV.any, VV.any, VV.any, VV.any, VV.any, VV.any, VV.any, VV.any, VV.any, VV.any, VV.any, VV.any, VV.any, VV.any, VV.any, VV.any, VV.any, VV.any, VV.any, VV.any, VV.any, VV.any, VV.any, VV.any,
 VV.any, VV.any, VV.any, VV.any, VV.any, VV.any, VV.any, VV.any, VV.any, VV.any, VV.any, VV.any, VV.any, VV.any, VV.any, VV.any, VV.any, VV.any, VV.any, VV.any, VV.any, VV.any, VV.any, VV.any, VV.any, VV.any,
 VV.any, VV.any, VV.any, VV.any, VV.any, VV.any, VV.any, VV.any, VV.any, VV.any, VV.any, VV.any, VV.any, VV.any, VV.any, VV.any, VV.any, VV.any, VV.any, VV.any, VV.any, VV.any, VV.any, VV.any, VV.any, VV.any,
 VV.any, VV.any, VV.any, VV.any, VV.any, VV.any, VV.any, VV.any, VV.any, VV.any, VV.any, VV.any, VV.any, VV.any, VV.any, VV.any, VV.any, VV.any, VV.any, VV.any, VV.any, VV.any, VV.any, VV.any, VV.any, VV.any,
 VV.any, VV.any, VV.any, VV.any, VV.any, VV.any, VV.any, VV.any, VV.any, VV.any, VV.any, VV.any, VV.any, VV.any, VV.any, VV.any, VV.any, VV.any, VV.any, VV.any, VV.any, VV.any, VV.any, VV.any, VV.any, VV.any,
 VV.any, VV.any, VV.any] [Atom.ro Kd.cell l, Atom.cells 25 [C.slc 2 0 l.length none], Atom.arr Kd.cell (plainF l l.length), Atom.arr Kd.item (ofF (plainF l l.length) most).items, Atom.arr Kd.int (ofF (plainF
 l l.length) most).left, Atom.cells 34 [C.slc 3 0 (ofF (plainF l l.length) most).items.length none, C.slc 4 0 (ofF (plainF l l.length) most).left.length none, C.int .i64 (ofF (plainF l l.length) most).n0,
 C.int .i64 (ofF (plainF l l.length) most).b0, C.int .i64 (ofF (plainF l l.length) most).n1, C.int .i64 (ofF (plainF l l.length) most).b1], Atom.arr Kd.int (gA (plainF l l.length) (plainF l l.length).length),
 Atom.arr Kd.int (gB (plainF l l.length) (plainF l l.length).length)] ∧ ∀ (z : Nat), z ≤ (ofF (plainF l l.length) most).left.length → ite2 (decide ((↑z : Int) < (↑(ofF (plainF l l.length) most).left.length
 : Int))) (((0 : Int) ≤ (↑z : Int) ∧ (↑z : Int) < (↑(ofF (plainF l l.length) most).left.length : Int)) ∧ 0 + (↑z : Int).toNat < (ofF (plainF l l.length) most).left.length ∧ True ∧ 0 + (↑z : Int).toNat <
 (ofF (plainF l l.length) most).left.length ∧ ite2 (decide (rd (ofF (plainF l l.length) most).left (0 + (↑z : Int).toNat) (0 : Int) = lastF (gA (plainF l l.length) (plainF l l.length).length) (gB (plainF
 l l.length) (plainF l l.length).length) (ofF (plainF l l.length) most).left.length)) (i64ok ((↑z : Int) + (1 : Int)) ∧ Enter 1 (invQ34 l most) (fun (z' : Nat) => (ofF (plainF l l.length) most).left.length
 - z' < (ofF (plainF l l.length) most).left.length - z) [VV.any, VV.one (V1.c (C.int .i64 (min (max most (1 : Int)) (1048576 : Int)))), VV.one (V1.c (C.ptr 1 0 0)), VV.any, VV.any, VV.one (V1.c (C.ptr 5
 0 0)), VV.one (V1.c (C.slc 6 0 (gA (plainF l l.length) (plainF l l.length).length).length none)), VV.one (V1.c (C.slc 7 0 (gB (plainF l l.length) (plainF l l.length).length).length none)), VV.any, VV.one
 (V1.c (C.int .i64 (↑(ofF (plainF l l.length) most).left.length : Int))), VV.one (V1.c (C.int .i64 (lastF (gA (plainF l l.length) (plainF l l.length).length) (gB (plainF l l.length) (plainF l l.length).length)
 (ofF (plainF l l.length) most).left.length))), VV.any, VV.any, VV.any, VV.one (V1.c (C.slc 8 0 (lessF (ofF (plainF l l.length) most).left (lastF (gA (plainF l l.length) (plainF l l.length).length) (gB
 (plainF l l.length) (plainF l l.length).length) (ofF (plainF l l.length) most).left.length) z).length none)), i64 ((↑z : Int) + (1 : Int)), VV.any, VV.any, VV.any, VV.any, VV.any, VV.any, VV.any, VV.any,
 VV.any, VV.any, VV.any, VV.any, VV.any, VV.any, VV.any, VV.any, VV.any, VV.any, VV.any, VV.any, VV.any, VV.any, VV.any, VV.any, VV.any, VV.any, VV.any, VV.any, VV.any, VV.any, VV.any, VV.any, VV.any, VV.any,
 VV.any, VV.any, VV.any, VV.any, VV.any, VV.any, VV.any, VV.any, VV.any, VV.any, VV.any, VV.any, VV.any, VV.any, VV.any, VV.any, VV.any, VV.any, VV.any, VV.any, VV.any, VV.any, VV.any, VV.any, VV.any, VV.any,
 VV.any, VV.any, VV.any, VV.any, VV.any, VV.any, VV.any, VV.any, VV.any, VV.any, VV.any, VV.any, VV.any, VV.any, VV.any, VV.any, VV.any, VV.any, VV.any, VV.any, VV.any, VV.any, VV.any, VV.any, VV.any, VV.any,
 VV.any, VV.any, VV.any, VV.any, VV.any, VV.any, VV.any, VV.any, VV.any, VV.any, VV.any, VV.any, VV.any, VV.any, VV.any, VV.any, VV.any, VV.any, VV.any, VV.any, VV.any, VV.any, VV.any, VV.any, VV.any, VV.any,
 VV.any, VV.any, VV.any, VV.any, VV.any, VV.any, VV.any, VV.any, VV.any, VV.any, VV.any, VV.any, VV.any, i64 (↑z : Int), VV.one (V1.c (C.int .i64 (↑(ofF (plainF l l.length) most).left.length : Int))), boolv
 true, i64 (↑z : Int), i64 ((↑z : Int) + (1 : Int)), VV.one (V1.c (C.ptr 5 0 1)), VV.one (V1.c (C.slc 4 0 (ofF (plainF l l.length) most).left.length none)), i64 (↑z : Int), VV.one (V1.c (C.ptr 4 (0 + (↑z
 : Int).toNat) 0)), VV.one (V1.c (C.int .i64 (rd (ofF (plainF l l.length) most).left (0 + (↑z : Int).toNat) (0 : Int)))), VV.one (V1.c (C.int .i64 (lastF (gA (plainF l l.length) (plainF l l.length).length)
 (gB (plainF l l.length) (plainF l l.length).length) (ofF (plainF l l.length) most).left.length))), boolv false, VV.any, VV.any, VV.any, VV.any, VV.any, VV.any, VV.any, VV.any, VV.any, VV.any, VV.any, VV.any,
 VV.any, VV.any, VV.any, VV.any, VV.any, VV.any] [Atom.ro Kd.cell l, Atom.cells 25 [C.slc 2 0 l.length none], Atom.arr Kd.cell (plainF l l.length), Atom.arr Kd.item (ofF (plainF l l.length) most).items,
 Atom.arr Kd.int (ofF (plainF l l.length) most).left, Atom.cells 34 [C.slc 3 0 (ofF (plainF l l.length) most).items.length none, C.slc 4 0 (ofF (plainF l l.length) most).left.length none, C.int .i64 (ofF
 (plainF l l.length) most).n0, C.int .i64 (ofF (plainF l l.length) most).b0, C.int .i64 (ofF (plainF l l.length) most).n1, C.int .i64 (ofF (plainF l l.length) most).b1], Atom.arr Kd.int (gA (plainF l l.length)
 (plainF l l.length).length), Atom.arr Kd.int (gB (plainF l l.length) (plainF l l.length).length), Atom.arr Kd.int (lessF (ofF (plainF l l.length) most).left (lastF (gA (plainF l l.length) (plainF l l.length).length)
 (gB (plainF l l.length) (plainF l l.length).length) (ofF (plainF l l.length) most).left.length) z)]) (((0 : Int) ≤ (↑z : Int) ∧ (↑z : Int) < (↑(ofF (plainF l l.length) most).left.length : Int)) ∧ 0 + (↑z
 : Int).toNat < (ofF (plainF l l.length) most).left.length ∧ True ∧ 0 + (↑z : Int).toNat < (ofF (plainF l l.length) most).left.length ∧ (lessF (ofF (plainF l l.length) most).left (lastF (gA (plainF l l.length)
 (plainF l l.length).length) (gB (plainF l l.length) (plainF l l.length).length) (ofF (plainF l l.length) most).left.length) z).length = (lessF (ofF (plainF l l.length) most).left (lastF (gA (plainF l l.length)
 (plainF l l.length).length) (gB (plainF l l.length) (plainF l l.length).length) (ofF (plainF l l.length) most).left.length) z).length ∧ (1 ≤ 1 ∧ True) ∧ ((lessF (ofF (plainF l l.length) most).left (lastF
 (gA (plainF l l.length) (plainF l l.length).length) (gB (plainF l l.length) (plainF l l.length).length) (ofF (plainF l l.length) most).left.length) z).length + 1) * 8 ≤ 140737488355328 ∧ i64ok ((↑z : Int)
 + (1 : Int)) ∧ Enter 1 (invQ34 l most) (fun (z' : Nat) => (ofF (plainF l l.length) most).left.length - z' < (ofF (plainF l l.length) most).left.length - z) [VV.any, VV.one (V1.c (C.int .i64 (min (max most
 (1 : Int)) (1048576 : Int)))), VV.one (V1.c (C.ptr 1 0 0)), VV.any, VV.any, VV.one (V1.c (C.ptr 5 0 0)), VV.one (V1.c (C.slc 6 0 (gA (plainF l l.length) (plainF l l.length).length).length none)), VV.one
 (V1.c (C.slc 7 0 (gB (plainF l l.length) (plainF l l.length).length).length none)), VV.any, VV.one (V1.c (C.int .i64 (↑(ofF (plainF l l.length) most).left.length : Int))), VV.one (V1.c (C.int .i64 (lastF
 (gA (plainF l l.length) (plainF l l.length).length) (gB (plainF l l.length) (plainF l l.length).length) (ofF (plainF l l.length) most).left.length))), VV.any, VV.any, VV.any, VV.one (V1.c (C.slc 10 0 ((lessF
 (ofF (plainF l l.length) most).left (lastF (gA (plainF l l.length) (plainF l l.length).length) (gB (plainF l l.length) (plainF l l.length).length) (ofF (plainF l l.length) most).left.length) z).length
 + 1) none)), VV.one (V1.c (C.int .i64 ((↑z : Int) + (1 : Int)))), VV.any, VV.any, VV.any, VV.any, VV.any, VV.any, VV.any, VV.any, VV.any, VV.any, VV.any, VV.any, VV.any, VV.any, VV.any, VV.any, VV.any,
 VV.any, VV.any, VV.any, VV.any, VV.any, VV.any, VV.any, VV.any, VV.any, VV.any, VV.any, VV.any, VV.any, VV.any, VV.any, VV.any, VV.any, VV.any, VV.any, VV.any, VV.any, VV.any, VV.any, VV.any, VV.any, VV.any,
 VV.any, VV.any, VV.any, VV.any, VV.any, VV.any, VV.any, VV.any, VV.any, VV.any, VV.any, VV.any, VV.any, VV.any, VV.any, VV.any, VV.any, VV.any, VV.any, VV.any, VV.any, VV.any, VV.any, VV.any, VV.any, VV.any,
 VV.any, VV.any, VV.any, VV.any, VV.any, VV.any, VV.any, VV.any, VV.any, VV.any, VV.any, VV.any, VV.any, VV.any, VV.any, VV.any, VV.any, VV.any, VV.any, VV.any, VV.any, VV.any, VV.any, VV.any, VV.any, VV.any,
 VV.any, VV.any, VV.any, VV.any, VV.any, VV.any, VV.any, VV.any, VV.any, VV.any, VV.any, VV.any, VV.any, VV.any, VV.any, VV.any, VV.any, VV.any, VV.any, VV.any, VV.any, VV.any, VV.any, VV.any, VV.any, VV.any,
 VV.any, VV.any, VV.any, VV.any, i64 (↑z : Int), VV.one (V1.c (C.int .i64 (↑(ofF (plainF l l.length) most).left.length : Int))), boolv true, i64 (↑z : Int), VV.one (V1.c (C.int .i64 ((↑z : Int) + (1 : Int)))),
 VV.one (V1.c (C.ptr 5 0 1)), VV.one (V1.c (C.slc 4 0 (ofF (plainF l l.length) most).left.length none)), i64 (↑z : Int), VV.one (V1.c (C.ptr 4 (0 + (↑z : Int).toNat) 0)), VV.one (V1.c (C.int .i64 (rd (ofF
 (plainF l l.length) most).left (0 + (↑z : Int).toNat) (0 : Int)))), VV.one (V1.c (C.int .i64 (lastF (gA (plainF l l.length) (plainF l l.length).length) (gB (plainF l l.length) (plainF l l.length).length)
 (ofF (plainF l l.length) most).left.length))), boolv true, VV.one (V1.c (C.slc 8 0 (lessF (ofF (plainF l l.length) most).left (lastF (gA (plainF l l.length) (plainF l l.length).length) (gB (plainF l l.length)
 (plainF l l.length).length) (ofF (plainF l l.length) most).left.length) z).length none)), VV.one (V1.c (C.ptr 5 0 1)), VV.one (V1.c (C.slc 4 0 (ofF (plainF l l.length) most).left.length none)), i64 (↑z
 : Int), VV.one (V1.c (C.ptr 4 (0 + (↑z : Int).toNat) 0)), VV.one (V1.c (C.int .i64 (rd (ofF (plainF l l.length) most).left (0 + (↑z : Int).toNat) (0 : Int)))), VV.one (V1.c (C.slc 9 0 1 none)), VV.one
 (V1.c (C.slc 10 0 ((lessF (ofF (plainF l l.length) most).left (lastF (gA (plainF l l.length) (plainF l l.length).length) (gB (plainF l l.length) (plainF l l.length).length) (ofF (plainF l l.length) most).left.length)
 z).length + 1) none)), VV.any, VV.any, VV.any, VV.any, VV.any, VV.any, VV.any, VV.any, VV.any, VV.any] [Atom.ro Kd.cell l, Atom.cells 25 [C.slc 2 0 l.length none], Atom.arr Kd.cell (plainF l l.length),
 Atom.arr Kd.item (ofF (plainF l l.length) most).items, Atom.arr Kd.int (ofF (plainF l l.length) most).left, Atom.cells 34 [C.slc 3 0 (ofF (plainF l l.length) most).items.length none, C.slc 4 0 (ofF (plainF
 l l.length) most).left.length none, C.int .i64 (ofF (plainF l l.length) most).n0, C.int .i64 (ofF (plainF l l.length) most).b0, C.int .i64 (ofF (plainF l l.length) most).n1, C.int .i64 (ofF (plainF l l.length)
 most).b1], Atom.arr Kd.int (gA (plainF l l.length) (plainF l l.length).length), Atom.arr Kd.int (gB (plainF l l.length) (plainF l l.length).length), Atom.gone, Atom.arr Kd.int [rd (ofF (plainF l l.length)
 most).left (0 + (↑z : Int).toNat) (0 : Int)], Atom.arr Kd.int (lessF (ofF (plainF l l.length) most).left (lastF (gA (plainF l l.length) (plainF l l.length).length) (gB (plainF l l.length) (plainF l l.length).length)
 (ofF (plainF l l.length) most).left.length) z ++ [rd (ofF (plainF l l.length) most).left (0 + (↑z : Int).toNat) (0 : Int)])])) (ite2 (decide ((↑(ofF (plainF l l.length) most).left.length : Int) = (0 :
 Int))) (EndsAs 1 (ct_planLeft l most) (boolv true) [Atom.ro Kd.cell l, Atom.cells 25 [C.slc 2 0 l.length none], Atom.arr Kd.cell (plainF l l.length), Atom.arr Kd.item (ofF (plainF l l.length) most).items,
 Atom.arr Kd.int (ofF (plainF l l.length) most).left, Atom.cells 34 [C.slc 3 0 (ofF (plainF l l.length) most).items.length none, C.slc 4 0 (ofF (plainF l l.length) most).left.length none, C.int .i64 (ofF
 (plainF l l.length) most).n0, C.int .i64 (ofF (plainF l l.length) most).b0, C.int .i64 (ofF (plainF l l.length) most).n1, C.int .i64 (ofF (plainF l l.length) most).b1], Atom.arr Kd.int (gA (plainF l l.length)
 (plainF l l.length).length), Atom.arr Kd.int (gB (plainF l l.length) (plainF l l.length).length), Atom.arr Kd.int (lessF (ofF (plainF l l.length) most).left (lastF (gA (plainF l l.length) (plainF l l.length).length)
 (gB (plainF l l.length) (plainF l l.length).length) (ofF (plainF l l.length) most).left.length) z)]) ((((plainF l l.length).length ≤ 300 ∧ ∀ (c : Cell), List.Mem c (plainF l l.length) → ((0 : Int) ≤ c.keep
 ∧ c.keep < (1099511627776 : Int)) ∧ (0 : Int) ≤ c.take ∧ c.take < (1099511627776 : Int)) ∧ i64ok (↑(lessF (ofF (plainF l l.length) most).left (lastF (gA (plainF l l.length) (plainF l l.length).length)
 (gB (plainF l l.length) (plainF l l.length).length) (ofF (plainF l l.length) most).left.length) z).length : Int)) ∧ Into (K := KK) 0 [] [2, 8] [VV.one (V1.c (C.slc 2 0 l.length none)), VV.one (V1.c (C.slc
 8 0 (lessF (ofF (plainF l l.length) most).left (lastF (gA (plainF l l.length) (plainF l l.length).length) (gB (plainF l l.length) (plainF l l.length).length) (ofF (plainF l l.length) most).left.length)
 z).length none))] [Atom.ro Kd.cell l, Atom.cells 25 [C.slc 2 0 l.length none], Atom.arr Kd.cell (plainF l l.length), Atom.arr Kd.item (ofF (plainF l l.length) most).items, Atom.arr Kd.int (ofF (plainF
 l l.length) most).left, Atom.cells 34 [C.slc 3 0 (ofF (plainF l l.length) most).items.length none, C.slc 4 0 (ofF (plainF l l.length) most).left.length none, C.int .i64 (ofF (plainF l l.length) most).n0,
 C.int .i64 (ofF (plainF l l.length) most).b0, C.int .i64 (ofF (plainF l l.length) most).n1, C.int .i64 (ofF (plainF l l.length) most).b1], Atom.arr Kd.int (gA (plainF l l.length) (plainF l l.length).length),
 Atom.arr Kd.int (gB (plainF l l.length) (plainF l l.length).length), Atom.arr Kd.int (lessF (ofF (plainF l l.length) most).left (lastF (gA (plainF l l.length) (plainF l l.length).length) (gB (plainF l
 l.length) (plainF l l.length).length) (ofF (plainF l l.length) most).left.length) z)] [VV.one (V1.c (C.slc 0 0 (plainF l l.length).length none)), VV.one (V1.c (C.slc 1 0 (lessF (ofF (plainF l l.length)
 most).left (lastF (gA (plainF l l.length) (plainF l l.length).length) (gB (plainF l l.length) (plainF l l.length).length) (ofF (plainF l l.length) most).left.length) z).length none))] [Atom.ro Kd.cell
 (plainF l l.length), Atom.ro Kd.int (lessF (ofF (plainF l l.length) most).left (lastF (gA (plainF l l.length) (plainF l l.length).length) (gB (plainF l l.length) (plainF l l.length).length) (ofF (plainF
 l l.length) most).left.length) z)] ∧ ∀ (y : Unit), True → ite2 (decide (min (max most (1 : Int)) (1048576 : Int) < lworstF (plainF l l.length) (lessF (ofF (plainF l l.length) most).left (lastF (gA (plainF
 l l.length) (plainF l l.length).length) (gB (plainF l l.length) (plainF l l.length).length) (ofF (plainF l l.length) most).left.length) z))) (EndsAs 1 (ct_planLeft l most) (boolv true) [Atom.ro Kd.cell
 l, Atom.cells 25 [C.slc 2 0 l.length none], Atom.arr Kd.cell (plainF l l.length), Atom.arr Kd.item (ofF (plainF l l.length) most).items, Atom.arr Kd.int (ofF (plainF l l.length) most).left, Atom.cells
 34 [C.slc 3 0 (ofF (plainF l l.length) most).items.length none, C.slc 4 0 (ofF (plainF l l.length) most).left.length none, C.int .i64 (ofF (plainF l l.length) most).n0, C.int .i64 (ofF (plainF l l.length)
 most).b0, C.int .i64 (ofF (plainF l l.length) most).n1, C.int .i64 (ofF (plainF l l.length) most).b1], Atom.arr Kd.int (gA (plainF l l.length) (plainF l l.length).length), Atom.arr Kd.int (gB (plainF l
 l.length) (plainF l l.length).length), Atom.arr Kd.int (lessF (ofF (plainF l l.length) most).left (lastF (gA (plainF l l.length) (plainF l l.length).length) (gB (plainF l l.length) (plainF l l.length).length)
 (ofF (plainF l l.length) most).left.length) z)]) (EndsAs 1 (ct_planLeft l most) (boolv false) [Atom.ro Kd.cell l, Atom.cells 25 [C.slc 2 0 l.length none], Atom.arr Kd.cell (plainF l l.length), Atom.arr
 Kd.item (ofF (plainF l l.length) most).items, Atom.arr Kd.int (ofF (plainF l l.length) most).left, Atom.cells 34 [C.slc 3 0 (ofF (plainF l l.length) most).items.length none, C.slc 4 0 (ofF (plainF l l.length)
 most).left.length none, C.int .i64 (ofF (plainF l l.length) most).n0, C.int .i64 (ofF (plainF l l.length) most).b0, C.int .i64 (ofF (plainF l l.length) most).n1, C.int .i64 (ofF (plainF l l.length) most).b1],
 Atom.arr Kd.int (gA (plainF l l.length) (plainF l l.length).length), Atom.arr Kd.int (gB (plainF l l.length) (plainF l l.length).length), Atom.arr Kd.int (lessF (ofF (plainF l l.length) most).left (lastF
 (gA (plainF l l.length) (plainF l l.length).length) (gB (plainF l l.length) (plainF l l.length).length) (ofF (plainF l l.length) most).left.length) z)])))))) (EndsAs 1 (ct_planLeft l most) (boolv true)
 [Atom.ro Kd.cell l, Atom.cells 25 [C.slc 0 0 l.length none]])) := by kernel_rfl
end Go.Proofs.Ytljamcgngojaeaa.T
