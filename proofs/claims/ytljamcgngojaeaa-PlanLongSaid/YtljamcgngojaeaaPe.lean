/- The plan: few, growing. -/
import Derived.Test.YtljamcgngojaeaaPd
namespace Go.Proofs.Ytljamcgngojaeaa.T
open Go.Proofs.Ytljamcgngojaeaa.E
set_option maxRecDepth 100000
set_option linter.unusedVariables false
def cnt (a : Atom KK) : Option Int := match a with
  | .cells _ [.int _ m] => some m
  | _ => none
def tab3 : Tab Try.prog KK := ⟨mixed, fun f args H => match f, args with
  | 30, [.one (.c (.slc n 0 len none)), .one (.c (.int _ a))] => match getL .int (at_ H n) with
    | some l => some (ct_contains l a, [], [n])
    | none => none
  | 25, [.one (.c (.int _ a))] => some (ct_many a, [], [])
  | 26, [.one (.c (.ptr n 0 0))] => match cnt (at_ H n) with
    | some m => some (ct_cok m, [], [n])
    | none => none
  | 35, [.one (.c (.ptr n 0 0)), .one (.c (.int _ a))] => match cnt (at_ H n) with
    | some m => some (ct_cadd m a, [], [n])
    | none => none
  | 15, [.one (.c (.slc n 0 len none)), .one (.c (.slc m 0 len' none))] => match getL .cell (at_ H n), getL .int (at_ H m) with
    | some l, some q => some (ct_lworst l q, [], [n, m])
    | _, _ => none
  | 15, [.one (.c (.slc n 0 len none)), .one (.c .nils)] => match getL .cell (at_ H n) with
    | some l => some (ct_lworst l [], [.int], [n, H.length])
    | none => none
  | 15, [.one (.c .nils), .one (.c (.slc m 0 len' none))] => match getL .int (at_ H m) with
    | some q => some (ct_lworst [] q, [.cell], [H.length, m])
    | none => none
  | 15, [.one (.c .nils), .one (.c .nils)] => some (ct_lworst [] [], [.cell, .int], [H.length, H.length + 1])
  | f, args => tab2.pick f args H, fun f args H ct ks τ h => by
    split at h
    · split at h
      · cases h; exact contains_ok _ _
      · cases h
    · cases h; exact many_ok _
    · split at h
      · cases h; exact cok_ok _
      · cases h
    · split at h
      · cases h; exact cadd_ok _ _
      · cases h
    · split at h
      · cases h; exact lworst_ok _ _
      · cases h
    · split at h
      · cases h; exact lworst_ok _ _
      · cases h
    · split at h
      · cases h; exact lworst_ok _ _
      · cases h
    · cases h; exact lworst_ok _ _
    · exact tab2.ok _ _ _ _ _ _ h⟩
def ct_ctext (m : Int) (s : ByteArray) : Ct KK := { need := i64ok m ∧ i64ok s.size, pre := [.cells 72 [.int .i64 m]], args := [ptr0, .c (.str s)], Y := Unit, ok := fun _ => True, ret := fun _ => .tup [], post := fun _ => [.cells 72 [.int .i64 (countF (countF m 1) s.size)]] }
def gA (l : List Cell) : Nat → List Int
  | 0 => []
  | i + 1 => if ¬ (rd l i cell0).take ≤ (rd l i cell0).keep ∧ (rd l i cell0).what = 3 then gA l i ++ [(i : Int)] else gA l i
def gB (l : List Cell) : Nat → List Int
  | 0 => []
  | i + 1 => if ¬ (rd l i cell0).take ≤ (rd l i cell0).keep ∧ ((rd l i cell0).what = 1 ∨ (rd l i cell0).what = 2 ∨ (rd l i cell0).what = 5) then gB l i ++ [(i : Int)] else gB l i
def ct_growing (l : List Cell) : Ct KK := { need := l.length ≤ 300, pre := [.ro .cell l], args := [.c (.slc 0 0 l.length none)], Y := Unit, ok := fun _ => True, ret := fun _ => .tup [.c (.slc 1 0 (gA l l.length).length none), .c (.slc 2 0 (gB l l.length).length none)], post := fun _ => [.gone, .arr .int (gA l l.length), .arr .int (gB l l.length)] }
def inv_growing (l : List Cell) : Inv KK := { X := Nat, fr := fun i => [.c (.slc 0 0 l.length none), .any, .any, .any, .c (.slc 1 0 (gA l i).length none), .c (.slc 2 0 (gB l i).length none), i64 i] ++ anys 38, H := fun i => [.ro .cell l, .arr .int (gA l i), .arr .int (gB l i)], ok := fun i => i ≤ l.length, meas := fun i : Nat => l.length - i }
theorem vc_growing (l : List Cell) : evFn tab3 (ann1 (inv_growing l)) Try.f13 (ct_growing l) = ( Enter 1 (inv_growing l) (fun (x : Nat) => True) [VV.one (V1.c (C.slc 0 0 l.length none)), VV.any, VV.one (V1.c C.nils), VV.one (V1.c C.nils), VV.one (V1.c C.nils), VV.one (V1.c C.nils), i64 (0 : Int),
 VV.any, VV.any, VV.any, VV.any, VV.any, VV.any, VV.any, VV.any, VV.any, VV.any, VV.any, VV.any, VV.any, VV.any, VV.any, VV.any, VV.any, VV.any, VV.any, VV.any, VV.any, VV.any, VV.any, VV.any, VV.any, VV.any,
 VV.any, VV.any, VV.any, VV.any, VV.any, VV.any, VV.any, VV.any, VV.any, VV.any, VV.any, VV.any] [Atom.ro Kd.cell l] ∧ ∀ (z : Nat), z ≤ l.length → ite2 (decide ((↑z : Int) < (↑l.length : Int))) (((0 : Int)
 ≤ (↑z : Int) ∧ (↑z : Int) < (↑l.length : Int)) ∧ 0 + (↑z : Int).toNat < l.length ∧ True ∧ 0 + (↑z : Int).toNat < l.length ∧ ((0 : Int) ≤ (↑z : Int) ∧ (↑z : Int) < (↑l.length : Int)) ∧ 0 + (↑z : Int).toNat
 < l.length ∧ True ∧ 0 + (↑z : Int).toNat < l.length ∧ ite2 (decide ((rd l (0 + (↑z : Int).toNat) (KK.dflt Kd.cell)).take ≤ (rd l (0 + (↑z : Int).toNat) (KK.dflt Kd.cell)).keep)) (True ∧ i64ok ((↑z : Int)
 + (1 : Int)) ∧ Enter 1 (inv_growing l) (fun (z' : Nat) => l.length - z' < l.length - z) [VV.one (V1.c (C.slc 0 0 l.length none)), VV.any, VV.any, VV.any, VV.one (V1.c (C.slc 1 0 (gA l z).length none)),
 VV.one (V1.c (C.slc 2 0 (gB l z).length none)), i64 ((↑z : Int) + (1 : Int)), i64 (↑z : Int), VV.one (V1.c (C.slc 0 0 l.length none)), i64 (↑l.length : Int), boolv true, i64 (↑z : Int), i64 ((↑z : Int)
 + (1 : Int)), VV.one (V1.c (C.slc 0 0 l.length none)), i64 (↑z : Int), VV.one (V1.c (C.ptr 0 (0 + (↑z : Int).toNat) 0)), VV.one (V1.c (C.ptr 0 (0 + (↑z : Int).toNat) 5)), i64 (rd l (0 + (↑z : Int).toNat)
 (KK.dflt Kd.cell)).take, VV.one (V1.c (C.slc 0 0 l.length none)), i64 (↑z : Int), VV.one (V1.c (C.ptr 0 (0 + (↑z : Int).toNat) 0)), VV.one (V1.c (C.ptr 0 (0 + (↑z : Int).toNat) 4)), i64 (rd l (0 + (↑z
 : Int).toNat) (KK.dflt Kd.cell)).keep, boolv true, VV.any, VV.any, VV.any, VV.any, VV.any, VV.any, VV.any, VV.any, VV.any, VV.any, VV.any, VV.any, VV.any, VV.any, VV.any, VV.any, VV.any, VV.any, VV.any,
 VV.any, VV.any] [Atom.ro Kd.cell l, Atom.arr Kd.int (gA l z), Atom.arr Kd.int (gB l z)]) (True ∧ ((0 : Int) ≤ (↑z : Int) ∧ (↑z : Int) < (↑l.length : Int)) ∧ 0 + (↑z : Int).toNat < l.length ∧ True ∧ 0 +
 (↑z : Int).toNat < l.length ∧ ite2 (decide ((rd l (0 + (↑z : Int).toNat) (KK.dflt Kd.cell)).what = (3 : Int))) ((gA l z).length = (gA l z).length ∧ (1 ≤ 1 ∧ True) ∧ ((gA l z).length + 1) * 8 ≤ 140737488355328
 ∧ i64ok ((↑z : Int) + (1 : Int)) ∧ Enter 1 (inv_growing l) (fun (z' : Nat) => l.length - z' < l.length - z) [VV.one (V1.c (C.slc 0 0 l.length none)), VV.any, VV.any, VV.any, VV.one (V1.c (C.slc 4 0 ((gA
 l z).length + 1) none)), VV.one (V1.c (C.slc 2 0 (gB l z).length none)), i64 ((↑z : Int) + (1 : Int)), i64 (↑z : Int), VV.one (V1.c (C.slc 0 0 l.length none)), i64 (↑l.length : Int), boolv true, i64 (↑z
 : Int), i64 ((↑z : Int) + (1 : Int)), VV.one (V1.c (C.slc 0 0 l.length none)), i64 (↑z : Int), VV.one (V1.c (C.ptr 0 (0 + (↑z : Int).toNat) 0)), VV.one (V1.c (C.ptr 0 (0 + (↑z : Int).toNat) 5)), i64 (rd
 l (0 + (↑z : Int).toNat) (KK.dflt Kd.cell)).take, VV.one (V1.c (C.slc 0 0 l.length none)), i64 (↑z : Int), VV.one (V1.c (C.ptr 0 (0 + (↑z : Int).toNat) 0)), VV.one (V1.c (C.ptr 0 (0 + (↑z : Int).toNat)
 4)), i64 (rd l (0 + (↑z : Int).toNat) (KK.dflt Kd.cell)).keep, boolv false, VV.one (V1.c (C.slc 0 0 l.length none)), i64 (↑z : Int), VV.one (V1.c (C.ptr 0 (0 + (↑z : Int).toNat) 0)), VV.one (V1.c (C.ptr
 0 (0 + (↑z : Int).toNat) 1)), i64 (rd l (0 + (↑z : Int).toNat) (KK.dflt Kd.cell)).what, boolv true, boolv true, VV.one (V1.c (C.slc 1 0 (gA l z).length none)), i64 (↑z : Int), VV.one (V1.c (C.slc 3 0 1
 none)), VV.one (V1.c (C.slc 4 0 ((gA l z).length + 1) none)), VV.any, VV.any, VV.any, VV.any, VV.any, VV.any, VV.any, VV.any, VV.any, VV.any] [Atom.ro Kd.cell l, Atom.gone, Atom.arr Kd.int (gB l z), Atom.arr
 Kd.int [(↑z : Int)], Atom.arr Kd.int (gA l z ++ [(↑z : Int)])]) (ite2 (decide ((rd l (0 + (↑z : Int).toNat) (KK.dflt Kd.cell)).what = (1 : Int))) ((gB l z).length = (gB l z).length ∧ (1 ≤ 1 ∧ True) ∧ ((gB
 l z).length + 1) * 8 ≤ 140737488355328 ∧ i64ok ((↑z : Int) + (1 : Int)) ∧ Enter 1 (inv_growing l) (fun (z' : Nat) => l.length - z' < l.length - z) [VV.one (V1.c (C.slc 0 0 l.length none)), VV.any, VV.any,
 VV.any, VV.one (V1.c (C.slc 1 0 (gA l z).length none)), VV.one (V1.c (C.slc 4 0 ((gB l z).length + 1) none)), i64 ((↑z : Int) + (1 : Int)), i64 (↑z : Int), VV.one (V1.c (C.slc 0 0 l.length none)), i64
 (↑l.length : Int), boolv true, i64 (↑z : Int), i64 ((↑z : Int) + (1 : Int)), VV.one (V1.c (C.slc 0 0 l.length none)), i64 (↑z : Int), VV.one (V1.c (C.ptr 0 (0 + (↑z : Int).toNat) 0)), VV.one (V1.c (C.ptr
 0 (0 + (↑z : Int).toNat) 5)), i64 (rd l (0 + (↑z : Int).toNat) (KK.dflt Kd.cell)).take, VV.one (V1.c (C.slc 0 0 l.length none)), i64 (↑z : Int), VV.one (V1.c (C.ptr 0 (0 + (↑z : Int).toNat) 0)), VV.one
 (V1.c (C.ptr 0 (0 + (↑z : Int).toNat) 4)), i64 (rd l (0 + (↑z : Int).toNat) (KK.dflt Kd.cell)).keep, boolv false, VV.one (V1.c (C.slc 0 0 l.length none)), i64 (↑z : Int), VV.one (V1.c (C.ptr 0 (0 + (↑z
 : Int).toNat) 0)), VV.one (V1.c (C.ptr 0 (0 + (↑z : Int).toNat) 1)), i64 (rd l (0 + (↑z : Int).toNat) (KK.dflt Kd.cell)).what, boolv false, boolv false, VV.any, VV.any, VV.any, VV.any, boolv true, boolv
 true, VV.any, VV.any, VV.one (V1.c (C.slc 2 0 (gB l z).length none)), i64 (↑z : Int), VV.one (V1.c (C.slc 3 0 1 none)), VV.one (V1.c (C.slc 4 0 ((gB l z).length + 1) none)), VV.any, VV.any] [Atom.ro Kd.cell
 l, Atom.arr Kd.int (gA l z), Atom.gone, Atom.arr Kd.int [(↑z : Int)], Atom.arr Kd.int (gB l z ++ [(↑z : Int)])]) (ite2 (decide ((rd l (0 + (↑z : Int).toNat) (KK.dflt Kd.cell)).what = (2 : Int))) ((gB l
 z).length = (gB l z).length ∧ (1 ≤ 1 ∧ True) ∧ ((gB l z).length + 1) * 8 ≤ 140737488355328 ∧ i64ok ((↑z : Int) + (1 : Int)) ∧ Enter 1 (inv_growing l) (fun (z' : Nat) => l.length - z' < l.length - z) [VV.one
 (V1.c (C.slc 0 0 l.length none)), VV.any, VV.any, VV.any, VV.one (V1.c (C.slc 1 0 (gA l z).length none)), VV.one (V1.c (C.slc 4 0 ((gB l z).length + 1) none)), i64 ((↑z : Int) + (1 : Int)), i64 (↑z : Int),
 VV.one (V1.c (C.slc 0 0 l.length none)), i64 (↑l.length : Int), boolv true, i64 (↑z : Int), i64 ((↑z : Int) + (1 : Int)), VV.one (V1.c (C.slc 0 0 l.length none)), i64 (↑z : Int), VV.one (V1.c (C.ptr 0
 (0 + (↑z : Int).toNat) 0)), VV.one (V1.c (C.ptr 0 (0 + (↑z : Int).toNat) 5)), i64 (rd l (0 + (↑z : Int).toNat) (KK.dflt Kd.cell)).take, VV.one (V1.c (C.slc 0 0 l.length none)), i64 (↑z : Int), VV.one (V1.c
 (C.ptr 0 (0 + (↑z : Int).toNat) 0)), VV.one (V1.c (C.ptr 0 (0 + (↑z : Int).toNat) 4)), i64 (rd l (0 + (↑z : Int).toNat) (KK.dflt Kd.cell)).keep, boolv false, VV.one (V1.c (C.slc 0 0 l.length none)), i64
 (↑z : Int), VV.one (V1.c (C.ptr 0 (0 + (↑z : Int).toNat) 0)), VV.one (V1.c (C.ptr 0 (0 + (↑z : Int).toNat) 1)), i64 (rd l (0 + (↑z : Int).toNat) (KK.dflt Kd.cell)).what, boolv false, boolv false, VV.any,
 VV.any, VV.any, VV.any, boolv true, boolv false, boolv true, VV.any, VV.one (V1.c (C.slc 2 0 (gB l z).length none)), i64 (↑z : Int), VV.one (V1.c (C.slc 3 0 1 none)), VV.one (V1.c (C.slc 4 0 ((gB l z).length
 + 1) none)), VV.any, VV.any] [Atom.ro Kd.cell l, Atom.arr Kd.int (gA l z), Atom.gone, Atom.arr Kd.int [(↑z : Int)], Atom.arr Kd.int (gB l z ++ [(↑z : Int)])]) (ite2 (decide ((rd l (0 + (↑z : Int).toNat)
 (KK.dflt Kd.cell)).what = (5 : Int))) ((gB l z).length = (gB l z).length ∧ (1 ≤ 1 ∧ True) ∧ ((gB l z).length + 1) * 8 ≤ 140737488355328 ∧ i64ok ((↑z : Int) + (1 : Int)) ∧ Enter 1 (inv_growing l) (fun (z'
 : Nat) => l.length - z' < l.length - z) [VV.one (V1.c (C.slc 0 0 l.length none)), VV.any, VV.any, VV.any, VV.one (V1.c (C.slc 1 0 (gA l z).length none)), VV.one (V1.c (C.slc 4 0 ((gB l z).length + 1) none)),
 i64 ((↑z : Int) + (1 : Int)), i64 (↑z : Int), VV.one (V1.c (C.slc 0 0 l.length none)), i64 (↑l.length : Int), boolv true, i64 (↑z : Int), i64 ((↑z : Int) + (1 : Int)), VV.one (V1.c (C.slc 0 0 l.length
 none)), i64 (↑z : Int), VV.one (V1.c (C.ptr 0 (0 + (↑z : Int).toNat) 0)), VV.one (V1.c (C.ptr 0 (0 + (↑z : Int).toNat) 5)), i64 (rd l (0 + (↑z : Int).toNat) (KK.dflt Kd.cell)).take, VV.one (V1.c (C.slc
 0 0 l.length none)), i64 (↑z : Int), VV.one (V1.c (C.ptr 0 (0 + (↑z : Int).toNat) 0)), VV.one (V1.c (C.ptr 0 (0 + (↑z : Int).toNat) 4)), i64 (rd l (0 + (↑z : Int).toNat) (KK.dflt Kd.cell)).keep, boolv
 false, VV.one (V1.c (C.slc 0 0 l.length none)), i64 (↑z : Int), VV.one (V1.c (C.ptr 0 (0 + (↑z : Int).toNat) 0)), VV.one (V1.c (C.ptr 0 (0 + (↑z : Int).toNat) 1)), i64 (rd l (0 + (↑z : Int).toNat) (KK.dflt
 Kd.cell)).what, boolv false, boolv false, VV.any, VV.any, VV.any, VV.any, boolv true, boolv false, boolv false, boolv true, VV.one (V1.c (C.slc 2 0 (gB l z).length none)), i64 (↑z : Int), VV.one (V1.c
 (C.slc 3 0 1 none)), VV.one (V1.c (C.slc 4 0 ((gB l z).length + 1) none)), VV.any, VV.any] [Atom.ro Kd.cell l, Atom.arr Kd.int (gA l z), Atom.gone, Atom.arr Kd.int [(↑z : Int)], Atom.arr Kd.int (gB l z
 ++ [(↑z : Int)])]) (i64ok ((↑z : Int) + (1 : Int)) ∧ Enter 1 (inv_growing l) (fun (z' : Nat) => l.length - z' < l.length - z) [VV.one (V1.c (C.slc 0 0 l.length none)), VV.any, VV.any, VV.any, VV.one (V1.c
 (C.slc 1 0 (gA l z).length none)), VV.one (V1.c (C.slc 2 0 (gB l z).length none)), i64 ((↑z : Int) + (1 : Int)), i64 (↑z : Int), VV.one (V1.c (C.slc 0 0 l.length none)), i64 (↑l.length : Int), boolv true,
 i64 (↑z : Int), i64 ((↑z : Int) + (1 : Int)), VV.one (V1.c (C.slc 0 0 l.length none)), i64 (↑z : Int), VV.one (V1.c (C.ptr 0 (0 + (↑z : Int).toNat) 0)), VV.one (V1.c (C.ptr 0 (0 + (↑z : Int).toNat) 5)),
 i64 (rd l (0 + (↑z : Int).toNat) (KK.dflt Kd.cell)).take, VV.one (V1.c (C.slc 0 0 l.length none)), i64 (↑z : Int), VV.one (V1.c (C.ptr 0 (0 + (↑z : Int).toNat) 0)), VV.one (V1.c (C.ptr 0 (0 + (↑z : Int).toNat)
 4)), i64 (rd l (0 + (↑z : Int).toNat) (KK.dflt Kd.cell)).keep, boolv false, VV.one (V1.c (C.slc 0 0 l.length none)), i64 (↑z : Int), VV.one (V1.c (C.ptr 0 (0 + (↑z : Int).toNat) 0)), VV.one (V1.c (C.ptr
 0 (0 + (↑z : Int).toNat) 1)), i64 (rd l (0 + (↑z : Int).toNat) (KK.dflt Kd.cell)).what, boolv false, boolv false, VV.any, VV.any, VV.any, VV.any, boolv false, boolv false, boolv false, boolv false, VV.any,
 VV.any, VV.any, VV.any, VV.any, VV.any] [Atom.ro Kd.cell l, Atom.arr Kd.int (gA l z), Atom.arr Kd.int (gB l z)])))))) (EndsAs 1 (ct_growing l) (VV.tup [V1.c (C.slc 1 0 (gA l z).length none), V1.c (C.slc
 2 0 (gB l z).length none)]) [Atom.ro Kd.cell l, Atom.arr Kd.int (gA l z), Atom.arr Kd.int (gB l z)])) := by kernel_rfl
theorem vc_ctext (m : Int) (s : ByteArray) : evFn tab3 ann0 Try.f27 (ct_ctext m s) = ( (i64ok m ∧ i64ok (1 : Int) ∧ (0 : Int) ≤ (1 : Int)) ∧ Into (K := KK) 0 [] [0] [VV.one (V1.c (C.ptr 0 0 0)), i64 (1 : Int)] [Atom.cells (72 : TypeId) [C.int .i64 m]] [VV.one (V1.c (C.ptr 0 0 0)), i64 (1
 : Int)] [Atom.cells (72 : TypeId) [C.int .i64 m]] ∧ ∀ (y : Unit), True → (i64ok (countF m (1 : Int)) ∧ i64ok (↑s.size : Int) ∧ (0 : Int) ≤ (↑s.size : Int)) ∧ Into (K := KK) 0 [] [0] [VV.one (V1.c (C.ptr
 0 0 0)), i64 (↑s.size : Int)] [Atom.cells (72 : TypeId) [C.int .i64 (countF m (1 : Int))]] [VV.one (V1.c (C.ptr 0 0 0)), i64 (↑s.size : Int)] [Atom.cells (72 : TypeId) [C.int .i64 (countF m (1 : Int))]]
 ∧ ∀ (y : Unit), True → EndsAs 1 (ct_ctext m s) (VV.tup []) [Atom.cells (72 : TypeId) [C.int .i64 (countF (countF m (1 : Int)) (↑s.size : Int))]]) := by kernel_rfl
theorem countF_ok {m n : Int} (hm : i64ok m) (hn : i64ok n) (h0 : 0 ≤ n) : i64ok (countF m n) := by
  unfold countF i64ok at *; split <;> omega
theorem ctext_ok (m : Int) (s : ByteArray) : CtOk Try.prog 27 (ct_ctext m s) := CtOk_of KK_ok tab3 ann0 (fn := Try.f27) rfl (fun _ _ => rfl) fun hn => by
  obtain ⟨hm, hs⟩ := hn
  rw [vc_ctext]
  have h1 : i64ok 1 := ⟨by decide, by decide⟩
  have h2 := countF_ok hm h1 (by decide)
  refine ⟨⟨hm, h1, by decide⟩, into_mk (by kernel_rfl) ?_ ?_, fun _ _ => ⟨⟨h2, hs, by omega⟩, into_mk (by kernel_rfl) ?_ ?_, fun _ _ => ⟨(), [], [0], trivial, ?_⟩⟩⟩ <;> (repeat' first | exact trivial | exact rfl | apply And.intro)
theorem gA_len (l : List Cell) : ∀ i, (gA l i).length ≤ i
  | 0 => by simp [gA]
  | i + 1 => by have := gA_len l i; unfold gA; split <;> simp <;> omega
theorem gB_len (l : List Cell) : ∀ i, (gB l i).length ≤ i
  | 0 => by simp [gB]
  | i + 1 => by have := gB_len l i; unfold gB; split <;> simp <;> omega
theorem growing_ok (l : List Cell) : CtOk Try.prog 13 (ct_growing l) := CtOk_of KK_ok tab3 (ann1 (inv_growing l)) (fn := Try.f13) rfl (fun _ _ => rfl) fun hn => by
  have hn : l.length ≤ 300 := hn
  rw [vc_growing]
  simp only [Int.toNat_natCast, Nat.zero_add]
  refine ⟨⟨(0 : Nat), [.int, .int], [0, 1, 2], Nat.zero_le _, trivial, into_mk (by kernel_rfl) ?_ ?_⟩, fun z hz => ite2_decide (fun hz1 => ?_) (fun hz1 => ?_)⟩
  · (repeat' first | exact trivial | exact rfl | apply And.intro)
  · (repeat' first | exact trivial | exact rfl | apply And.intro)
  · have hi : i64ok ((z : Int) + 1) := by unfold i64ok; omega
    have la := gA_len l z
    have lb := gB_len l z
    have hz' : z + 1 ≤ l.length := by omega
    have hm : l.length - (z + 1) < l.length - z := by omega
    refine ⟨by omega, by omega, trivial, by omega, by omega, by omega, trivial, by omega, ite2_decide (fun h1 => ?_) (fun h1 => ?_)⟩
    · have eA : gA l (z + 1) = gA l z := if_neg fun h => h.1 h1
      have eB : gB l (z + 1) = gB l z := if_neg fun h => h.1 h1
      refine ⟨trivial, hi, ⟨(z + 1 : Nat), [], [0, 1, 2], hz', hm, into_mk (by kernel_rfl) ?_ ?_⟩⟩
      · (repeat' first | exact trivial | exact rfl | apply And.intro)
        all_goals first | (rw [eA]; done) | (rw [eB]; done) | (rw [eA]; exact rfl) | (rw [eB]; exact rfl)
      · (repeat' first | exact trivial | exact rfl | apply And.intro)
        all_goals first | (rw [eA]; done) | (rw [eB]; done) | (rw [eA]; exact rfl) | (rw [eB]; exact rfl)
    · refine ⟨trivial, by omega, by omega, trivial, by omega, ite2_decide (fun h3 => ?_) (fun h3 => ?_)⟩
      · have eA : gA l (z + 1) = gA l z ++ [(z : Int)] := if_pos ⟨h1, h3⟩
        have eB : gB l (z + 1) = gB l z := if_neg fun h => by have h3' : (rd l z cell0).what = 3 := h3; omega
        refine ⟨by simp, by simp, by omega, hi, ⟨(z + 1 : Nat), [], [0, 4, 2], hz', hm, into_mk (by kernel_rfl) ?_ ?_⟩⟩
        · (repeat' first | exact trivial | exact rfl | apply And.intro)
          all_goals first | (rw [eB]; done) | (rw [eA]; exact rfl) | (rw [eB]; exact rfl) | (rw [eA, List.length_append]; exact rfl)
        · (repeat' first | exact trivial | exact rfl | apply And.intro)
          all_goals first | (rw [eA]; exact rfl) | (rw [eB]; exact rfl)
      · have eA : gA l (z + 1) = gA l z := if_neg fun h => h3 h.2
        have bb : (rd l z cell0).what = 1 ∨ (rd l z cell0).what = 2 ∨ (rd l z cell0).what = 5 → gB l (z + 1) = gB l z ++ [(z : Int)] := fun h => if_pos ⟨h1, h⟩
        refine ite2_decide (fun h4 => ?_) (fun h4 => ite2_decide (fun h5 => ?_) (fun h5 => ite2_decide (fun h6 => ?_) (fun h6 => ?_)))
        · have eB := bb (.inl h4)
          refine ⟨by simp, by simp, by omega, hi, ⟨(z + 1 : Nat), [], [0, 1, 4], hz', hm, into_mk (by kernel_rfl) ?_ ?_⟩⟩ <;> (repeat' first | exact trivial | exact rfl | apply And.intro)
          all_goals first | (rw [eA]; done) | (rw [eA]; exact rfl) | (rw [eB]; exact rfl) | (rw [eB, List.length_append]; exact rfl)
        · have eB := bb (.inr (.inl h5))
          refine ⟨by simp, by simp, by omega, hi, ⟨(z + 1 : Nat), [], [0, 1, 4], hz', hm, into_mk (by kernel_rfl) ?_ ?_⟩⟩ <;> (repeat' first | exact trivial | exact rfl | apply And.intro)
          all_goals first | (rw [eA]; done) | (rw [eA]; exact rfl) | (rw [eB]; exact rfl) | (rw [eB, List.length_append]; exact rfl)
        · have eB := bb (.inr (.inr h6))
          refine ⟨by simp, by simp, by omega, hi, ⟨(z + 1 : Nat), [], [0, 1, 4], hz', hm, into_mk (by kernel_rfl) ?_ ?_⟩⟩ <;> (repeat' first | exact trivial | exact rfl | apply And.intro)
          all_goals first | (rw [eA]; done) | (rw [eA]; exact rfl) | (rw [eB]; exact rfl) | (rw [eB, List.length_append]; exact rfl)
        · have eB : gB l (z + 1) = gB l z := if_neg fun h => by rcases h.2 with h | h | h <;> contradiction
          refine ⟨hi, ⟨(z + 1 : Nat), [], [0, 1, 2], hz', hm, into_mk (by kernel_rfl) ?_ ?_⟩⟩ <;> (repeat' first | exact trivial | exact rfl | apply And.intro)
          all_goals first | (rw [eA]; done) | (rw [eB]; done) | (rw [eA]; exact rfl) | (rw [eB]; exact rfl)
  · have e : z = l.length := by omega
    subst e
    refine ⟨(), [], [0, 1, 2], trivial, ?_⟩
    (repeat' first | exact trivial | exact rfl | apply And.intro)
end Go.Proofs.Ytljamcgngojaeaa.T
