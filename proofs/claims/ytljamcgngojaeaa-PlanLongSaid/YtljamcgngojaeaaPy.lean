/- The plan: fits, beginning. -/
import Derived.Test.YtljamcgngojaeaaPx
namespace Go.Proofs.Ytljamcgngojaeaa.T
open Go.Proofs.Ytljamcgngojaeaa.E
set_option maxRecDepth 100000
set_option linter.unusedVariables false
abbrev four (f : Four) : List C := [.int .i64 f.n0, .int .i64 f.b0, .int .i64 f.n1, .int .i64 f.b1]
def ct_fitsB (a f : Four) : Ct KK := { need := True, pre := [], args := [.agg [.int .i64 a.n0, .int .i64 a.b0, .int .i64 a.n1, .int .i64 a.b1], .agg [.int .i64 f.n0, .int .i64 f.b0, .int .i64 f.n1, .int .i64 f.b1]], Y := Unit, ok := fun _ => True, ret := fun _ => boolv (fitsB a f), post := fun _ => [] }
abbrev HB (a f : Four) : VH KK := [.cells 32 [.int .i64 a.n0, .int .i64 a.b0, .int .i64 a.n1, .int .i64 a.b1], .cells 32 [.int .i64 f.n0, .int .i64 f.b0, .int .i64 f.n1, .int .i64 f.b1]]
abbrev frB (v : VV) : List VV := [.any, .any, .c (.ptr 0 0 0), .c (.ptr 1 0 0), .any, v] ++ anys 26
def invB2 (a f : Four) : Inv KK := { X := Nat, fr := fun v => frB (i64 v), H := fun _ => HB a f, ok := fun v => v ≤ 2 ∧ (0 < v → a.n0 ≤ max f.n0 0 ∧ a.b0 ≤ max f.b0 0) ∧ (1 < v → a.n1 ≤ max f.n1 0 ∧ a.b1 ≤ max f.b1 0), meas := fun v : Nat => 2 - v }
def invB4 (a f : Four) (u v : Int) : Inv KK := { X := Unit, fr := fun _ => frB (i64 u), H := fun _ => HB a f, ok := fun _ => v = u, meas := fun _ => 0 }
def annB (a f : Four) : Ann KK := ⟨fun id _ _ => some (invB2 a f), fun id fr _ => match id, fr.getD 5 .any with
  | 4, .one (.c (.int _ v)) => some (invB4 a f 0 v)
  | 504, .one (.c (.int _ v)) => some (invB4 a f 1 v)
  | _, _ => none⟩
def ct_beg (l : List Cell) (its : List Item) (left : List Int) (n0 b0 n1 b1 : Int) (n : Nat) : Ct KK := { need := Cells l ∧ n ≤ its.length ∧ its.length ≤ 100000 ∧ ∀ it ∈ its, 0 ≤ it.cell ∧ it.cell < l.length, pre := [.ro .cell l, .ro .item its, .ro .int left], args := [.agg [.slc 0 0 l.length none], .agg [.slc 1 0 its.length none, .slc 2 0 left.length none, .int .i64 n0, .int .i64 b0, .int .i64 n1, .int .i64 b1], i64 n], Y := Unit, ok := fun _ => True, ret := fun _ => .agg [.slc 3 0 n none], post := fun _ => [.gone, .gone, .gone, .arr .cell (begF l its n)] }
def invG3 (l : List Cell) (its : List Item) (left : List Int) (n0 b0 n1 b1 : Int) (n : Nat) : Inv KK := { X := Nat, fr := fun i => [.any, .any, i64 n, .c (.ptr 3 0 0), .c (.ptr 4 0 0), .any, .c (.ptr 5 0 0), .c (.ptr 6 0 0), i64 i] ++ anys 25, H := fun i => [.ro .cell l, .ro .item its, .ro .int left, .cells 25 [.slc 0 0 l.length none], .cells 34 [.slc 1 0 its.length none, .slc 2 0 left.length none, .int .i64 n0, .int .i64 b0, .int .i64 n1, .int .i64 b1], .cells 25 [.nils], .cells 25 [.slc 7 0 i none], .arr .cell (begF l its i)], ok := fun i => i ≤ n, meas := fun i : Nat => n - i }
theorem vc_fitsB (a f : Four) : evFn tab10 (annB a f) Try.f23 (ct_fitsB a f) = ( Enter 0 (invB2 a f) (fun (x : Nat) => True) [VV.one (V1.agg [C.int .i64 a.n0, C.int .i64 a.b0, C.int .i64 a.n1, C.int .i64 a.b1]), VV.one (V1.agg [C.int .i64 f.n0, C.int .i64 f.b0, C.int .i64 f.n1, C.int
 .i64 f.b1]), VV.one (V1.c (C.ptr 0 0 0)), VV.one (V1.c (C.ptr 1 0 0)), boolv false, i64 (0 : Int), VV.any, VV.any, VV.any, VV.any, VV.any, VV.any, VV.any, VV.any, VV.any, VV.any, VV.any, VV.any, VV.any,
 VV.any, VV.any, VV.any, VV.any, VV.any, VV.any, VV.any, VV.any, VV.any, VV.any, VV.any, VV.any, VV.any] [Atom.cells 32 [C.int .i64 a.n0, C.int .i64 a.b0, C.int .i64 a.n1, C.int .i64 a.b1], Atom.cells 32
 [C.int .i64 f.n0, C.int .i64 f.b0, C.int .i64 f.n1, C.int .i64 f.b1]] ∧ ∀ (z : Nat), z ≤ 2 ∧ (0 < z → a.n0 ≤ max f.n0 (0 : Int) ∧ a.b0 ≤ max f.b0 (0 : Int)) ∧ (1 < z → a.n1 ≤ max f.n1 (0 : Int) ∧ a.b1
 ≤ max f.b1 (0 : Int)) → ite2 (decide ((↑z : Int) < (2 : Int))) (Enter 0 (invB4 a f (0 : Int) (↑z : Int)) (fun (x : Unit) => True) [VV.any, VV.any, VV.one (V1.c (C.ptr 0 0 0)), VV.one (V1.c (C.ptr 1 0 0)),
 VV.any, i64 (↑z : Int), i64 (↑z : Int), boolv true, VV.any, VV.any, VV.any, VV.any, VV.any, VV.any, VV.any, VV.any, VV.any, VV.any, VV.any, VV.any, VV.any, VV.any, VV.any, VV.any, VV.any, VV.any, VV.any,
 VV.any, VV.any, VV.any, VV.any, VV.any] [Atom.cells 32 [C.int .i64 a.n0, C.int .i64 a.b0, C.int .i64 a.n1, C.int .i64 a.b1], Atom.cells 32 [C.int .i64 f.n0, C.int .i64 f.b0, C.int .i64 f.n1, C.int .i64
 f.b1]] ∨ Enter 0 (invB4 a f (1 : Int) (↑z : Int)) (fun (x : Unit) => True) [VV.any, VV.any, VV.one (V1.c (C.ptr 0 0 0)), VV.one (V1.c (C.ptr 1 0 0)), VV.any, i64 (↑z : Int), i64 (↑z : Int), boolv true,
 VV.any, VV.any, VV.any, VV.any, VV.any, VV.any, VV.any, VV.any, VV.any, VV.any, VV.any, VV.any, VV.any, VV.any, VV.any, VV.any, VV.any, VV.any, VV.any, VV.any, VV.any, VV.any, VV.any, VV.any] [Atom.cells
 32 [C.int .i64 a.n0, C.int .i64 a.b0, C.int .i64 a.n1, C.int .i64 a.b1], Atom.cells 32 [C.int .i64 f.n0, C.int .i64 f.b0, C.int .i64 f.n1, C.int .i64 f.b1]]) (EndsAs 0 (ct_fitsB a f) (boolv true) [Atom.cells
 32 [C.int .i64 a.n0, C.int .i64 a.b0, C.int .i64 a.n1, C.int .i64 a.b1], Atom.cells 32 [C.int .i64 f.n0, C.int .i64 f.b0, C.int .i64 f.n1, C.int .i64 f.b1]]) ∧ (∀ (z_1 : Unit), (↑z : Int) = (0 : Int) →
 ((0 : Int) ≤ (0 : Int) ∧ (0 : Int) < (2 : Int)) ∧ ((0 : Int) ≤ (0 : Int) ∧ (0 : Int) < (2 : Int)) ∧ ite2 (decide (max f.n0 (0 : Int) < a.n0)) (True ∧ EndsAs 0 (ct_fitsB a f) (boolv false) [Atom.cells 32
 [C.int .i64 a.n0, C.int .i64 a.b0, C.int .i64 a.n1, C.int .i64 a.b1], Atom.cells 32 [C.int .i64 f.n0, C.int .i64 f.b0, C.int .i64 f.n1, C.int .i64 f.b1]]) (((0 : Int) ≤ (0 : Int) ∧ (0 : Int) < (2 : Int))
 ∧ ((0 : Int) ≤ (0 : Int) ∧ (0 : Int) < (2 : Int)) ∧ ite2 (decide (max f.b0 (0 : Int) < a.b0)) (True ∧ EndsAs 0 (ct_fitsB a f) (boolv false) [Atom.cells 32 [C.int .i64 a.n0, C.int .i64 a.b0, C.int .i64
 a.n1, C.int .i64 a.b1], Atom.cells 32 [C.int .i64 f.n0, C.int .i64 f.b0, C.int .i64 f.n1, C.int .i64 f.b1]]) (True ∧ i64ok (1 : Int) ∧ Enter 0 (invB2 a f) (fun (z' : Nat) => 2 - z' < 2 - z) [VV.any, VV.any,
 VV.one (V1.c (C.ptr 0 0 0)), VV.one (V1.c (C.ptr 1 0 0)), VV.any, i64 (1 : Int), VV.any, VV.any, i64 (0 : Int), i64 (1 : Int), i64 (0 : Int), VV.one (V1.c (C.ptr 0 0 0)), VV.one (V1.c (C.ptr 0 0 0)), i64
 a.n0, i64 (0 : Int), VV.one (V1.c (C.ptr 1 0 0)), VV.one (V1.c (C.ptr 1 0 0)), i64 f.n0, i64 (max f.n0 (0 : Int)), boolv false, boolv false, i64 (0 : Int), VV.one (V1.c (C.ptr 0 0 0)), VV.one (V1.c (C.ptr
 0 0 1)), i64 a.b0, i64 (0 : Int), VV.one (V1.c (C.ptr 1 0 0)), VV.one (V1.c (C.ptr 1 0 1)), i64 f.b0, i64 (max f.b0 (0 : Int)), boolv false, boolv false] [Atom.cells 32 [C.int .i64 a.n0, C.int .i64 a.b0,
 C.int .i64 a.n1, C.int .i64 a.b1], Atom.cells 32 [C.int .i64 f.n0, C.int .i64 f.b0, C.int .i64 f.n1, C.int .i64 f.b1]]))) ∧ ∀ (z_1 : Unit), (↑z : Int) = (1 : Int) → ((0 : Int) ≤ (1 : Int) ∧ (1 : Int) <
 (2 : Int)) ∧ ((0 : Int) ≤ (1 : Int) ∧ (1 : Int) < (2 : Int)) ∧ ite2 (decide (max f.n1 (0 : Int) < a.n1)) (True ∧ EndsAs 0 (ct_fitsB a f) (boolv false) [Atom.cells 32 [C.int .i64 a.n0, C.int .i64 a.b0,
 C.int .i64 a.n1, C.int .i64 a.b1], Atom.cells 32 [C.int .i64 f.n0, C.int .i64 f.b0, C.int .i64 f.n1, C.int .i64 f.b1]]) (((0 : Int) ≤ (1 : Int) ∧ (1 : Int) < (2 : Int)) ∧ ((0 : Int) ≤ (1 : Int) ∧ (1 :
 Int) < (2 : Int)) ∧ ite2 (decide (max f.b1 (0 : Int) < a.b1)) (True ∧ EndsAs 0 (ct_fitsB a f) (boolv false) [Atom.cells 32 [C.int .i64 a.n0, C.int .i64 a.b0, C.int .i64 a.n1, C.int .i64 a.b1], Atom.cells
 32 [C.int .i64 f.n0, C.int .i64 f.b0, C.int .i64 f.n1, C.int .i64 f.b1]]) (True ∧ i64ok (2 : Int) ∧ Enter 0 (invB2 a f) (fun (z' : Nat) => 2 - z' < 2 - z) [VV.any, VV.any, VV.one (V1.c (C.ptr 0 0 0)),
 VV.one (V1.c (C.ptr 1 0 0)), VV.any, i64 (2 : Int), VV.any, VV.any, i64 (1 : Int), i64 (2 : Int), i64 (1 : Int), VV.one (V1.c (C.ptr 0 0 2)), VV.one (V1.c (C.ptr 0 0 2)), i64 a.n1, i64 (1 : Int), VV.one
 (V1.c (C.ptr 1 0 2)), VV.one (V1.c (C.ptr 1 0 2)), i64 f.n1, i64 (max f.n1 (0 : Int)), boolv false, boolv false, i64 (1 : Int), VV.one (V1.c (C.ptr 0 0 2)), VV.one (V1.c (C.ptr 0 0 3)), i64 a.b1, i64 (1
 : Int), VV.one (V1.c (C.ptr 1 0 2)), VV.one (V1.c (C.ptr 1 0 3)), i64 f.b1, i64 (max f.b1 (0 : Int)), boolv false, boolv false] [Atom.cells 32 [C.int .i64 a.n0, C.int .i64 a.b0, C.int .i64 a.n1, C.int
 .i64 a.b1], Atom.cells 32 [C.int .i64 f.n0, C.int .i64 f.b0, C.int .i64 f.n1, C.int .i64 f.b1]]))) := by kernel_rfl
theorem vc_beg (l : List Cell) (its : List Item) (left : List Int) (n0 b0 n1 b1 : Int) (n : Nat) : evFn tab10 (ann1 (invG3 l its left n0 b0 n1 b1 n)) Try.f24 (ct_beg l its left n0 b0 n1 b1 n) = ( Enter (1 + 1 + 1) (invG3 l its left n0 b0 n1 b1 n) (fun (x : Nat) => True) [VV.one (V1.agg [C.slc 0 0 l.length none]), VV.one (V1.agg [C.slc 1 0 its.length none, C.slc 2 0 left.length none, C.int .i64
 n0, C.int .i64 b0, C.int .i64 n1, C.int .i64 b1]), i64 (↑n : Int), VV.one (V1.c (C.ptr 3 0 0)), VV.one (V1.c (C.ptr 4 0 0)), VV.any, VV.one (V1.c (C.ptr 5 0 0)), VV.one (V1.c (C.ptr 6 0 0)), i64 (0 : Int),
 VV.any, VV.any, VV.any, VV.any, VV.any, VV.any, VV.any, VV.any, VV.any, VV.any, VV.any, VV.any, VV.any, VV.any, VV.any, VV.any, VV.any, VV.any, VV.any, VV.any, VV.any, VV.any, VV.any, VV.any, VV.any] [Atom.ro
 Kd.cell l, Atom.ro Kd.item its, Atom.ro Kd.int left, Atom.cells 25 [C.slc 0 0 l.length none], Atom.cells 34 [C.slc 1 0 its.length none, C.slc 2 0 left.length none, C.int .i64 n0, C.int .i64 b0, C.int .i64
 n1, C.int .i64 b1], Atom.cells 25 [C.nils], Atom.cells 25 [C.nils]] ∧ ∀ (z : Nat), z ≤ n → ite2 (decide ((↑z : Int) < (↑n : Int))) (((0 : Int) ≤ (↑z : Int) ∧ (↑z : Int) < (↑its.length : Int)) ∧ 0 + (↑z
 : Int).toNat < its.length ∧ True ∧ 0 + (↑z : Int).toNat < its.length ∧ ((0 : Int) ≤ (rd its (0 + (↑z : Int).toNat) (KK.dflt Kd.item)).cell ∧ (rd its (0 + (↑z : Int).toNat) (KK.dflt Kd.item)).cell < (↑l.length
 : Int)) ∧ 0 + (rd its (0 + (↑z : Int).toNat) (KK.dflt Kd.item)).cell.toNat < l.length ∧ True ∧ 0 + (rd its (0 + (↑z : Int).toNat) (KK.dflt Kd.item)).cell.toNat < l.length ∧ True ∧ True ∧ z = (begF l its
 z).length ∧ (1 ≤ 1 ∧ True) ∧ ((begF l its z).length + 1) * 88 ≤ 140737488355328 ∧ i64ok ((↑z : Int) + (1 : Int)) ∧ Enter (1 + 1 + 1) (invG3 l its left n0 b0 n1 b1 n) (fun (z' : Nat) => n - z' < n - z)
 [VV.any, VV.any, i64 (↑n : Int), VV.one (V1.c (C.ptr 3 0 0)), VV.one (V1.c (C.ptr 4 0 0)), VV.any, VV.one (V1.c (C.ptr 5 0 0)), VV.one (V1.c (C.ptr 6 0 0)), i64 ((↑z : Int) + (1 : Int)), VV.one (V1.c (C.ptr
 8 0 0)), i64 (↑z : Int), i64 (↑n : Int), boolv true, i64 (↑z : Int), i64 ((↑z : Int) + (1 : Int)), VV.one (V1.c (C.ptr 3 0 0)), VV.one (V1.c (C.slc 0 0 l.length none)), VV.one (V1.c (C.ptr 4 0 0)), VV.one
 (V1.c (C.slc 1 0 its.length none)), i64 (↑z : Int), VV.one (V1.c (C.ptr 1 (0 + (↑z : Int).toNat) 0)), VV.one (V1.c (C.ptr 1 (0 + (↑z : Int).toNat) 1)), i64 (rd its (0 + (↑z : Int).toNat) (KK.dflt Kd.item)).cell,
 VV.one (V1.c (C.ptr 0 (0 + (rd its (0 + (↑z : Int).toNat) (KK.dflt Kd.item)).cell.toNat) 0)), VV.one (V1.agg [C.str (rd l (0 + (rd its (0 + (↑z : Int).toNat) (KK.dflt Kd.item)).cell.toNat) (KK.dflt Kd.cell)).path,
 C.int .i64 (rd l (0 + (rd its (0 + (↑z : Int).toNat) (KK.dflt Kd.item)).cell.toNat) (KK.dflt Kd.cell)).what, C.int .i64 (rd l (0 + (rd its (0 + (↑z : Int).toNat) (KK.dflt Kd.item)).cell.toNat) (KK.dflt
 Kd.cell)).side, C.int .i64 (rd l (0 + (rd its (0 + (↑z : Int).toNat) (KK.dflt Kd.item)).cell.toNat) (KK.dflt Kd.cell)).mode, C.int .i64 (rd l (0 + (rd its (0 + (↑z : Int).toNat) (KK.dflt Kd.item)).cell.toNat)
 (KK.dflt Kd.cell)).keep, C.int .i64 (rd l (0 + (rd its (0 + (↑z : Int).toNat) (KK.dflt Kd.item)).cell.toNat) (KK.dflt Kd.cell)).take, C.int .i64 (rd l (0 + (rd its (0 + (↑z : Int).toNat) (KK.dflt Kd.item)).cell.toNat)
 (KK.dflt Kd.cell)).names, C.int .i64 (rd l (0 + (rd its (0 + (↑z : Int).toNat) (KK.dflt Kd.item)).cell.toNat) (KK.dflt Kd.cell)).bytes, C.int .i64 (rd l (0 + (rd its (0 + (↑z : Int).toNat) (KK.dflt Kd.item)).cell.toNat)
 (KK.dflt Kd.cell)).hadN, C.int .i64 (rd l (0 + (rd its (0 + (↑z : Int).toNat) (KK.dflt Kd.item)).cell.toNat) (KK.dflt Kd.cell)).hadB]), VV.one (V1.c (C.ptr 8 0 4)), VV.one (V1.c (C.ptr 8 0 5)), VV.one
 (V1.c (C.ptr 6 0 0)), VV.one (V1.c (C.slc 7 0 z none)), VV.one (V1.agg [C.str (rd l (0 + (rd its (0 + (↑z : Int).toNat) (KK.dflt Kd.item)).cell.toNat) (KK.dflt Kd.cell)).path, C.int .i64 (rd l (0 + (rd
 its (0 + (↑z : Int).toNat) (KK.dflt Kd.item)).cell.toNat) (KK.dflt Kd.cell)).what, C.int .i64 (rd l (0 + (rd its (0 + (↑z : Int).toNat) (KK.dflt Kd.item)).cell.toNat) (KK.dflt Kd.cell)).side, C.int .i64
 (rd l (0 + (rd its (0 + (↑z : Int).toNat) (KK.dflt Kd.item)).cell.toNat) (KK.dflt Kd.cell)).mode, C.int .i64 (0 : Int), C.int .i64 (0 : Int), C.int .i64 (rd l (0 + (rd its (0 + (↑z : Int).toNat) (KK.dflt
 Kd.item)).cell.toNat) (KK.dflt Kd.cell)).names, C.int .i64 (rd l (0 + (rd its (0 + (↑z : Int).toNat) (KK.dflt Kd.item)).cell.toNat) (KK.dflt Kd.cell)).bytes, C.int .i64 (rd l (0 + (rd its (0 + (↑z : Int).toNat)
 (KK.dflt Kd.item)).cell.toNat) (KK.dflt Kd.cell)).hadN, C.int .i64 (rd l (0 + (rd its (0 + (↑z : Int).toNat) (KK.dflt Kd.item)).cell.toNat) (KK.dflt Kd.cell)).hadB]), VV.one (V1.c (C.slc 9 0 1 none)),
 VV.one (V1.c (C.slc 10 0 ((begF l its z).length + 1) none)), VV.one (V1.c (C.ptr 6 0 0)), VV.any] [Atom.ro Kd.cell l, Atom.ro Kd.item its, Atom.ro Kd.int left, Atom.cells 25 [C.slc 0 0 l.length none],
 Atom.cells 34 [C.slc 1 0 its.length none, C.slc 2 0 left.length none, C.int .i64 n0, C.int .i64 b0, C.int .i64 n1, C.int .i64 b1], Atom.cells 25 [C.nils], Atom.cells 25 [C.slc 10 0 ((begF l its z).length
 + 1) none], Atom.gone, Atom.cells 44 [C.str (rd l (0 + (rd its (0 + (↑z : Int).toNat) (KK.dflt Kd.item)).cell.toNat) (KK.dflt Kd.cell)).path, C.int .i64 (rd l (0 + (rd its (0 + (↑z : Int).toNat) (KK.dflt
 Kd.item)).cell.toNat) (KK.dflt Kd.cell)).what, C.int .i64 (rd l (0 + (rd its (0 + (↑z : Int).toNat) (KK.dflt Kd.item)).cell.toNat) (KK.dflt Kd.cell)).side, C.int .i64 (rd l (0 + (rd its (0 + (↑z : Int).toNat)
 (KK.dflt Kd.item)).cell.toNat) (KK.dflt Kd.cell)).mode, C.int .i64 (0 : Int), C.int .i64 (0 : Int), C.int .i64 (rd l (0 + (rd its (0 + (↑z : Int).toNat) (KK.dflt Kd.item)).cell.toNat) (KK.dflt Kd.cell)).names,
 C.int .i64 (rd l (0 + (rd its (0 + (↑z : Int).toNat) (KK.dflt Kd.item)).cell.toNat) (KK.dflt Kd.cell)).bytes, C.int .i64 (rd l (0 + (rd its (0 + (↑z : Int).toNat) (KK.dflt Kd.item)).cell.toNat) (KK.dflt
 Kd.cell)).hadN, C.int .i64 (rd l (0 + (rd its (0 + (↑z : Int).toNat) (KK.dflt Kd.item)).cell.toNat) (KK.dflt Kd.cell)).hadB], Atom.arr Kd.cell [(Cell.mk ((rd l (0 + (rd its (0 + (↑z : Int).toNat) (KK.dflt
 Kd.item)).cell.toNat) (KK.dflt Kd.cell)).path) ((rd l (0 + (rd its (0 + (↑z : Int).toNat) (KK.dflt Kd.item)).cell.toNat) (KK.dflt Kd.cell)).what) ((rd l (0 + (rd its (0 + (↑z : Int).toNat) (KK.dflt Kd.item)).cell.toNat)
 (KK.dflt Kd.cell)).side) ((rd l (0 + (rd its (0 + (↑z : Int).toNat) (KK.dflt Kd.item)).cell.toNat) (KK.dflt Kd.cell)).mode) ((0 : Int)) ((0 : Int)) ((rd l (0 + (rd its (0 + (↑z : Int).toNat) (KK.dflt Kd.item)).cell.toNat)
 (KK.dflt Kd.cell)).names) ((rd l (0 + (rd its (0 + (↑z : Int).toNat) (KK.dflt Kd.item)).cell.toNat) (KK.dflt Kd.cell)).bytes) ((rd l (0 + (rd its (0 + (↑z : Int).toNat) (KK.dflt Kd.item)).cell.toNat) (KK.dflt
 Kd.cell)).hadN) ((rd l (0 + (rd its (0 + (↑z : Int).toNat) (KK.dflt Kd.item)).cell.toNat) (KK.dflt Kd.cell)).hadB))], Atom.arr Kd.cell (begF l its z ++ [(Cell.mk ((rd l (0 + (rd its (0 + (↑z : Int).toNat)
 (KK.dflt Kd.item)).cell.toNat) (KK.dflt Kd.cell)).path) ((rd l (0 + (rd its (0 + (↑z : Int).toNat) (KK.dflt Kd.item)).cell.toNat) (KK.dflt Kd.cell)).what) ((rd l (0 + (rd its (0 + (↑z : Int).toNat) (KK.dflt
 Kd.item)).cell.toNat) (KK.dflt Kd.cell)).side) ((rd l (0 + (rd its (0 + (↑z : Int).toNat) (KK.dflt Kd.item)).cell.toNat) (KK.dflt Kd.cell)).mode) ((0 : Int)) ((0 : Int)) ((rd l (0 + (rd its (0 + (↑z :
 Int).toNat) (KK.dflt Kd.item)).cell.toNat) (KK.dflt Kd.cell)).names) ((rd l (0 + (rd its (0 + (↑z : Int).toNat) (KK.dflt Kd.item)).cell.toNat) (KK.dflt Kd.cell)).bytes) ((rd l (0 + (rd its (0 + (↑z : Int).toNat)
 (KK.dflt Kd.item)).cell.toNat) (KK.dflt Kd.cell)).hadN) ((rd l (0 + (rd its (0 + (↑z : Int).toNat) (KK.dflt Kd.item)).cell.toNat) (KK.dflt Kd.cell)).hadB))])]) (EndsAs (1 + 1 + 1) (ct_beg l its left n0
 b0 n1 b1 n) (VV.one (V1.agg [C.slc 7 0 z none])) [Atom.ro Kd.cell l, Atom.ro Kd.item its, Atom.ro Kd.int left, Atom.cells 25 [C.slc 0 0 l.length none], Atom.cells 34 [C.slc 1 0 its.length none, C.slc 2
 0 left.length none, C.int .i64 n0, C.int .i64 b0, C.int .i64 n1, C.int .i64 b1], Atom.cells 25 [C.slc 7 0 z none], Atom.cells 25 [C.slc 7 0 z none], Atom.arr Kd.cell (begF l its z)])) := by kernel_rfl
end Go.Proofs.Ytljamcgngojaeaa.T
