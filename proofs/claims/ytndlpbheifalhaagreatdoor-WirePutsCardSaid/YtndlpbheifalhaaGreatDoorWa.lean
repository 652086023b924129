/- Numbers and texts as bytes. -/
import Derived.Test.YtndlpbheifalhaaGreatDoorK3
namespace Go.Proofs.YtndlpbheifalhaaGreatDoor.T
open Go.Proofs.YtndlpbheifalhaaGreatDoor.E
set_option maxRecDepth 100000
set_option linter.unusedVariables false
/-- A number's bytes. -/
def numF : Nat → Int → List Int
  | 0, n => [n]
  | f + 1, n => if n < 128 then [n] else (n % 128 + 128) :: numF f (n / 128)
def lim : Nat → Int
  | 0 => 2
  | f + 1 => lim f * 128
theorem lim9 : lim 9 = 18446744073709551616 := by decide +kernel
theorem lim_all : ∀ f : Fin 10, lim f.val ≤ 18446744073709551616 := by decide +kernel
theorem numF_len : ∀ (f : Nat) (n : Int), (numF f n).length ≤ f + 1
  | 0, _ => Nat.le_refl _
  | f + 1, n => by
    unfold numF
    split
    · simp
    · have := numF_len f (n / 128); simp; omega
/-- A text's bytes. -/
def strI (s : ByteArray) : List Int := s.data.toList.map fun b => (b.toNat : Int)
theorem flat_u8 (l : List Int) : flat (K := KK) Kd.u8 l = l.map fun x => C.int .u8 x := by
  induction l with
  | nil => rfl
  | cons x t ih =>
    show C.int .u8 x :: flat (K := KK) Kd.u8 t = C.int .u8 x :: t.map _
    exact congrArg _ ih
theorem flat_strI (s : ByteArray) : flat (K := KK) Kd.u8 (strI s) = strC s := by
  rw [flat_u8, strI, strC, List.map_map]; rfl
theorem strI_len (s : ByteArray) : (strI s).length = s.size := by simp [strI]
/-- What a slice holds, by its place. -/
def cont (φ : Bag KK) (x : RS) : List Int := (x.row φ Kd.u8).getD []
theorem cont_of {φ : Bag KK} {x : RS} {l : List Int} (h : x.row φ Kd.u8 = some l) : cont φ x = l := by unfold cont; rw [h]; rfl
def Has (φ : Bag KK) (x : RS) : Prop := x.row φ Kd.u8 = some (cont φ x) ∧ (cont φ x).length ≤ 1000000
theorem Has.of {φ : Bag KK} {x : RS} {l : List Int} (h : x.row φ Kd.u8 = some l) (hl : l.length ≤ 1000000) : Has φ x := by
  unfold Has; rw [cont_of h]; exact ⟨h, hl⟩
theorem Has.nil_ (φ : Bag KK) : Has φ .nil := Has.of rfl (Nat.zero_le _)
/-! ### PutUint -/
def ct_putU (x : RS) (n : Int) (φ : Bag KK) : Ct KK := { need := Has φ x ∧ 0 ≤ n ∧ n < 18446744073709551616, pre := [.bag φ], args := [.c (.rs 5 1 x), .c (.int .u64 n)], Y := Unit, ok := fun _ => True, ret := fun _ => .c (.slc 1 0 (cont φ x ++ numF 9 n).length none), post := fun _ => [.bag φ, .arr .u8 (cont φ x ++ numF 9 n)] }
def inv_putU (x : RS) (n : Int) (φ : Bag KK) : Inv KK := { X := List Int × Int × Nat, fr := fun z => [.any, .c (.int .u64 z.2.1), .any, .any, .any, .c (.slc 1 0 z.1.length none)] ++ anys 17, H := fun z => [.bag φ, .arr .u8 z.1], ok := fun z => z.1 ++ numF z.2.2 z.2.1 = cont φ x ++ numF 9 n ∧ (0 ≤ z.2.1 ∧ z.2.1 < lim z.2.2) ∧ z.2.2 ≤ 9 ∧ z.1.length + z.2.2 ≤ (cont φ x).length + 9, meas := fun z => z.2.2 }
/-! ### the reference's Number -/
def ct_num (n : Int) : Ct KK := { need := 0 ≤ n ∧ n < 18446744073709551616, pre := [], args := [.c (.int .u64 n)], Y := Unit, ok := fun _ => True, ret := fun _ => .c (.slc 0 0 (numF 9 n).length none), post := fun _ => [.arr .u8 (numF 9 n)] }
def inv_num (n : Int) : Inv KK := { X := List Int × Int × Nat, fr := fun z => [.c (.int .u64 z.2.1), .any, .any, .c (.slc 0 0 z.1.length none)] ++ anys 16, H := fun z => [.arr .u8 z.1], ok := fun z => z.1 ++ numF z.2.2 z.2.1 = numF 9 n ∧ (0 ≤ z.2.1 ∧ z.2.1 < lim z.2.2) ∧ z.2.2 ≤ 9 ∧ z.1.length + z.2.2 ≤ 9, meas := fun z => z.2.2 }
/-! ### two lists are the same; one behind the other -/
def ct_same (x y : List Int) : Ct KK := { need := x.length ≤ 2000000 ∧ y.length ≤ 2000000, pre := [.ro .u8 x, .ro .u8 y], args := [.c (.slc 0 0 x.length none), .c (.slc 1 0 y.length none)], Y := Unit, ok := fun _ => True, ret := fun _ => boolv (decide (x = y)), post := fun _ => [.gone, .gone] }
def inv_same (x y : List Int) : Inv KK := { X := Nat, fr := fun i => [.c (.slc 0 0 x.length none), .c (.slc 1 0 y.length none), .any, .any, .any, i64 i] ++ anys 20, H := fun _ => [.ro .u8 x, .ro .u8 y], ok := fun i => i ≤ x.length ∧ x.take i = y.take i, meas := fun i : Nat => x.length - i }
def ct_sameR (x : RS) (y : List Int) (φ : Bag KK) : Ct KK := { need := Has φ x ∧ y.length ≤ 2000000, pre := [.bag φ, .ro .u8 y], args := [.c (.rs 5 1 x), .c (.slc 1 0 y.length none)], Y := Unit, ok := fun _ => True, ret := fun _ => boolv (decide (cont φ x = y)), post := fun _ => [.bag φ, .gone] }
def inv_sameR (x : RS) (y : List Int) (φ : Bag KK) : Inv KK := { X := Nat, fr := fun i => [.c (.rs 5 1 x), .c (.slc 1 0 y.length none), .any, .any, .any, i64 i] ++ anys 20, H := fun _ => [.bag φ, .ro .u8 y], ok := fun i => i ≤ (cont φ x).length ∧ (cont φ x).take i = y.take i, meas := fun i : Nat => (cont φ x).length - i }
def ct_behind (x y : List Int) : Ct KK := { need := x.length ≤ 2000000 ∧ y.length ≤ 2000000, pre := [.ro .u8 x, .ro .u8 y], args := [.c (.slc 0 0 x.length none), .c (.slc 1 0 y.length none)], Y := Unit, ok := fun _ => True, ret := fun _ => .c (.slc 2 0 (x ++ y).length none), post := fun _ => [.gone, .gone, .arr .u8 (x ++ y)] }
def ct_behindR (x : RS) (φ : Bag KK) : Ct KK := { need := Has φ x, pre := [.bag φ], args := [.c (.rs 5 1 x), .c .nils], Y := Unit, ok := fun _ => True, ret := fun _ => .c (.slc 1 0 (cont φ x).length none), post := fun _ => [.bag φ, .arr .u8 (cont φ x)] }
theorem vc_putU (x : RS) (n : Int) (φ : Bag KK) : evFn tab0 (ann1 (inv_putU x n φ)) Tryz.f7 (ct_putU x n φ) = ( ∃ (ys : List (Int)), RS.row φ Kd.u8 x = some ys ∧ ys.length * 1 ≤ 140737488355328 ∧ Enter 1 (inv_putU x n φ) (fun (x : List Int × Int × Nat) => True) ([VV.one (V1.c (C.rs 5 1 x)), VV.one (V1.c (C.int
 .u64 n)), VV.any, VV.any, VV.one (V1.c C.nils), VV.one (V1.c (C.slc 1 0 ys.length none)), VV.one (V1.c (C.rs 5 1 x)), VV.one (V1.c (C.slc 1 0 ys.length none))] ++ anys 15) [Atom.bag φ, Atom.arr Kd.u8 ys]
 ∧ ∀ (z : List Int × Int × Nat), z.fst ++ numF z.snd.snd z.snd.fst = cont φ x ++ numF 9 n ∧ ((0 : Int) ≤ z.snd.fst ∧ z.snd.fst < lim z.snd.snd) ∧ z.snd.snd ≤ 9 ∧ z.fst.length + z.snd.snd ≤ (cont φ x).length
 + 1 + 1 + 1 + 1 + 1 + 1 + 1 + 1 + 1 → ite2 (decide ((128 : Int) ≤ z.snd.fst)) (z.fst.length = z.fst.length ∧ (1 ≤ 1 ∧ True) ∧ (z.fst.length + 1) * 1 ≤ 140737488355328 ∧ (0 : Int) ≤ (7 : Int) ∧ Enter 1
 (inv_putU x n φ) (fun (z' : List Int × Int × Nat) => z'.snd.snd < z.snd.snd) [VV.any, VV.one (V1.c (C.int .u64 (z.snd.fst.fdiv (128 : Int)))), VV.any, VV.any, VV.any, VV.one (V1.c (C.slc 3 0 (z.fst.length
 + 1) none)), VV.any, VV.any, VV.one (V1.c (C.int .u64 z.snd.fst)), boolv true, VV.one (V1.c (C.slc 1 0 z.fst.length none)), VV.one (V1.c (C.int .u64 z.snd.fst)), VV.one (V1.c (C.int .u8 (IntKind.wrap .u8
 z.snd.fst))), VV.one (V1.c (C.int .u8 (bitw BinOp.or .u8 (IntKind.wrap .u8 z.snd.fst) (128 : Int)))), VV.one (V1.c (C.slc 2 0 1 none)), VV.one (V1.c (C.slc 3 0 (z.fst.length + 1) none)), VV.one (V1.c (C.int
 .u64 z.snd.fst)), VV.one (V1.c (C.int .u64 (z.snd.fst.fdiv (128 : Int)))), VV.any, VV.any, VV.any, VV.any, VV.any] [Atom.bag φ, Atom.gone, Atom.arr Kd.u8 [bitw BinOp.or .u8 (IntKind.wrap .u8 z.snd.fst)
 (128 : Int)], Atom.arr Kd.u8 (z.fst ++ [bitw BinOp.or .u8 (IntKind.wrap .u8 z.snd.fst) (128 : Int)])]) (z.fst.length = z.fst.length ∧ (1 ≤ 1 ∧ True) ∧ (z.fst.length + 1) * 1 ≤ 140737488355328 ∧ EndsAs
 1 (ct_putU x n φ) (VV.one (V1.c (C.slc 3 0 (z.fst.length + 1) none))) [Atom.bag φ, Atom.gone, Atom.arr Kd.u8 [IntKind.wrap .u8 z.snd.fst], Atom.arr Kd.u8 (z.fst ++ [IntKind.wrap .u8 z.snd.fst])])) := by kernel_rfl
theorem vc_num (n : Int) : evFn tab0 (ann1 (inv_num n)) Tryz.f11 (ct_num n) = ( Enter 0 (inv_num n) (fun (x : List Int × Int × Nat) => True) ([VV.one (V1.c (C.int .u64 n)), VV.any, VV.one (V1.c C.nils), VV.one (V1.c C.nils)] ++ anys 16) [] ∧ ∀ (z : List Int × Int × Nat), z.fst ++
 numF z.snd.snd z.snd.fst = numF 9 n ∧ ((0 : Int) ≤ z.snd.fst ∧ z.snd.fst < lim z.snd.snd) ∧ z.snd.snd ≤ 9 ∧ z.fst.length + z.snd.snd ≤ 9 → ite2 (decide ((128 : Int) ≤ z.snd.fst)) ((128 : Int) ≠ (0 : Int)
 ∧ z.fst.length = z.fst.length ∧ (1 ≤ 1 ∧ True) ∧ (z.fst.length + 1) * 1 ≤ 140737488355328 ∧ (128 : Int) ≠ (0 : Int) ∧ Enter 0 (inv_num n) (fun (z' : List Int × Int × Nat) => z'.snd.snd < z.snd.snd) [VV.one
 (V1.c (C.int .u64 (IntKind.wrap .u64 (z.snd.fst.tdiv (128 : Int))))), VV.any, VV.any, VV.one (V1.c (C.slc 2 0 (z.fst.length + 1) none)), VV.one (V1.c (C.int .u64 z.snd.fst)), boolv true, VV.one (V1.c (C.slc
 0 0 z.fst.length none)), VV.one (V1.c (C.int .u64 z.snd.fst)), VV.one (V1.c (C.int .u64 (z.snd.fst.tmod (128 : Int)))), VV.one (V1.c (C.int .u8 (IntKind.wrap .u8 (z.snd.fst.tmod (128 : Int))))), VV.one
 (V1.c (C.int .u8 (IntKind.wrap .u8 (IntKind.wrap .u8 (z.snd.fst.tmod (128 : Int)) + (128 : Int))))), VV.one (V1.c (C.slc 1 0 1 none)), VV.one (V1.c (C.slc 2 0 (z.fst.length + 1) none)), VV.one (V1.c (C.int
 .u64 z.snd.fst)), VV.one (V1.c (C.int .u64 (IntKind.wrap .u64 (z.snd.fst.tdiv (128 : Int))))), VV.any, VV.any, VV.any, VV.any, VV.any] [Atom.gone, Atom.arr Kd.u8 [IntKind.wrap .u8 (IntKind.wrap .u8 (z.snd.fst.tmod
 (128 : Int)) + (128 : Int))], Atom.arr Kd.u8 (z.fst ++ [IntKind.wrap .u8 (IntKind.wrap .u8 (z.snd.fst.tmod (128 : Int)) + (128 : Int))])]) (z.fst.length = z.fst.length ∧ (1 ≤ 1 ∧ True) ∧ (z.fst.length
 + 1) * 1 ≤ 140737488355328 ∧ EndsAs 0 (ct_num n) (VV.one (V1.c (C.slc 2 0 (z.fst.length + 1) none))) [Atom.gone, Atom.arr Kd.u8 [IntKind.wrap .u8 z.snd.fst], Atom.arr Kd.u8 (z.fst ++ [IntKind.wrap .u8
 z.snd.fst])])) := by kernel_rfl
theorem vc_same (x y : List Int) : evFn tab0 (ann1 (inv_same x y)) Tryz.f9 (ct_same x y) = ( ite2 (decide ((↑x.length : Int) = (↑y.length : Int))) (Enter 2 (inv_same x y) (fun (x : Nat) => True) ([VV.one (V1.c (C.slc 0 0 x.length none)), VV.one (V1.c (C.slc 1 0 y.length none)), VV.any, VV.any,
 boolv false, i64 (0 : Int), VV.one (V1.c (C.slc 0 0 x.length none)), i64 (↑x.length : Int), VV.one (V1.c (C.slc 1 0 y.length none)), i64 (↑y.length : Int), boolv false] ++ anys 15) [Atom.ro Kd.u8 x, Atom.ro
 Kd.u8 y] ∧ ∀ (z : Nat), z ≤ x.length ∧ List.take z x = List.take z y → ite2 (decide ((↑z : Int) < (↑x.length : Int))) (((0 : Int) ≤ (↑z : Int) ∧ (↑z : Int) < (↑x.length : Int)) ∧ (↑z : Int).toNat < x.length
 ∧ True ∧ (↑z : Int).toNat < x.length ∧ ((0 : Int) ≤ (↑z : Int) ∧ (↑z : Int) < (↑y.length : Int)) ∧ (↑z : Int).toNat < y.length ∧ True ∧ (↑z : Int).toNat < y.length ∧ ite2 (decide (rd x (↑z : Int).toNat
 (0 : Int) = rd y (↑z : Int).toNat (0 : Int))) (True ∧ i64ok ((↑z : Int) + (1 : Int)) ∧ Enter 2 (inv_same x y) (fun (z' : Nat) => x.length - z' < x.length - z) [VV.one (V1.c (C.slc 0 0 x.length none)),
 VV.one (V1.c (C.slc 1 0 y.length none)), VV.any, VV.any, VV.any, i64 ((↑z : Int) + (1 : Int)), VV.any, VV.any, VV.any, VV.any, VV.any, i64 (↑z : Int), VV.one (V1.c (C.slc 0 0 x.length none)), i64 (↑x.length
 : Int), boolv true, i64 (↑z : Int), i64 ((↑z : Int) + (1 : Int)), VV.one (V1.c (C.slc 0 0 x.length none)), i64 (↑z : Int), VV.one (V1.c (C.ptr 0 (↑z : Int).toNat 0)), VV.one (V1.c (C.int .u8 (rd x (↑z
 : Int).toNat (0 : Int)))), VV.one (V1.c (C.slc 1 0 y.length none)), i64 (↑z : Int), VV.one (V1.c (C.ptr 1 (↑z : Int).toNat 0)), VV.one (V1.c (C.int .u8 (rd y (↑z : Int).toNat (0 : Int)))), boolv false]
 [Atom.ro Kd.u8 x, Atom.ro Kd.u8 y]) (True ∧ EndsAs 2 (ct_same x y) (boolv false) [Atom.ro Kd.u8 x, Atom.ro Kd.u8 y])) (EndsAs 2 (ct_same x y) (boolv true) [Atom.ro Kd.u8 x, Atom.ro Kd.u8 y])) (EndsAs 2
 (ct_same x y) (boolv false) [Atom.ro Kd.u8 x, Atom.ro Kd.u8 y])) := by kernel_rfl
theorem vc_sameR (x : RS) (y : List Int) (φ : Bag KK) : evFn tab0 (ann1 (inv_sameR x y φ)) Tryz.f9 (ct_sameR x y φ) = ( ite2 (decide ((↑x.len : Int) = (↑y.length : Int))) (Enter 2 (inv_sameR x y φ) (fun (x : Nat) => True) ([VV.one (V1.c (C.rs 5 1 x)), VV.one (V1.c (C.slc 1 0 y.length none)), VV.any, VV.any, boolv false,
 i64 (0 : Int), VV.one (V1.c (C.rs 5 1 x)), i64 (↑x.len : Int), VV.one (V1.c (C.slc 1 0 y.length none)), i64 (↑y.length : Int), boolv false] ++ anys 15) [Atom.bag φ, Atom.ro Kd.u8 y] ∧ ∀ (z : Nat), z ≤
 (cont φ x).length ∧ List.take z (cont φ x) = List.take z y → ite2 (decide ((↑z : Int) < (↑x.len : Int))) (((0 : Int) ≤ (↑z : Int) ∧ (↑z : Int) < (↑x.len : Int)) ∧ ∃ (cap : Nat), ∃ (xs : List (Int)), φ
 x.blk = some (BI.row Kd.u8 cap xs) ∧ x.lo + (↑z : Int).toNat < xs.length ∧ ((0 : Int) ≤ (↑z : Int) ∧ (↑z : Int) < (↑y.length : Int)) ∧ (↑z : Int).toNat < y.length ∧ True ∧ (↑z : Int).toNat < y.length ∧
 ite2 (decide (rd xs (x.lo + (↑z : Int).toNat) (0 : Int) = rd y (↑z : Int).toNat (0 : Int))) (True ∧ i64ok ((↑z : Int) + (1 : Int)) ∧ Enter 2 (inv_sameR x y φ) (fun (z' : Nat) => (cont φ x).length - z'
 < (cont φ x).length - z) [VV.one (V1.c (C.rs 5 1 x)), VV.one (V1.c (C.slc 1 0 y.length none)), VV.any, VV.any, VV.any, i64 ((↑z : Int) + (1 : Int)), VV.any, VV.any, VV.any, VV.any, VV.any, i64 (↑z : Int),
 VV.one (V1.c (C.rs 5 1 x)), i64 (↑x.len : Int), boolv true, i64 (↑z : Int), i64 ((↑z : Int) + (1 : Int)), VV.one (V1.c (C.rs 5 1 x)), i64 (↑z : Int), VV.one (V1.c (C.rp 5 1 x.blk (x.lo + (↑z : Int).toNat)
 0)), VV.one (V1.c (C.int .u8 (rd xs (x.lo + (↑z : Int).toNat) (0 : Int)))), VV.one (V1.c (C.slc 1 0 y.length none)), i64 (↑z : Int), VV.one (V1.c (C.ptr 1 (↑z : Int).toNat 0)), VV.one (V1.c (C.int .u8
 (rd y (↑z : Int).toNat (0 : Int)))), boolv false] [Atom.bag φ, Atom.ro Kd.u8 y]) (True ∧ EndsAs 2 (ct_sameR x y φ) (boolv false) [Atom.bag φ, Atom.ro Kd.u8 y])) (EndsAs 2 (ct_sameR x y φ) (boolv true)
 [Atom.bag φ, Atom.ro Kd.u8 y])) (EndsAs 2 (ct_sameR x y φ) (boolv false) [Atom.bag φ, Atom.ro Kd.u8 y])) := by kernel_rfl
theorem vc_behind (x y : List Int) : evFn tab0 ann0 Tryz.f10 (ct_behind x y) = ( (0 + x.length ≤ x.length ∧ True) ∧ (List.take x.length x).length * 1 ≤ 140737488355328 ∧ (List.take x.length x).length = (List.take x.length x).length ∧ (0 + y.length ≤ y.length ∧ True) ∧ ((List.take
 x.length x).length + (List.take y.length y).length) * 1 ≤ 140737488355328 ∧ EndsAs 2 (ct_behind x y) (VV.one (V1.c (C.slc 3 0 ((List.take x.length x).length + (List.take y.length y).length) none))) [Atom.ro
 Kd.u8 x, Atom.ro Kd.u8 y, Atom.gone, Atom.arr Kd.u8 (List.take x.length x ++ List.take y.length y)]) := by kernel_rfl
theorem vc_behindR (x : RS) (φ : Bag KK) : evFn tab0 ann0 Tryz.f10 (ct_behindR x φ) = ( ∃ (ys : List (Int)), RS.row φ Kd.u8 x = some ys ∧ ys.length * 1 ≤ 140737488355328 ∧ ys.length = ys.length ∧ ys.length * 1 ≤ 140737488355328 ∧ EndsAs 1 (ct_behindR x φ) (VV.one (V1.c (C.slc 2 0 ys.length
 none))) [Atom.bag φ, Atom.gone, Atom.arr Kd.u8 (ys ++ [])]) := by kernel_rfl
theorem w8 (n : Int) : IntKind.wrap .u8 n = n % 256 := by simp [IntKind.wrap, IntKind.bits, IntKind.signed]
theorem w64 (n : Int) : IntKind.wrap .u64 n = n % 18446744073709551616 := by simp [IntKind.wrap, IntKind.bits, IntKind.signed]
theorem or_all : ∀ a : Fin 256, bitw .or .u8 ((a.val : Nat) : Int) 128 = ((a.val % 128 + 128 : Nat) : Int) := by decide +kernel
theorem or_high (n : Int) : bitw .or .u8 (IntKind.wrap .u8 n) 128 = n % 128 + 128 := by
  rw [w8]
  have h0 : 0 ≤ n % 256 := Int.emod_nonneg _ (by decide)
  have h1 : n % 256 < 256 := Int.emod_lt_of_pos _ (by decide)
  obtain ⟨a, ha⟩ := Int.eq_ofNat_of_zero_le h0
  have h2 := or_all ⟨a, by omega⟩
  have ha : n % 256 = (a : Int) := ha
  rw [ha]
  refine h2.trans ?_
  show ((a % 128 + 128 : Nat) : Int) = n % 128 + 128
  omega
theorem numF_big {f : Nat} {m : Int} (h : 128 ≤ m) (hm : m < lim f) : ∃ g, f = g + 1 ∧ numF f m = (m % 128 + 128) :: numF g (m / 128) ∧ m / 128 < lim g := by
  cases f with
  | zero => have hm : m < 2 := hm; omega
  | succ g =>
    refine ⟨g, rfl, by rw [numF, if_neg (by omega)], ?_⟩
    have hm : m < lim g * 128 := hm
    omega
theorem numF_small {f : Nat} {m : Int} (h : m < 128) : numF f m = [m] := by
  cases f with
  | zero => rfl
  | succ g => rw [numF, if_pos h]
theorem putU_ok (x : RS) (n : Int) (φ : Bag KK) : CtOk Tryz.prog 7 (ct_putU x n φ) := CtOk_of KK_ok tab0 (ann1 (inv_putU x n φ)) (fn := Tryz.f7) rfl (fun _ _ => rfl) fun hn => by
  obtain ⟨⟨hr, hl⟩, h0, h1⟩ := hn
  rw [vc_putU]
  refine ⟨_, hr, by omega, ⟨(cont φ x, n, 9), [], [0, 1], ⟨rfl, ⟨h0, by show n < lim 9; rw [lim9]; exact h1⟩, Nat.le_refl _, Nat.le_refl _⟩, trivial, into_mk (by kernel_rfl) (by (repeat' first | exact trivial | exact rfl | apply And.intro)) (by (repeat' first | exact trivial | exact rfl | apply And.intro))⟩, ?_⟩
  rintro ⟨out, m, f⟩ ⟨e, ⟨m0, m1⟩, hf, hlen⟩
  dsimp only at e m0 m1 hf hlen ⊢
  refine ite2_decide (fun h => ?_) (fun h => ?_)
  · obtain ⟨g, rfl, e1, e2⟩ := numF_big h m1
    have hd : m.fdiv 128 = m / 128 := Int.fdiv_eq_ediv_of_nonneg _ (by decide)
    have hq : out ++ [bitw .or .u8 (IntKind.wrap .u8 m) 128] = out ++ [m % 128 + 128] := by rw [or_high]
    refine ⟨rfl, ⟨Nat.le_refl _, trivial⟩, by omega, by decide, (out ++ [m % 128 + 128], m / 128, g), [], [0, 3], ⟨?_, ⟨by show 0 ≤ m / 128; omega, e2⟩, by show g ≤ 9; omega, ?_⟩, Nat.lt_succ_self _, into_mk (by kernel_rfl) ?_ ?_⟩
    · show (out ++ [m % 128 + 128]) ++ numF g (m / 128) = _
      rw [← e, e1, List.append_assoc]; rfl
    · show (out ++ [m % 128 + 128]).length + g ≤ _
      simp only [List.length_append, List.length_singleton]; omega
    · have hq2 : out.length + 1 = (out ++ [m % 128 + 128]).length := by simp
      (repeat' first | exact trivial | exact rfl | exact hd | exact hq2 | apply And.intro)
    · (repeat' first | exact trivial | exact rfl | exact hq | apply And.intro)
  · have hm : m < 128 := by omega
    have hq : out ++ [IntKind.wrap .u8 m] = cont φ x ++ numF 9 n := by rw [← e, numF_small hm, w8, Int.emod_eq_of_lt m0 (by omega)]
    have hq2 : out.length + 1 = (cont φ x ++ numF 9 n).length := by rw [← hq]; simp
    exact ⟨rfl, ⟨Nat.le_refl _, trivial⟩, by omega, (), [], [0, 3], trivial, by (repeat' first | exact trivial | exact rfl | exact hq | exact hq2 | apply And.intro)⟩
theorem num_ok (n : Int) : CtOk Tryz.prog 11 (ct_num n) := CtOk_of KK_ok tab0 (ann1 (inv_num n)) (fn := Tryz.f11) rfl (fun _ _ => rfl) fun hn => by
  obtain ⟨h0, h1⟩ := hn
  rw [vc_num]
  refine ⟨⟨([], n, 9), [.u8], [0], ⟨rfl, ⟨h0, by show n < lim 9; rw [lim9]; exact h1⟩, Nat.le_refl _, Nat.le_refl _⟩, trivial, into_mk (by kernel_rfl) (by (repeat' first | exact trivial | exact rfl | apply And.intro)) (by (repeat' first | exact trivial | exact rfl | apply And.intro))⟩, ?_⟩
  rintro ⟨out, m, f⟩ ⟨e, ⟨m0, m1⟩, hf, hlen⟩
  dsimp only at e m0 m1 hf hlen ⊢
  have big : m < 18446744073709551616 := by
    have := lim_all ⟨f, by omega⟩
    have : lim f ≤ 18446744073709551616 := this
    omega
  refine ite2_decide (fun h => ?_) (fun h => ?_)
  · obtain ⟨g, rfl, e1, e2⟩ := numF_big h m1
    have hd : IntKind.wrap .u64 (m.tdiv 128) = m / 128 := by rw [w64, Int.tdiv_eq_ediv_of_nonneg m0, Int.emod_eq_of_lt (by omega) (by omega)]
    have hb : IntKind.wrap .u8 (IntKind.wrap .u8 (m.tmod 128) + 128) = m % 128 + 128 := by rw [w8, w8, Int.tmod_eq_emod_of_nonneg m0]; omega
    have hq : out ++ [IntKind.wrap .u8 (IntKind.wrap .u8 (m.tmod 128) + 128)] = out ++ [m % 128 + 128] := by rw [hb]
    refine ⟨by decide, rfl, ⟨Nat.le_refl _, trivial⟩, by omega, by decide, (out ++ [m % 128 + 128], m / 128, g), [], [2], ⟨?_, ⟨by show 0 ≤ m / 128; omega, e2⟩, by show g ≤ 9; omega, ?_⟩, Nat.lt_succ_self _, into_mk (by kernel_rfl) ?_ ?_⟩
    · show (out ++ [m % 128 + 128]) ++ numF g (m / 128) = _
      rw [← e, e1, List.append_assoc]; rfl
    · show (out ++ [m % 128 + 128]).length + g ≤ _
      simp only [List.length_append, List.length_singleton]; omega
    · have hq2 : out.length + 1 = (out ++ [m % 128 + 128]).length := by simp
      (repeat' first | exact trivial | exact rfl | exact hd | exact hq2 | apply And.intro)
    · (repeat' first | exact trivial | exact rfl | exact hq | apply And.intro)
  · have hm : m < 128 := by omega
    have hq : out ++ [IntKind.wrap .u8 m] = numF 9 n := by rw [← e, numF_small hm, w8, Int.emod_eq_of_lt m0 (by omega)]
    have hq2 : out.length + 1 = (numF 9 n).length := by rw [← hq]; simp
    exact ⟨rfl, ⟨Nat.le_refl _, trivial⟩, by omega, (), [], [2], trivial, by (repeat' first | exact trivial | exact rfl | exact hq | exact hq2 | apply And.intro)⟩
theorem take_succ_rd {l : List Int} {z : Nat} (h : z < l.length) : l.take (z + 1) = l.take z ++ [rd l z 0] := by
  rw [List.take_succ_eq_append_getElem h]; unfold rd; rw [List.getD_eq_getElem?_getD, List.getElem?_eq_getElem h]; rfl
theorem rd_of_eq {x y : List Int} (h : x = y) (z : Nat) : rd x z 0 = rd y z 0 := by rw [h]
theorem same_ok (x y : List Int) : CtOk Tryz.prog 9 (ct_same x y) := CtOk_of KK_ok tab0 (ann1 (inv_same x y)) (fn := Tryz.f9) rfl (fun _ _ => rfl) fun hn => by
  obtain ⟨h0, h1⟩ := hn
  rw [vc_same]
  simp only [Int.toNat_natCast]
  refine ite2_decide (fun h => ⟨⟨(0 : Nat), [], [0, 1], ⟨Nat.zero_le _, rfl⟩, trivial, into_mk (by kernel_rfl) (by (repeat' first | exact trivial | exact rfl | apply And.intro)) (by (repeat' first | exact trivial | exact rfl | apply And.intro))⟩, ?_⟩) (fun h => ?_)
  · have hxy : x.length = y.length := by omega
    rintro z ⟨hz, he⟩
    refine ite2_decide (fun hl => ?_) (fun hl => ?_)
    · have hz1 : z < x.length := by omega
      refine ⟨⟨by omega, by omega⟩, hz1, trivial, hz1, ⟨by omega, by omega⟩, by omega, trivial, by omega, ite2_decide (fun e => ⟨trivial, by unfold i64ok; omega, (z + 1 : Nat), [], [0, 1], ⟨hz1, ?_⟩, by omega, into_mk (by kernel_rfl) (by (repeat' first | exact trivial | exact rfl | apply And.intro)) (by (repeat' first | exact trivial | exact rfl | apply And.intro))⟩) (fun e => ?_)⟩
      · show x.take (z + 1) = y.take (z + 1)
        rw [take_succ_rd hz1, take_succ_rd (show z < y.length by omega), he, e]
      · have hq : false = decide (x = y) := (decide_eq_false (fun e' => e (rd_of_eq e' z))).symm
        exact ⟨trivial, (), [], [0, 1], trivial, by (repeat' first | exact trivial | exact rfl | exact hq | apply And.intro)⟩
    · have hq : true = decide (x = y) := (decide_eq_true (by rw [List.take_of_length_le (by omega), List.take_of_length_le (by omega)] at he; exact he)).symm
      exact ⟨(), [], [0, 1], trivial, by (repeat' first | exact trivial | exact rfl | exact hq | apply And.intro)⟩
  · have hq : false = decide (x = y) := (decide_eq_false (fun e' => h (by rw [e']))).symm
    exact ⟨(), [], [0, 1], trivial, by (repeat' first | exact trivial | exact rfl | exact hq | apply And.intro)⟩
theorem sameR_ok (x : RS) (y : List Int) (φ : Bag KK) : CtOk Tryz.prog 9 (ct_sameR x y φ) := CtOk_of KK_ok tab0 (ann1 (inv_sameR x y φ)) (fn := Tryz.f9) rfl (fun _ _ => rfl) fun hn => by
  obtain ⟨⟨hr, h0⟩, h1⟩ := hn
  have hlx : (cont φ x).length = x.len := RS.row_len hr
  rw [vc_sameR]
  simp only [Int.toNat_natCast]
  refine ite2_decide (fun h => ⟨⟨(0 : Nat), [], [0, 1], ⟨Nat.zero_le _, rfl⟩, trivial, into_mk (by kernel_rfl) (by (repeat' first | exact trivial | exact rfl | apply And.intro)) (by (repeat' first | exact trivial | exact rfl | apply And.intro))⟩, ?_⟩) (fun h => ?_)
  · have hxy : (cont φ x).length = y.length := by omega
    rintro z ⟨hz, he⟩
    refine ite2_decide (fun hl => ?_) (fun hl => ?_)
    · have hz1 : z < (cont φ x).length := by omega
      obtain ⟨cap, us, e1, e2, e3⟩ := RS.rd hr (show z < x.len by omega) (0 : Int)
      refine ⟨⟨by omega, by omega⟩, cap, us, e1, e2, ⟨by omega, by omega⟩, by omega, trivial, by omega, ite2_decide (fun e => ⟨trivial, by unfold i64ok; omega, (z + 1 : Nat), [], [0, 1], ⟨hz1, ?_⟩, by omega, into_mk (by kernel_rfl) (by (repeat' first | exact trivial | exact rfl | apply And.intro)) (by (repeat' first | exact trivial | exact rfl | apply And.intro))⟩) (fun e => ?_)⟩
      · show (cont φ x).take (z + 1) = y.take (z + 1)
        have e5 : rd (cont φ x) z 0 = rd y z 0 := e3.symm.trans e
        rw [take_succ_rd hz1, take_succ_rd (show z < y.length by omega), he, e5]
      · have hq : false = decide (cont φ x = y) := (decide_eq_false (fun e' => e (e3.trans (rd_of_eq e' z)))).symm
        exact ⟨trivial, (), [], [0, 1], trivial, by (repeat' first | exact trivial | exact rfl | exact hq | apply And.intro)⟩
    · have hq : true = decide (cont φ x = y) := (decide_eq_true (by rw [List.take_of_length_le (by omega), List.take_of_length_le (by omega)] at he; exact he)).symm
      exact ⟨(), [], [0, 1], trivial, by (repeat' first | exact trivial | exact rfl | exact hq | apply And.intro)⟩
  · have hq : false = decide (cont φ x = y) := (decide_eq_false (fun e' => h (by rw [← e', hlx]))).symm
    exact ⟨(), [], [0, 1], trivial, by (repeat' first | exact trivial | exact rfl | exact hq | apply And.intro)⟩
theorem behind_ok (x y : List Int) : CtOk Tryz.prog 10 (ct_behind x y) := CtOk_of KK_ok tab0 ann0 (fn := Tryz.f10) rfl (fun _ _ => rfl) fun hn => by
  obtain ⟨h0, h1⟩ := hn
  rw [vc_behind]
  simp only [List.take_length]
  have hq : x.length + y.length = (x ++ y).length := by simp
  exact ⟨⟨by omega, trivial⟩, by omega, trivial, ⟨by omega, trivial⟩, by omega, (), [], [0, 1, 3], trivial, by (repeat' first | exact trivial | exact rfl | exact hq | apply And.intro)⟩
theorem behindR_ok (x : RS) (φ : Bag KK) : CtOk Tryz.prog 10 (ct_behindR x φ) := CtOk_of KK_ok tab0 ann0 (fn := Tryz.f10) rfl (fun _ _ => rfl) fun hn => by
  obtain ⟨hr, h0⟩ := hn
  rw [vc_behindR]
  have hq : cont φ x ++ [] = cont φ x := List.append_nil _
  exact ⟨_, hr, by omega, rfl, by omega, (), [], [0, 2], trivial, by (repeat' first | exact trivial | exact rfl | exact hq | apply And.intro)⟩
end Go.Proofs.YtndlpbheifalhaaGreatDoor.T
