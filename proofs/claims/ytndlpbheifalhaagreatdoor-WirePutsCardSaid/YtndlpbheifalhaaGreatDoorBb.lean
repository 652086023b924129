/- The book: numbers as texts, by the library's table; two lists held against one another; when a list is due. -/
import Derived.Test.YtndlpbheifalhaaGreatDoorBa
namespace Go.Proofs.YtndlpbheifalhaaGreatDoor.T
open Go.Proofs.YtndlpbheifalhaaGreatDoor.E
set_option maxRecDepth 100000
set_option linter.unusedVariables false
def HasTab (_ : Bag KK) : Prop := True
theorem HasTab.ext {φ ψ : Bag KK} (h : HasTab φ) (e : Ext φ ψ) : HasTab ψ := trivial
theorem le_lim {n : Nat} (h : n ≤ 1000150) : n * 1 ≤ 140737488355328 := by omega
theorem le_big {n : Nat} (h : n ≤ 1000150) : n ≤ 1000000000 := by omega
theorem le_150 {n : Nat} (h : n ≤ 1000000) : n ≤ 1000150 := by omega
theorem ite2_mk {b : Bool} {p q : Prop} (h1 : b = true → p) (h2 : b = false → q) : ite2 b p q := by
  cases b
  · exact h2 rfl
  · exact h1 rfl
def ct_sameT (x y : RS) (φ : Bag KK) : Ct KK := { need := RS.Alike φ Kd.u8 1000000000 x y, pre := [.bag φ], args := [.c (.rs 5 1 x), .c (.rs 5 1 y)], Y := Unit, ok := fun _ => True, ret := fun _ => boolv true, post := fun _ => [.bag φ] }
def inv_sameT (x y : RS) (φ : Bag KK) : Inv KK := { X := Nat, fr := fun i => [.c (.rs 5 1 x), .c (.rs 5 1 y), .any, .any, .any, i64 i] ++ anys 24, H := fun _ => [.bag φ], ok := fun i => i ≤ x.len, meas := fun i : Nat => x.len - i }
def ct_due (B : BS) (n : Int) : Ct KK := { need := (0 ≤ B.turn ∧ B.turn ≤ 1000000) ∧ 0 ≤ n ∧ n ≤ 1000000, pre := bookH B, args := [.c (.ptr 0 0 0), i64 n], Y := Int, ok := fun y => 0 ≤ y ∧ y ≤ 2000000, ret := fun y => i64 y, post := fun _ => bookH B }
theorem vc_sameT (x y : RS) (φ : Bag KK) : evFn tab0 (ann1 (inv_sameT x y φ)) Tryz.f70 (ct_sameT x y φ) = ( ite2 (decide ((↑x.len : Int) = (↑y.len : Int))) (Enter 1 (inv_sameT x y φ) (fun (x : Nat) => True) ([VV.one (V1.c (C.rs 5 1 x)), VV.one (V1.c (C.rs 5 1 y)), VV.any, VV.any, boolv false, i64 (0 : Int),
 VV.any, VV.any, VV.one (V1.c (C.rs 5 1 x)), i64 (↑x.len : Int), VV.one (V1.c (C.rs 5 1 y)), i64 (↑y.len : Int), boolv false] ++ anys 17) [Atom.bag φ] ∧ ∀ (z : Nat), z ≤ x.len → ite2 (decide ((↑z : Int)
 < (↑x.len : Int))) (((0 : Int) ≤ (↑z : Int) ∧ (↑z : Int) < (↑x.len : Int)) ∧ ∃ (cap : Nat), ∃ (xs : List (Int)), φ x.blk = some (BI.row Kd.u8 cap xs) ∧ x.lo + (↑z : Int).toNat < xs.length ∧ ((0 : Int)
 ≤ (↑z : Int) ∧ (↑z : Int) < (↑y.len : Int)) ∧ ∃ (cap : Nat), ∃ (xs_1 : List (Int)), φ y.blk = some (BI.row Kd.u8 cap xs_1) ∧ y.lo + (↑z : Int).toNat < xs_1.length ∧ ite2 (decide (rd xs (x.lo + (↑z : Int).toNat)
 (0 : Int) = rd xs_1 (y.lo + (↑z : Int).toNat) (0 : Int))) (i64ok ((↑z : Int) + (1 : Int)) ∧ Enter 1 (inv_sameT x y φ) (fun (z' : Nat) => x.len - z' < x.len - z) [VV.one (V1.c (C.rs 5 1 x)), VV.one (V1.c
 (C.rs 5 1 y)), VV.any, VV.any, VV.any, i64 ((↑z : Int) + (1 : Int)), VV.one (V1.c (C.int .u8 (rd xs (x.lo + (↑z : Int).toNat) (0 : Int)))), VV.one (V1.c (C.int .u8 (rd xs_1 (y.lo + (↑z : Int).toNat) (0
 : Int)))), VV.any, VV.any, VV.any, VV.any, VV.any, i64 (↑z : Int), VV.one (V1.c (C.rs 5 1 x)), i64 (↑x.len : Int), boolv true, i64 (↑z : Int), i64 ((↑z : Int) + (1 : Int)), VV.one (V1.c (C.rs 5 1 x)),
 i64 (↑z : Int), VV.one (V1.c (C.rp 5 1 x.blk (x.lo + (↑z : Int).toNat) 0)), VV.one (V1.c (C.int .u8 (rd xs (x.lo + (↑z : Int).toNat) (0 : Int)))), VV.one (V1.c (C.rs 5 1 y)), i64 (↑z : Int), VV.one (V1.c
 (C.rp 5 1 y.blk (y.lo + (↑z : Int).toNat) 0)), VV.one (V1.c (C.int .u8 (rd xs_1 (y.lo + (↑z : Int).toNat) (0 : Int)))), VV.one (V1.c (C.int .u8 (rd xs (x.lo + (↑z : Int).toNat) (0 : Int)))), VV.one (V1.c
 (C.int .u8 (rd xs_1 (y.lo + (↑z : Int).toNat) (0 : Int)))), boolv false] [Atom.bag φ]) (EndsAs 1 (ct_sameT x y φ) (boolv false) [Atom.bag φ])) (EndsAs 1 (ct_sameT x y φ) (boolv true) [Atom.bag φ])) (EndsAs
 1 (ct_sameT x y φ) (boolv false) [Atom.bag φ])) := by kernel_rfl
theorem vc_due (B : BS) (n : Int) : evFn tab0 ann0 Tryz.f34 (ct_due B n) = ( (3 : Int) ≠ (0 : Int) ∧ ite2 (decide (n.tmod (3 : Int) = (0 : Int))) (EndsAs 9 (ct_due B n) (i64 B.turn) (bookH B)) ((3 : Int) ≠ (0 : Int) ∧ ite2 (decide (n.tmod (3 : Int) = (1 : Int))) (i64ok (B.turn
 + (1 : Int)) ∧ (3 : Int) ≠ (0 : Int) ∧ i64ok (n.tdiv (3 : Int)) ∧ (8 : Int) ≠ (0 : Int) ∧ i64ok (B.turn + (1 : Int) + (n.tdiv (3 : Int)).tmod (8 : Int)) ∧ EndsAs 9 (ct_due B n) (i64 (B.turn + (1 : Int)
 + (n.tdiv (3 : Int)).tmod (8 : Int))) (bookH B)) (i64ok (B.turn + (1 : Int)) ∧ EndsAs 9 (ct_due B n) (i64 (B.turn + (1 : Int))) (bookH B)))) := by kernel_rfl
theorem sameT_ok (x y : RS) (φ : Bag KK) : CtOk Tryz.prog 70 (ct_sameT x y φ) := CtOk_of KK_ok tab0 (ann1 (inv_sameT x y φ)) (fn := Tryz.f70) rfl (fun _ _ => rfl) fun hn => by
  obtain ⟨(xs : List Int), h1, h2, h3⟩ := hn
  have h3 : xs.length ≤ 1000000000 := h3
  have l1 : xs.length = x.len := RS.row_len h1
  have l2 : xs.length = y.len := RS.row_len h2
  have hxy : ((x.len : Nat) : Int) = y.len := by omega
  rw [vc_sameT]
  simp only [Int.toNat_natCast, Nat.zero_add]
  refine ite2_decide (fun _ => ⟨⟨(0 : Nat), [], [0], Nat.zero_le _, trivial, into_mk (by kernel_rfl) (by (repeat' first | exact trivial | exact rfl | apply And.intro)) (by (repeat' first | exact trivial | exact rfl | apply And.intro))⟩, fun z hz => ite2_decide (fun hl => ?_) (fun hl => ⟨(), [], [0], trivial, by (repeat' first | exact trivial | exact rfl | apply And.intro)⟩)⟩) (fun h => absurd hxy h)
  have hz1 : z < x.len := by omega
  have hz2 : z < y.len := by omega
  obtain ⟨c1, u1, e1, e2, e3⟩ := RS.rd h1 hz1 (0 : Int)
  obtain ⟨c2, u2, f1, f2, f3⟩ := RS.rd h2 hz2 (0 : Int)
  refine ⟨⟨by omega, by omega⟩, c1, u1, e1, e2, ⟨by omega, by omega⟩, c2, u2, f1, f2, ite2_decide (fun _ => ⟨by unfold i64ok; omega, (z + 1 : Nat), [], [0], by show z + 1 ≤ x.len; omega, by omega, into_mk (by kernel_rfl) (by (repeat' first | exact trivial | exact rfl | apply And.intro)) (by (repeat' first | exact trivial | exact rfl | apply And.intro))⟩) (fun h => absurd (e3.trans f3.symm) h)⟩
theorem due_ok (B : BS) (n : Int) : CtOk Tryz.prog 34 (ct_due B n) := CtOk_of KK_ok tab0 ann0 (fn := Tryz.f34) rfl (fun _ _ => rfl) fun hn => by
  obtain ⟨⟨h1, h2⟩, h3, h4⟩ := hn
  rw [vc_due]
  have e : ∀ y : Int, 0 ≤ y ∧ y ≤ 2000000 → EndsAs 9 (ct_due B n) (i64 y) (bookH B) := fun y hy => ⟨y, [], bookN, hy, by (repeat' first | exact trivial | exact rfl | apply And.intro)⟩
  have q := Int.tdiv_nonneg h3 (show (0 : Int) ≤ 3 by decide)
  have q2 : n.tdiv 3 ≤ n := Int.tdiv_le_self _ h3
  have q3 : 0 ≤ (n.tdiv 3).tmod 8 := Int.tmod_nonneg _ q
  have q4 : (n.tdiv 3).tmod 8 < 8 := Int.tmod_lt_of_pos _ (by decide)
  have rest : (3 : Int) ≠ 0 := by decide
  refine ⟨rest, ite2_decide (fun _ => e _ ⟨h1, by omega⟩) (fun _ => ⟨rest, ite2_decide (fun _ => ⟨by unfold i64ok; omega, rest, by unfold i64ok; omega, by decide, by unfold i64ok; omega, e _ ⟨by omega, by omega⟩⟩) (fun _ => ⟨by unfold i64ok; omega, e _ ⟨by omega, by omega⟩⟩)⟩)⟩
end Go.Proofs.YtndlpbheifalhaaGreatDoor.T
