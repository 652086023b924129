/- The room: texts are counted, all of a list. -/
import Derived.Test.YtnmidichehjbgaaTb
namespace Go.Proofs.Ytnmidichehjbgaa.T
open Go.Proofs.Ytnmidichehjbgaa.E
set_option maxRecDepth 100000
set_option linter.unusedVariables false
/-- How many parts texts are. -/
def parts (l : List ByteArray) : Nat := (l.map fun s => 1 + s.size).sum
def ct_ctexts (x : Int) (l : List ByteArray) : Ct KK := { need := 0 ≤ x ∧ x ≤ 1000000 ∧ i64ok l.length ∧ (∀ s ∈ l, s.size ≤ 9223372036854775807), pre := [.cells 51 [.int .i64 x], .ro .str l], args := [.c (.ptr 0 0 0), .c (.slc 1 0 l.length none)], Y := Int, ok := fun y => (0 ≤ y → (parts l : Int) ≤ x), ret := fun _ => .tup [], post := fun y => [.cells 51 [.int .i64 y], .gone] }
def inv_ctexts (x : Int) (l : List ByteArray) : Inv KK := { X := Nat × Int, fr := fun z => [.c (.ptr 0 0 0), .c (.slc 1 0 l.length none), .any, .any, i64 z.1] ++ anys 16, H := fun z => [.cells 51 [.int .i64 z.2], .ro .str l], ok := fun z => z.1 ≤ l.length ∧ z.2 ≤ x ∧ -9223372036854775807 ≤ z.2 ∧ (0 ≤ z.2 → (parts (l.take z.1) : Int) + z.2 ≤ x), meas := fun z => l.length - z.1 }
theorem vc_ctexts (x : Int) (l : List ByteArray) : evFn tab2 (ann1 (inv_ctexts x l)) Try.f11 (ct_ctexts x l) = ( Enter (1 + 1) (inv_ctexts x l) (fun (x : Nat × Int) => True) [VV.one (V1.c (C.ptr 0 0 0)), VV.one (V1.c (C.slc 1 0 l.length none)), VV.any, VV.any, i64 (0 : Int), VV.any, VV.any, VV.any, VV.any, VV.any,
 VV.any, VV.any, VV.any, VV.any, VV.any, VV.any, VV.any, VV.any, VV.any, VV.any, VV.any] [Atom.cells 51 [C.int .i64 x], Atom.ro Kd.str l] ∧ ∀ (z : Nat × Int), z.fst ≤ l.length ∧ z.snd ≤ x ∧ (-9223372036854775807
 : Int) ≤ z.snd ∧ ((0 : Int) ≤ z.snd → (↑(parts (List.take z.fst l)) : Int) + z.snd ≤ x) → ite2 (decide ((↑z.fst : Int) < (↑l.length : Int))) (True ∧ Into (K := KK) 0 [] [0] [VV.one (V1.c (C.ptr 0 0 0))]
 [Atom.cells 51 [C.int .i64 z.snd], Atom.ro Kd.str l] [VV.one (V1.c (C.ptr 0 0 0))] [Atom.cells 51 [C.int .i64 z.snd]] ∧ ∀ (y : Unit), True → ite2 (decide ((0 : Int) ≤ z.snd)) (((0 : Int) ≤ (↑z.fst : Int)
 ∧ (↑z.fst : Int) < (↑l.length : Int)) ∧ 0 + (↑z.fst : Int).toNat < l.length ∧ True ∧ 0 + (↑z.fst : Int).toNat < l.length ∧ (i64ok z.snd ∧ z.snd ≤ (1000000 : Int) ∧ (-9223372036854775807 : Int) ≤ z.snd
 ∧ ByteArray.size (rd l (0 + (↑z.fst : Int).toNat) (ByteArray.mk (#[]))) ≤ 9223372036854775807) ∧ Into (K := KK) 0 [] [0] [VV.one (V1.c (C.ptr 0 0 0)), VV.one (V1.c (C.str (rd l (0 + (↑z.fst : Int).toNat)
 (ByteArray.mk (#[])))))] [Atom.cells 51 [C.int .i64 z.snd], Atom.ro Kd.str l] [VV.one (V1.c (C.ptr 0 0 0)), VV.one (V1.c (C.str (rd l (0 + (↑z.fst : Int).toNat) (ByteArray.mk (#[])))))] [Atom.cells 51
 [C.int .i64 z.snd]] ∧ ∀ (y : Unit), True → i64ok ((↑z.fst : Int) + (1 : Int)) ∧ Enter (1 + 1) (inv_ctexts x l) (fun (z' : Nat × Int) => l.length - z'.fst < l.length - z.fst) [VV.one (V1.c (C.ptr 0 0 0)),
 VV.one (V1.c (C.slc 1 0 l.length none)), VV.any, VV.any, i64 ((↑z.fst : Int) + (1 : Int)), i64 (↑z.fst : Int), VV.one (V1.c (C.slc 1 0 l.length none)), i64 (↑l.length : Int), boolv true, boolv true, VV.one
 (V1.c (C.ptr 0 0 0)), boolv (decide ((0 : Int) ≤ z.snd)), boolv (decide ((0 : Int) ≤ z.snd)), i64 (↑z.fst : Int), i64 ((↑z.fst : Int) + (1 : Int)), VV.one (V1.c (C.ptr 0 0 0)), VV.one (V1.c (C.slc 1 0
 l.length none)), i64 (↑z.fst : Int), VV.one (V1.c (C.ptr 1 (0 + (↑z.fst : Int).toNat) 0)), VV.one (V1.c (C.str (rd l (0 + (↑z.fst : Int).toNat) (ByteArray.mk (#[]))))), VV.tup []] [Atom.cells 51 [C.int
 .i64 (cAdd (cAdd z.snd (1 : Int)) (↑(ByteArray.size (rd l (0 + (↑z.fst : Int).toNat) (ByteArray.mk (#[])))) : Int))], Atom.ro Kd.str l]) (EndsAs (1 + 1) (ct_ctexts x l) (VV.tup []) [Atom.cells 51 [C.int
 .i64 z.snd], Atom.ro Kd.str l])) (EndsAs (1 + 1) (ct_ctexts x l) (VV.tup []) [Atom.cells 51 [C.int .i64 z.snd], Atom.ro Kd.str l])) := by kernel_rfl
theorem parts_succ (l : List ByteArray) (i : Nat) (h : i < l.length) : parts (l.take (i + 1)) = parts (l.take i) + (1 + (rd l i .empty).size) := by
  unfold parts rd
  rw [List.take_succ_eq_append_getElem h, List.map_append, List.sum_append, List.getD_eq_getElem?_getD, List.getElem?_eq_getElem h]
  simp
theorem ctexts_ok (x : Int) (l : List ByteArray) : CtOk Try.prog 11 (ct_ctexts x l) := CtOk_of KK_ok tab2 (ann1 (inv_ctexts x l)) (fn := Try.f11) rfl (fun _ _ => rfl) fun hn => by
  obtain ⟨h1, h2, h3, h4⟩ := hn
  rw [vc_ctexts]
  simp only [Int.toNat_natCast, Nat.zero_add]
  refine ⟨⟨((0 : Nat), x), [], [0, 1], ⟨Nat.zero_le _, Int.le_refl _, by omega, fun _ => by simp [parts]⟩, trivial, into_mk (by kernel_rfl) (by (repeat' first | exact trivial | exact rfl | apply And.intro)) (by (repeat' first | exact trivial | exact rfl | apply And.intro))⟩, fun z hz => ?_⟩
  obtain ⟨hz1, hz2, hz3, hz4⟩ := hz
  refine ite2_decide (fun hl => ⟨trivial, into_mk (by kernel_rfl) (by (repeat' first | exact trivial | exact rfl | apply And.intro)) (by (repeat' first | exact trivial | exact rfl | apply And.intro)), fun _ _ => ite2_decide (fun hp => ?_) (fun hp => ?_)⟩) (fun hl => ?_)
  · have hi : z.1 < l.length := by omega
    have hs : (rd l z.1 (ByteArray.mk #[])).size ≤ 9223372036854775807 := h4 _ (by unfold rd; rw [List.getD_eq_getElem?_getD, List.getElem?_eq_getElem hi]; exact List.getElem_mem hi)
    have hs' : (rd l z.1 .empty).size ≤ 9223372036854775807 := hs
    refine ⟨⟨by omega, by omega⟩, hi, trivial, hi, ⟨by unfold i64ok; omega, by omega, hz3, by omega⟩, into_mk (by kernel_rfl) (by (repeat' first | exact trivial | exact rfl | apply And.intro)) (by (repeat' first | exact trivial | exact rfl | apply And.intro)), fun _ _ => ⟨by unfold i64ok at *; omega, (z.1 + 1, cAdd (cAdd z.2 1) (rd l z.1 (ByteArray.mk #[])).size), [], [0, 1], ⟨hi, ?_, ?_, ?_⟩, ?_, into_mk (by kernel_rfl) (by (repeat' first | exact trivial | exact rfl | apply And.intro)) (by (repeat' first | exact trivial | exact rfl | apply And.intro))⟩⟩
    · show cAdd (cAdd z.2 1) _ ≤ x
      unfold cAdd; (repeat' split) <;> omega
    · show -9223372036854775807 ≤ cAdd (cAdd z.2 1) _
      unfold cAdd; (repeat' split) <;> omega
    · intro hy
      have hy : 0 ≤ cAdd (cAdd z.2 1) (rd l z.1 .empty).size := hy
      show ((parts (l.take (z.1 + 1)) : Nat) : Int) + cAdd (cAdd z.2 1) (rd l z.1 .empty).size ≤ x
      rw [parts_succ l z.1 hi]
      have := hz4 hp
      unfold cAdd at *; (repeat' split at hy) <;> (repeat' split) <;> omega
    · show l.length - (z.1 + 1) < l.length - z.1
      omega
  · exact ⟨z.2, [], [0, 1], fun h => absurd h hp, by (repeat' first | exact trivial | exact rfl | apply And.intro)⟩
  · refine ⟨z.2, [], [0, 1], fun h => ?_, by (repeat' first | exact trivial | exact rfl | apply And.intro)⟩
    have := hz4 h
    rw [List.take_of_length_le (by omega)] at this
    omega
end Go.Proofs.Ytnmidichehjbgaa.T
