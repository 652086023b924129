/- The plan: lists of numbers, carrying. -/
import Derived.Test.YtljamcgngojaeaaPb
namespace Go.Proofs.Ytljamcgngojaeaa.T
open Go.Proofs.Ytljamcgngojaeaa.E
set_option maxRecDepth 100000
set_option linter.unusedVariables false
def getL (k : Kd) (a : Atom KK) : Option (List (Kd.α k)) := match a.lst with
  | some ⟨k', xs⟩ => match KK.deq k' k with
    | .isTrue h => some (castK KK h xs)
    | .isFalse _ => none
  | none => none
def ct_in (l : List Int) (n : Int) : Ct KK := { need := i64ok l.length, pre := [.ro .int l], args := [.c (.slc 0 0 l.length none), i64 n], Y := Unit, ok := fun _ => True, ret := fun _ => boolv (decide (n ∈ l)), post := fun _ => [.gone] }
def inv_in (l : List Int) (n : Int) : Inv KK := { X := Nat, fr := fun i => [.c (.slc 0 0 l.length none), i64 n, .any, .any, boolv false, i64 i] ++ anys 12, H := fun _ => [.ro .int l], ok := fun i => i ≤ l.length ∧ n ∉ l.take i, meas := fun i : Nat => l.length - i }
def indexF (l : List Int) (n : Int) : Int := if n ∈ l then (l.idxOf n : Int) else -1
def ct_index (l : List Int) (n : Int) : Ct KK := { need := i64ok l.length, pre := [.ro .int l], args := [.c (.slc 0 0 l.length none), i64 n], Y := Int, ok := fun y => (0 ≤ y ↔ n ∈ l), ret := fun y => i64 y, post := fun _ => [.gone] }
def inv_index (l : List Int) (n : Int) : Inv KK := { X := Nat, fr := fun i => [.c (.slc 0 0 l.length none), i64 n, .any, .any, .any, .any, .c (.slc 0 0 l.length none), i64 l.length, i64 i] ++ anys 10, H := fun _ => [.ro .int l], ok := fun i => i ≤ l.length ∧ n ∉ l.take i, meas := fun i : Nat => l.length - i }
def ct_carry (n a : Int) (c : Cell) : Ct KK := { need := i64ok n ∧ i64ok a ∧ c.Ok, pre := [], args := [.agg [.int .i64 n, .int .i64 a], .agg (KK.enc .cell c)], Y := Unit, ok := fun _ => True, ret := fun _ => .tup [.agg [.int .i64 (addF n (max c.names 0)), .int .i64 (addF a (max c.bytes 0))], .agg [.int .i64 (addF (addF n (max c.names 0)) (0 - max c.hadN 0)), .int .i64 (addF (addF a (max c.bytes 0)) (0 - max c.hadB 0))]], post := fun _ => [] }
theorem vc_in (l : List Int) (n : Int) : evFn tab1 (ann1 (inv_in l n)) Try.f14 (ct_in l n) = ( Enter 1 (inv_in l n) (fun (x : Nat) => True) [VV.one (V1.c (C.slc 0 0 l.length none)), i64 n, VV.any, VV.any, boolv false, i64 (0 : Int), VV.any, VV.any, VV.any, VV.any, VV.any, VV.any, VV.any, VV.any,
 VV.any, VV.any, VV.any, VV.any] [Atom.ro Kd.int l] ∧ ∀ (z : Nat), z ≤ l.length ∧ ¬n ∈ List.take z l → ite2 (decide ((↑z : Int) < (↑l.length : Int))) (((0 : Int) ≤ (↑z : Int) ∧ (↑z : Int) < (↑l.length :
 Int)) ∧ 0 + (↑z : Int).toNat < l.length ∧ True ∧ 0 + (↑z : Int).toNat < l.length ∧ ite2 (decide (rd l (0 + (↑z : Int).toNat) (0 : Int) = n)) (EndsAs 1 (ct_in l n) (boolv true) [Atom.ro Kd.int l]) (i64ok
 ((↑z : Int) + (1 : Int)) ∧ Enter 1 (inv_in l n) (fun (z' : Nat) => l.length - z' < l.length - z) [VV.one (V1.c (C.slc 0 0 l.length none)), i64 n, VV.any, VV.any, boolv false, i64 ((↑z : Int) + (1 : Int)),
 i64 (↑z : Int), VV.one (V1.c (C.slc 0 0 l.length none)), i64 (↑l.length : Int), boolv true, i64 (↑z : Int), i64 ((↑z : Int) + (1 : Int)), VV.one (V1.c (C.slc 0 0 l.length none)), i64 (↑z : Int), VV.one
 (V1.c (C.ptr 0 (0 + (↑z : Int).toNat) 0)), i64 (rd l (0 + (↑z : Int).toNat) (0 : Int)), i64 n, boolv false] [Atom.ro Kd.int l])) (EndsAs 1 (ct_in l n) (boolv false) [Atom.ro Kd.int l])) := by kernel_rfl
theorem vc_index (l : List Int) (n : Int) : evFn tab1 (ann1 (inv_index l n)) Try.f38 (ct_index l n) = ( Enter 1 (inv_index l n) (fun (x : Nat) => True) [VV.one (V1.c (C.slc 0 0 l.length none)), i64 n, VV.any, VV.any, i64 (0 : Int), VV.any, VV.one (V1.c (C.slc 0 0 l.length none)), i64 (↑l.length : Int),
 i64 (0 : Int), VV.any, VV.any, VV.any, VV.any, VV.any, VV.any, VV.any, VV.any, VV.any, VV.any] [Atom.ro Kd.int l] ∧ ∀ (z : Nat), z ≤ l.length ∧ ¬n ∈ List.take z l → ite2 (decide ((↑z : Int) < (↑l.length
 : Int))) (((0 : Int) ≤ (↑z : Int) ∧ (↑z : Int) < (↑l.length : Int)) ∧ 0 + (↑z : Int).toNat < l.length ∧ True ∧ 0 + (↑z : Int).toNat < l.length ∧ ite2 (decide (n = rd l (0 + (↑z : Int).toNat) (0 : Int)))
 (EndsAs 1 (ct_index l n) (i64 (↑z : Int)) [Atom.ro Kd.int l]) (i64ok ((↑z : Int) + (1 : Int)) ∧ Enter 1 (inv_index l n) (fun (z' : Nat) => l.length - z' < l.length - z) [VV.one (V1.c (C.slc 0 0 l.length
 none)), i64 n, VV.any, VV.any, VV.any, i64 (↑z : Int), VV.one (V1.c (C.slc 0 0 l.length none)), i64 (↑l.length : Int), i64 ((↑z : Int) + (1 : Int)), boolv true, i64 (↑z : Int), i64 n, VV.one (V1.c (C.slc
 0 0 l.length none)), i64 (↑z : Int), VV.one (V1.c (C.ptr 0 (0 + (↑z : Int).toNat) 0)), i64 (rd l (0 + (↑z : Int).toNat) (0 : Int)), boolv false, VV.any, i64 ((↑z : Int) + (1 : Int))] [Atom.ro Kd.int l]))
 (EndsAs 1 (ct_index l n) (i64 (-1 : Int)) [Atom.ro Kd.int l])) := by kernel_rfl
theorem vc_carry (n a : Int) (c : Cell) : evFn tab1 ann0 Try.f31 (ct_carry n a c) = ( True ∧ (i64ok n ∧ i64ok (max c.names (0 : Int))) ∧ Into (K := KK) 0 [] [] [i64 n, i64 (max c.names (0 : Int))] [Atom.cells 64 [C.int .i64 n, C.int .i64 a], Atom.cells 44 [C.str c.path, C.int .i64 c.what,
 C.int .i64 c.side, C.int .i64 c.mode, C.int .i64 c.keep, C.int .i64 c.take, C.int .i64 c.names, C.int .i64 c.bytes, C.int .i64 c.hadN, C.int .i64 c.hadB], Atom.cells 31 [C.int .i64 (0 : Int), C.int .i64
 (0 : Int)], Atom.cells 64 [C.int .i64 (0 : Int), C.int .i64 (0 : Int)], Atom.gone] [i64 n, i64 (max c.names (0 : Int))] [] ∧ ∀ (y : Unit), True → (i64 a = i64 a ∧ i64 c.bytes = i64 c.bytes ∧ True) ∧ (i64ok
 a ∧ i64ok (max c.bytes (0 : Int))) ∧ Into (K := KK) 0 [] [] [i64 a, i64 (max c.bytes (0 : Int))] [Atom.cells 64 [C.int .i64 n, C.int .i64 a], Atom.cells 44 [C.str c.path, C.int .i64 c.what, C.int .i64
 c.side, C.int .i64 c.mode, C.int .i64 c.keep, C.int .i64 c.take, C.int .i64 c.names, C.int .i64 c.bytes, C.int .i64 c.hadN, C.int .i64 c.hadB], Atom.cells 31 [C.int .i64 (0 : Int), C.int .i64 (0 : Int)],
 Atom.cells 64 [C.int .i64 (0 : Int), C.int .i64 (0 : Int)], Atom.gone] [i64 a, i64 (max c.bytes (0 : Int))] [] ∧ ∀ (y : Unit), True → True ∧ True ∧ i64ok ((0 : Int) - max c.hadN (0 : Int)) ∧ i64ok ((0
 : Int) - max c.hadB (0 : Int)) ∧ True ∧ (i64ok (addF n (max c.names (0 : Int))) ∧ i64ok ((0 : Int) - max c.hadN (0 : Int))) ∧ Into (K := KK) 0 [] [] [i64 (addF n (max c.names (0 : Int))), i64 ((0 : Int)
 - max c.hadN (0 : Int))] [Atom.cells 64 [C.int .i64 n, C.int .i64 a], Atom.cells 44 [C.str c.path, C.int .i64 c.what, C.int .i64 c.side, C.int .i64 c.mode, C.int .i64 c.keep, C.int .i64 c.take, C.int .i64
 c.names, C.int .i64 c.bytes, C.int .i64 c.hadN, C.int .i64 c.hadB], Atom.cells 31 [C.int .i64 (0 : Int), C.int .i64 (0 : Int)], Atom.cells 64 [C.int .i64 (0 : Int), C.int .i64 (0 : Int)], Atom.cells 31
 [C.int .i64 (addF n (max c.names (0 : Int))), C.int .i64 (addF a (max c.bytes (0 : Int)))]] [i64 (addF n (max c.names (0 : Int))), i64 ((0 : Int) - max c.hadN (0 : Int))] [] ∧ ∀ (y : Unit), True → (VV.one
 (V1.agg [C.int .i64 (addF n (max c.names (0 : Int))), C.int .i64 (addF a (max c.bytes (0 : Int)))]) = VV.one (V1.agg [C.int .i64 (addF n (max c.names (0 : Int))), C.int .i64 (addF a (max c.bytes (0 : Int)))])
 ∧ i64 (addF a (max c.bytes (0 : Int))) = i64 (addF a (max c.bytes (0 : Int))) ∧ i64 c.hadB = i64 c.hadB ∧ True) ∧ (i64ok (addF a (max c.bytes (0 : Int))) ∧ i64ok ((0 : Int) - max c.hadB (0 : Int))) ∧ Into
 (K := KK) 0 [] [] [i64 (addF a (max c.bytes (0 : Int))), i64 ((0 : Int) - max c.hadB (0 : Int))] [Atom.cells 64 [C.int .i64 n, C.int .i64 a], Atom.cells 44 [C.str c.path, C.int .i64 c.what, C.int .i64
 c.side, C.int .i64 c.mode, C.int .i64 c.keep, C.int .i64 c.take, C.int .i64 c.names, C.int .i64 c.bytes, C.int .i64 c.hadN, C.int .i64 c.hadB], Atom.cells 31 [C.int .i64 (0 : Int), C.int .i64 (0 : Int)],
 Atom.cells 64 [C.int .i64 (0 : Int), C.int .i64 (0 : Int)], Atom.cells 31 [C.int .i64 (addF n (max c.names (0 : Int))), C.int .i64 (addF a (max c.bytes (0 : Int)))]] [i64 (addF a (max c.bytes (0 : Int))),
 i64 ((0 : Int) - max c.hadB (0 : Int))] [] ∧ ∀ (y : Unit), True → (VV.one (V1.agg [C.int .i64 (addF n (max c.names (0 : Int))), C.int .i64 (addF a (max c.bytes (0 : Int)))]) = VV.one (V1.agg [C.int .i64
 (addF n (max c.names (0 : Int))), C.int .i64 (addF a (max c.bytes (0 : Int)))]) ∧ True) ∧ True ∧ True ∧ EndsAs 0 (ct_carry n a c) (VV.tup [V1.agg [C.int .i64 (addF n (max c.names (0 : Int))), C.int .i64
 (addF a (max c.bytes (0 : Int)))], V1.agg [C.int .i64 (addF (addF n (max c.names (0 : Int))) ((0 : Int) - max c.hadN (0 : Int))), C.int .i64 (addF (addF a (max c.bytes (0 : Int))) ((0 : Int) - max c.hadB
 (0 : Int)))]]) [Atom.cells 64 [C.int .i64 n, C.int .i64 a], Atom.cells 44 [C.str c.path, C.int .i64 c.what, C.int .i64 c.side, C.int .i64 c.mode, C.int .i64 c.keep, C.int .i64 c.take, C.int .i64 c.names,
 C.int .i64 c.bytes, C.int .i64 c.hadN, C.int .i64 c.hadB], Atom.cells 31 [C.int .i64 (addF n (max c.names (0 : Int))), C.int .i64 (addF a (max c.bytes (0 : Int)))], Atom.cells 64 [C.int .i64 (addF (addF
 n (max c.names (0 : Int))) ((0 : Int) - max c.hadN (0 : Int))), C.int .i64 (addF (addF a (max c.bytes (0 : Int))) ((0 : Int) - max c.hadB (0 : Int)))], Atom.cells 31 [C.int .i64 (addF n (max c.names (0
 : Int))), C.int .i64 (addF a (max c.bytes (0 : Int)))]]) := by kernel_rfl
theorem not_take {l : List Int} {n : Int} {z : Nat} (h : n ∉ l.take z) (hz : z < l.length) (hne : rd l z 0 ≠ n) : n ∉ l.take (z + 1) := by
  rw [List.take_add_one, List.getElem?_eq_getElem hz]
  unfold rd at hne
  rw [List.getD_eq_getElem?_getD, List.getElem?_eq_getElem hz] at hne
  simp only [Option.toList, List.mem_append, List.mem_singleton]
  rintro (h' | h')
  · exact h h'
  · exact hne h'.symm
theorem rd_mem {l : List Int} {z : Nat} (hz : z < l.length) : rd l z 0 ∈ l := by
  unfold rd
  rw [List.getD_eq_getElem?_getD, List.getElem?_eq_getElem hz]
  exact List.getElem_mem hz
theorem in_ok (l : List Int) (n : Int) : CtOk Try.prog 14 (ct_in l n) := CtOk_of KK_ok tab1 (ann1 (inv_in l n)) (fn := Try.f14) rfl (fun _ _ => rfl) fun hlen => by
  have hlen : i64ok l.length := hlen
  rw [vc_in]
  simp only [Int.toNat_natCast, Nat.zero_add]
  have fin : ∀ b, b = decide (n ∈ l) → EndsAs 1 (ct_in l n) (boolv b) [Atom.ro Kd.int l] := fun b hb => by
    subst hb
    refine ⟨(), [], [0], trivial, ?_⟩
    (repeat' first | exact trivial | exact rfl | apply And.intro)
  refine ⟨⟨(0 : Nat), [], [0], ⟨Nat.zero_le _, by simp⟩, trivial, into_mk (by kernel_rfl) ?_ ?_⟩, fun z hz => ite2_decide (fun hz1 => ?_) (fun hz1 => ?_)⟩
  · (repeat' first | exact trivial | exact rfl | apply And.intro)
  · (repeat' first | exact trivial | exact rfl | apply And.intro)
  · obtain ⟨hz, hz2⟩ := hz
    refine ⟨by omega, by omega, trivial, by omega, ite2_decide (fun he => ?_) (fun he => ?_)⟩
    · exact fin _ (by rw [eq_comm, decide_eq_true_iff, ← he]; exact rd_mem (by omega))
    · refine ⟨by unfold i64ok at *; omega, ⟨(z + 1 : Nat), [], [0], ⟨by omega, not_take hz2 (by omega) he⟩, by omega, into_mk (by kernel_rfl) ?_ ?_⟩⟩
      · (repeat' first | exact trivial | exact rfl | apply And.intro)
      · (repeat' first | exact trivial | exact rfl | apply And.intro)
  · obtain ⟨hz, hz2⟩ := hz
    have e : z = l.length := by omega
    subst e
    exact fin _ (by rw [List.take_length] at hz2; simp [hz2])
theorem index_ok (l : List Int) (n : Int) : CtOk Try.prog 38 (ct_index l n) := CtOk_of KK_ok tab1 (ann1 (inv_index l n)) (fn := Try.f38) rfl (fun _ _ => rfl) fun hlen => by
  have hlen : i64ok l.length := hlen
  rw [vc_index]
  simp only [Int.toNat_natCast, Nat.zero_add]
  have fin : ∀ y : Int, (0 ≤ y ↔ n ∈ l) → EndsAs 1 (ct_index l n) (i64 y) [Atom.ro Kd.int l] := fun y hy => by
    refine ⟨y, [], [0], hy, ?_⟩
    (repeat' first | exact trivial | exact rfl | apply And.intro)
  refine ⟨⟨(0 : Nat), [], [0], ⟨Nat.zero_le _, by simp⟩, trivial, into_mk (by kernel_rfl) ?_ ?_⟩, fun z hz => ite2_decide (fun hz1 => ?_) (fun hz1 => ?_)⟩
  · (repeat' first | exact trivial | exact rfl | apply And.intro)
  · (repeat' first | exact trivial | exact rfl | apply And.intro)
  · obtain ⟨hz, hz2⟩ := hz
    refine ⟨by omega, by omega, trivial, by omega, ite2_decide (fun he => ?_) (fun he => ?_)⟩
    · exact fin _ ⟨fun _ => by rw [he]; exact rd_mem (by omega), fun _ => by omega⟩
    · refine ⟨by unfold i64ok at *; omega, ⟨(z + 1 : Nat), [], [0], ⟨by omega, not_take hz2 (by omega) (fun h => he h.symm)⟩, by omega, into_mk (by kernel_rfl) ?_ ?_⟩⟩
      · (repeat' first | exact trivial | exact rfl | apply And.intro)
      · (repeat' first | exact trivial | exact rfl | apply And.intro)
  · obtain ⟨hz, hz2⟩ := hz
    have e : z = l.length := by omega
    subst e
    exact fin _ ⟨fun h => by omega, fun h => by rw [List.take_length] at hz2; exact absurd h hz2⟩
theorem max0_ok {a : Int} (h : i64ok a) : i64ok (max a 0) ∧ i64ok (0 - max a 0) := by unfold i64ok at *; omega
theorem carry_ok (n a : Int) (c : Cell) : CtOk Try.prog 31 (ct_carry n a c) := CtOk_of KK_ok tab1 ann0 (fn := Try.f31) rfl (fun _ _ => rfl) fun hn => by
  obtain ⟨hn, ha, hc⟩ := hn
  rw [vc_carry]
  have h1 := max0_ok hc.names
  have h2 := max0_ok hc.bytes
  have h3 := max0_ok hc.hadN
  have h4 := max0_ok hc.hadB
  have h5 := addF_ok _ _ hn h1.1
  have h6 := addF_ok _ _ ha h2.1
  repeat' first | exact trivial | exact rfl | assumption | exact h3.2 | exact h4.2 | exact h1.1 | exact h2.1 | (intro _) | (refine into_mk (by kernel_rfl) ?_ ?_) | (refine ⟨(), [], [], trivial, ?_⟩) | apply And.intro
end Go.Proofs.Ytljamcgngojaeaa.T
