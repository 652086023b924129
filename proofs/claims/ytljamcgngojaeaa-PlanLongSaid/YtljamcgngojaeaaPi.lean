/- The plan: sameInts. -/
import Derived.Test.YtljamcgngojaeaaPh
namespace Go.Proofs.Ytljamcgngojaeaa.T
open Go.Proofs.Ytljamcgngojaeaa.E
set_option maxRecDepth 100000
set_option linter.unusedVariables false
def tab7 : Tab Try.prog KK := ⟨mixed, fun f args H => match f, args with
  | 12, [.one (.agg [.slc n 0 len none]), .one (.c (.int _ a))] => match getL .cell (at_ H n) with
    | some l => some (ct_of l a, [], [n])
    | none => none
  | 12, [.one (.agg [.nils]), .one (.c (.int _ a))] => some (ct_of [] a, [.cell], [H.length])
  | f, args => tab6.pick f args H, fun f args H ct ks τ h => by
    split at h
    · split at h
      · cases h; exact of_ok _ _
      · cases h
    · cases h; exact of_ok _ _
    · exact tab6.ok _ _ _ _ _ _ h⟩
def ct_sameInts (a b : List Int) : Ct KK := { need := i64ok a.length, pre := [.ro .int a, .ro .int b], args := [.c (.slc 0 0 a.length none), .c (.slc 1 0 b.length none)], Y := Unit, ok := fun _ => True, ret := fun _ => boolv (decide (a = b)), post := fun _ => [.gone, .gone] }
def inv_sameInts (a b : List Int) : Inv KK := { X := Nat, fr := fun i => [.c (.slc 0 0 a.length none), .c (.slc 1 0 b.length none), .any, .any, .any, i64 i] ++ anys 20, H := fun _ => [.ro .int a, .ro .int b], ok := fun i => i ≤ a.length ∧ a.length = b.length ∧ a.take i = b.take i, meas := fun i : Nat => a.length - i }
theorem vc_sameInts (a b : List Int) : evFn tab7 (ann1 (inv_sameInts a b)) Try.f22 (ct_sameInts a b) = ( ite2 (decide ((↑a.length : Int) = (↑b.length : Int))) (Enter (1 + 1) (inv_sameInts a b) (fun (x : Nat) => True) [VV.one (V1.c (C.slc 0 0 a.length none)), VV.one (V1.c (C.slc 1 0 b.length none)), VV.any,
 VV.any, boolv false, i64 (0 : Int), VV.one (V1.c (C.slc 0 0 a.length none)), i64 (↑a.length : Int), VV.one (V1.c (C.slc 1 0 b.length none)), i64 (↑b.length : Int), boolv false, VV.any, VV.any, VV.any,
 VV.any, VV.any, VV.any, VV.any, VV.any, VV.any, VV.any, VV.any, VV.any, VV.any, VV.any, VV.any] [Atom.ro Kd.int a, Atom.ro Kd.int b] ∧ ∀ (z : Nat), z ≤ a.length ∧ a.length = b.length ∧ List.take z a =
 List.take z b → ite2 (decide ((↑z : Int) < (↑a.length : Int))) (((0 : Int) ≤ (↑z : Int) ∧ (↑z : Int) < (↑a.length : Int)) ∧ 0 + (↑z : Int).toNat < a.length ∧ True ∧ 0 + (↑z : Int).toNat < a.length ∧ ((0
 : Int) ≤ (↑z : Int) ∧ (↑z : Int) < (↑b.length : Int)) ∧ 0 + (↑z : Int).toNat < b.length ∧ True ∧ 0 + (↑z : Int).toNat < b.length ∧ ite2 (decide (rd a (0 + (↑z : Int).toNat) (0 : Int) = rd b (0 + (↑z :
 Int).toNat) (0 : Int))) (True ∧ i64ok ((↑z : Int) + (1 : Int)) ∧ Enter (1 + 1) (inv_sameInts a b) (fun (z' : Nat) => a.length - z' < a.length - z) [VV.one (V1.c (C.slc 0 0 a.length none)), VV.one (V1.c
 (C.slc 1 0 b.length none)), VV.any, VV.any, VV.any, i64 ((↑z : Int) + (1 : Int)), VV.any, VV.any, VV.any, VV.any, VV.any, i64 (↑z : Int), VV.one (V1.c (C.slc 0 0 a.length none)), i64 (↑a.length : Int),
 boolv true, i64 (↑z : Int), i64 ((↑z : Int) + (1 : Int)), VV.one (V1.c (C.slc 0 0 a.length none)), i64 (↑z : Int), VV.one (V1.c (C.ptr 0 (0 + (↑z : Int).toNat) 0)), i64 (rd a (0 + (↑z : Int).toNat) (0
 : Int)), VV.one (V1.c (C.slc 1 0 b.length none)), i64 (↑z : Int), VV.one (V1.c (C.ptr 1 (0 + (↑z : Int).toNat) 0)), i64 (rd b (0 + (↑z : Int).toNat) (0 : Int)), boolv false] [Atom.ro Kd.int a, Atom.ro
 Kd.int b]) (True ∧ EndsAs (1 + 1) (ct_sameInts a b) (boolv false) [Atom.ro Kd.int a, Atom.ro Kd.int b])) (EndsAs (1 + 1) (ct_sameInts a b) (boolv true) [Atom.ro Kd.int a, Atom.ro Kd.int b])) (EndsAs (1
 + 1) (ct_sameInts a b) (boolv false) [Atom.ro Kd.int a, Atom.ro Kd.int b])) := by kernel_rfl
theorem take_next {a b : List Int} {z : Nat} (h : a.take z = b.take z) (ha : z < a.length) (hb : z < b.length) (e : rd a z 0 = rd b z 0) : a.take (z + 1) = b.take (z + 1) := by
  unfold rd at e
  rw [List.getD_eq_getElem?_getD, List.getD_eq_getElem?_getD, List.getElem?_eq_getElem ha, List.getElem?_eq_getElem hb] at e
  rw [List.take_add_one, List.take_add_one, h, List.getElem?_eq_getElem ha, List.getElem?_eq_getElem hb]
  simp only [Option.getD_some] at e
  rw [e]
theorem sameInts_ok (a b : List Int) : CtOk Try.prog 22 (ct_sameInts a b) := CtOk_of KK_ok tab7 (ann1 (inv_sameInts a b)) (fn := Try.f22) rfl (fun _ _ => rfl) fun hlen => by
  have hlen : i64ok a.length := hlen
  rw [vc_sameInts]
  simp only [Int.toNat_natCast, Nat.zero_add]
  have fin : ∀ q, q = decide (a = b) → EndsAs (1 + 1) (ct_sameInts a b) (boolv q) [Atom.ro Kd.int a, Atom.ro Kd.int b] := fun q hq => by
    subst hq
    refine ⟨(), [], [0, 1], trivial, ?_⟩
    (repeat' first | exact trivial | exact rfl | apply And.intro)
  refine ite2_decide (fun hl => ⟨⟨(0 : Nat), [], [0, 1], ⟨Nat.zero_le _, by omega, by simp⟩, trivial, into_mk (by kernel_rfl) ?_ ?_⟩, fun z hz => ite2_decide (fun hz1 => ?_) (fun hz1 => ?_)⟩) (fun hl => fin _ (decide_eq_false fun h => hl (by rw [h])).symm)
  · (repeat' first | exact trivial | exact rfl | apply And.intro)
  · (repeat' first | exact trivial | exact rfl | apply And.intro)
  · obtain ⟨hz, hab, ht⟩ := hz
    refine ⟨by omega, by omega, trivial, by omega, by omega, by omega, trivial, by omega, ite2_decide (fun he => ⟨trivial, by unfold i64ok at *; omega, ⟨(z + 1 : Nat), [], [0, 1], ⟨by omega, hab, take_next ht (by omega) (by omega) he⟩, by omega, into_mk (by kernel_rfl) ?_ ?_⟩⟩) (fun he => ⟨trivial, fin _ (decide_eq_false fun h => he (by rw [h])).symm⟩)⟩
    · (repeat' first | exact trivial | exact rfl | apply And.intro)
    · (repeat' first | exact trivial | exact rfl | apply And.intro)
  · obtain ⟨hz, hab, ht⟩ := hz
    have e : z = a.length := by omega
    subst e
    exact fin _ (decide_eq_true (by rw [List.take_length, hab, List.take_length] at ht; exact ht)).symm
end Go.Proofs.Ytljamcgngojaeaa.T
