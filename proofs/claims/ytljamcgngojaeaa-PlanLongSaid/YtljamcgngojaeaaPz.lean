/- The plan: fits, beginning, proofs. -/
import Derived.Test.YtljamcgngojaeaaPy
namespace Go.Proofs.Ytljamcgngojaeaa.T
open Go.Proofs.Ytljamcgngojaeaa.E
set_option maxRecDepth 100000
set_option linter.unusedVariables false
theorem fitsB_ok (a f : Four) : CtOk Try.prog 23 (ct_fitsB a f) := CtOk_of KK_ok tab10 (annB a f) (fn := Try.f23) rfl (fun _ _ => rfl) fun _ => by
  rw [vc_fitsB]
  have no : fitsB a f = false → EndsAs 0 (ct_fitsB a f) (boolv false) (HB a f) := fun h => by
    have hq := h.symm
    exact ⟨(), [], [], trivial, by (repeat' first | exact trivial | exact rfl | exact hq | apply And.intro)⟩
  refine ⟨⟨(0 : Nat), [], [0, 1], ⟨Nat.zero_le _, fun h => absurd h (Nat.lt_irrefl _), fun h => absurd h (by decide)⟩, trivial, into_mk (by kernel_rfl) (by (repeat' first | exact trivial | exact rfl | apply And.intro)) (by (repeat' first | exact trivial | exact rfl | apply And.intro))⟩, fun z hz => ⟨ite2_decide (fun hlt => ?_) (fun hge => ?_), fun _ h0 => ⟨by decide, by decide, ite2_decide (fun hb => ⟨trivial, no ?_⟩) (fun h1 => ⟨by decide, by decide, ite2_decide (fun hb => ⟨trivial, no ?_⟩) (fun h2 => ⟨trivial, by unfold i64ok; decide, ⟨(1 : Nat), [], [0, 1], ⟨by decide, fun _ => ⟨Int.not_lt.1 h1, Int.not_lt.1 h2⟩, fun h => absurd h (by decide)⟩, by omega, into_mk (by kernel_rfl) (by (repeat' first | exact trivial | exact rfl | apply And.intro)) (by (repeat' first | exact trivial | exact rfl | apply And.intro))⟩⟩)⟩)⟩, fun _ h0 => ⟨by decide, by decide, ite2_decide (fun hb => ⟨trivial, no ?_⟩) (fun h1 => ⟨by decide, by decide, ite2_decide (fun hb => ⟨trivial, no ?_⟩) (fun h2 => ⟨trivial, by unfold i64ok; decide, ⟨(2 : Nat), [], [0, 1], ⟨by decide, fun _ => hz.2.1 (by omega), fun _ => ⟨Int.not_lt.1 h1, Int.not_lt.1 h2⟩⟩, by omega, into_mk (by kernel_rfl) (by (repeat' first | exact trivial | exact rfl | apply And.intro)) (by (repeat' first | exact trivial | exact rfl | apply And.intro))⟩⟩)⟩)⟩⟩⟩
  · obtain ⟨hz, _⟩ := hz
    rcases (by omega : z = 0 ∨ z = 1) with rfl | rfl
    · exact .inl ⟨(), [], [0, 1], rfl, trivial, into_mk (by kernel_rfl) (by (repeat' first | exact trivial | exact rfl | apply And.intro)) (by (repeat' first | exact trivial | exact rfl | apply And.intro))⟩
    · exact .inr ⟨(), [], [0, 1], rfl, trivial, into_mk (by kernel_rfl) (by (repeat' first | exact trivial | exact rfl | apply And.intro)) (by (repeat' first | exact trivial | exact rfl | apply And.intro))⟩
  · have hq : true = fitsB a f := (decide_eq_true ⟨hz.2.1 (by omega), hz.2.2 (by omega)⟩).symm
    exact ⟨(), [], [], trivial, by (repeat' first | exact trivial | exact rfl | exact hq | apply And.intro)⟩
  · exact decide_eq_false fun h => Int.not_lt.2 h.1.1 hb
  · exact decide_eq_false fun h => Int.not_lt.2 h.1.2 hb
  · exact decide_eq_false fun h => Int.not_lt.2 h.2.1 hb
  · exact decide_eq_false fun h => Int.not_lt.2 h.2.2 hb
theorem begF_len {l : List Cell} {its : List Item} {z : Nat} (h : z ≤ its.length) : (begF l its z).length = z := by unfold begF; rw [List.length_map, List.length_take]; omega
theorem begF_succ {l : List Cell} {its : List Item} {z : Nat} (h : z < its.length) : begF l its (z + 1) = begF l its z ++ [begC l (rd its z item0)] := map_take_succ (begC l) item0 h
set_option maxHeartbeats 4000000 in
theorem beg_ok (l : List Cell) (its : List Item) (left : List Int) (n0 b0 n1 b1 : Int) (n : Nat) : CtOk Try.prog 24 (ct_beg l its left n0 b0 n1 b1 n) := CtOk_of KK_ok tab10 (ann1 (invG3 l its left n0 b0 n1 b1 n)) (fn := Try.f24) rfl (fun _ _ => rfl) fun hn => by
  obtain ⟨hl, hn, h5, hi⟩ := hn
  rw [vc_beg]
  refine ⟨⟨(0 : Nat), [.cell], [0, 1, 2, 3, 4, 5, 6, 7], Nat.zero_le _, trivial, into_mk (by kernel_rfl) (by (repeat' first | exact trivial | exact rfl | apply And.intro)) (by (repeat' first | exact trivial | exact rfl | apply And.intro))⟩, fun z hz => ite2_decide (fun hlt => ?_) (fun hge => ?_)⟩
  · have hz' : z ≤ n := hz
    have z0 : z < its.length := by omega
    have z1 : (0 : Int) ≤ z ∧ (z : Int) < its.length := by omega
    have hlen := begF_len (l := l) (its := its) (z := z) (by omega)
    have hs := begF_succ (l := l) z0
    have ic : 0 ≤ (rd its z (KK.dflt Kd.item)).cell ∧ (rd its z (KK.dflt Kd.item)).cell < (l.length : Int) := hi _ (rd_mem' (d := item0) z0)
    have c0 : (rd its z (KK.dflt Kd.item)).cell.toNat < l.length := by omega
    have wl : z + 1 = (begF l its z).length + 1 := by rw [hlen]
    have hi1 : i64ok ((z : Int) + 1) := by unfold i64ok; omega
    have zn : z + 1 ≤ n := by omega
    simp only [Int.toNat_natCast, Nat.zero_add]
    refine ⟨z1, z0, trivial, z0, ic, c0, trivial, c0, trivial, trivial, hlen.symm, ?_⟩
    repeat' first | exact trivial | exact rfl | exact hi1 | omega | exact ⟨(z + 1 : Nat), [], [0, 1, 2, 3, 4, 5, 6, 10], zn, by omega, into_mk (by kernel_rfl) (by (repeat' first | exact trivial | exact rfl | exact wl.symm | apply And.intro)) (by simp only [invG3, hs]; (repeat' first | exact trivial | exact rfl | exact wl.symm | apply And.intro))⟩ | apply And.intro
  · have e : z = n := by have : z ≤ n := hz; omega
    subst e
    exact ⟨(), [], [0, 1, 2, 7], trivial, by (repeat' first | exact trivial | exact rfl | apply And.intro)⟩
end Go.Proofs.Ytljamcgngojaeaa.T
