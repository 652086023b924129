/- Text 6 of 13 texts that prove the statement of Vx; it holds without conditions beyond the statement's own. -/
import Derived.Orders
namespace Go.Proofs.YtndlpbheifalhaaGreatDoor
end Go.Proofs.YtndlpbheifalhaaGreatDoor
namespace Go.Proofs.YtndlpbheifalhaaGreatDoor.E
end Go.Proofs.YtndlpbheifalhaaGreatDoor.E
namespace Go.Proofs.YtndlpbheifalhaaGreatDoor.T
end Go.Proofs.YtndlpbheifalhaaGreatDoor.T
namespace Go.Proofs.YtndlpbheifalhaaGreatDoor.TwireMany
end Go.Proofs.YtndlpbheifalhaaGreatDoor.TwireMany
namespace Go.Proofs.YtndlpbheifalhaaGreatDoor.V
end Go.Proofs.YtndlpbheifalhaaGreatDoor.V
section
namespace Go.Proofs.YtndlpbheifalhaaGreatDoor.E
set_option linter.unusedSimpArgs false
section
variable {P : Program} {ops : Array Oper} {Q : Exit → Act → World → Prop} {md : Region.Mode}
theorem unready {l : Array Bool} (h : ∀ i, i < ops.size → l.getD i true = true) : Region.ready md ops l = [] := by
  unfold Region.ready
  rw [List.filter_eq_nil_iff]
  intro i hi
  rw [h i (List.mem_range.1 hi)]
  simp
theorem wpAny_inv {Inv : Array Bool → Act → World → Prop}
    (hstep : ∀ l a w i, l.size = ops.size → Inv l a w → i ∈ Region.ready md ops l → wpOp P ops Q i (Inv (l.setIfInBounds i true)) a w)
    (hdone : ∀ l a w, l.size = ops.size → Inv l a w → Region.ready md ops l = [] → Q .normal a w) :
    ∀ (fuel : Nat) (l : Array Bool) (a : Act) (w : World), l.size = ops.size → l.toList.countP (fun b => !b) ≤ fuel → Inv l a w → wpAny P md ops Q fuel l a w
  | 0, l, a, w, hs, hc, hI => by
    have hr : Region.ready md ops l = [] := unready fun i hi => by
      have h0 := List.countP_eq_zero.1 (Nat.le_zero.1 hc)
      have hl : i < l.size := by omega
      rw [Array.getD_eq_getD_getElem?, Array.getElem?_eq_getElem hl, Option.getD_some]
      simpa using h0 l[i] (by simp)
    exact ⟨hr, hdone l a w hs hI hr⟩
  | fuel + 1, l, a, w, hs, hc, hI => by
    refine ⟨fun hr => hdone l a w hs hI hr, fun i hi => ?_⟩
    refine wpOp_mono (fun a' w' h' => wpAny_inv hstep hdone fuel _ a' w' (by simpa using hs) ?_ h') (hstep l a w i hs hI hi)
    have hi' := hi
    simp only [Region.ready, List.mem_filter, List.mem_range, Bool.and_eq_true, Bool.not_eq_true'] at hi'
    have hl : i < l.size := by omega
    have h1 : l[i] = false := by
      have := hi'.2.1
      rwa [Array.getD_eq_getD_getElem?, Array.getElem?_eq_getElem hl, Option.getD_some] at this
    have h2 : (l.setIfInBounds i true).toList = l.toList.set i true := by simp
    rw [h2, List.countP_set (by simpa using hl)]
    have h3 : l.toList[i]'(by simpa using hl) = false := by simpa using h1
    rw [h3]
    have h4 : 0 < l.toList.countP (fun b => !b) := List.countP_pos_iff.2 ⟨false, by rw [← h3]; exact List.getElem_mem _, rfl⟩
    simp only [Bool.not_false, if_true, Bool.not_true, Bool.false_eq_true, if_false]
    omega
/-- A region that draws, by its invariant, from its start. -/
theorem region_inv {id n : Nat} {a : Act} {w : World} (Inv : Array Bool → Act → World → Prop) (hm : P.follows .mixedOrders = true) (hn : ops.size = n)
    (h0 : Inv (Array.replicate n false) a { w with drawn := w.drawn + 1 })
    (hstep : ∀ l a w i, l.size = n → Inv l a w → i ∈ Region.ready .any ops l → wpOp P ops Q i (Inv (l.setIfInBounds i true)) a w)
    (hdone : ∀ l a w, l.size = n → Inv l a w → Region.ready .any ops l = [] → Q .normal a w) : (Code.region id ops true).wp P Q a w := by
  subst hn
  refine wp_region_any hm (wpAny_inv hstep hdone _ _ _ _ (by simp) ?_ h0)
  exact Nat.le_trans List.countP_le_length (by simp)
end
end Go.Proofs.YtndlpbheifalhaaGreatDoor.E
end
