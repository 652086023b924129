/- What the reference's Name tells, and the law PathChecks. -/
import Derived.Test.YtnnpjkpmankeiaaQBase
import Derived.Test.YtnnpjkpmankeiaaPLx1
namespace Go.Proofs.Ytnnpjkpmankeiaa.Q
open Go.RowKit Go.Proofs.Ytnnpjkpmankeiaa.PL Go.Proofs.Ytnnpjkpmankeiaa.Hand Go.Proofs.Ytnnpjkpmankeiaa.MStr Go.Proofs.YtnnpjkpmankeiaaW.PrintWords Go.Proofs.YtnnpjkpmankeiaaW.PrintLast
set_option linter.unusedVariables false
set_option linter.unusedSimpArgs false

theorem bad_iff (c : UInt8) : badByte c = true ↔ c = 47 ∨ c = 0 := by
  unfold badByte
  rw [Bool.or_eq_true, beq_iff_eq, beq_iff_eq]
  exact ⟨fun h => h.imp (fun h => UInt8.toNat_inj.1 h) (fun h => UInt8.toNat_inj.1 h), fun h => h.imp (fun h => by rw [h]; rfl) (fun h => by rw [h]; rfl)⟩
theorem name_l0 (s : ByteArray) (hs : s.size ≤ 9000000000000000000) (n : Nat) : ∀ i, s.size - i = n → Ev (fun k => twineref3_Name.l0 k s (i : Nat)) (! (s.data.toList.drop i).any badByte) := by
  induction n with
  | zero =>
    intro i h
    refine Ev.succ ?_
    simp only [twineref3_Name.l0]
    refine Ev.neg (by omega) (Ev.ret ?_)
    rw [List.drop_eq_nil_of_le (by rw [size_list]; omega)]
    rfl
  | succ n ih =>
    intro i h
    refine Ev.succ ?_
    simp only [twineref3_Name.l0]
    refine Ev.pos (by omega) (Ev.pos (by omega) ?_)
    have hd := drop_get s i (by omega)
    refine Ev.either (fun h1 => Ev.ret ?_) (fun h1 => Ev.either (fun h2 => Ev.ret ?_) (fun h2 => ?_))
    · have e := (bt_eq s i (by omega) 47).1 h1
      rw [hd, List.any_cons, (bad_iff _).2 (.inl e)]
      rfl
    · have e := (bt_eq s i (by omega) 0).1 h2
      rw [hd, List.any_cons, (bad_iff _).2 (.inr e)]
      rfl
    · rw [wrap_up i (by omega)]
      refine (ih (i + 1) (by omega)).as ?_
      have e : badByte (s.get! i) = false := by
        rw [Bool.eq_false_iff]
        intro hc
        rcases (bad_iff _).1 hc with e | e
        · exact h1 ((bt_eq s i (by omega) 47).2 e)
        · exact h2 ((bt_eq s i (by omega) 0).2 e)
      rw [hd, List.any_cons, e, Bool.false_or]
theorem name_ev (s : ByteArray) (hs : s.size ≤ 9000000000000000000) : Ev (fun k => twineref3_Name.f k s) (nameB s) := by
  have hj : nameB s = false → Ev (fun k => twineref3_Name.j0 k s true) (nameB s) := by
    intro h
    refine Ev.succ ?_
    simp only [twineref3_Name.j0]
    exact Ev.pos (by trivial) (Ev.ret h.symm)
  unfold twineref3_Name.f
  refine Ev.either (fun h => hj ?_) (fun h1 => Ev.either (fun h => hj ?_) (fun h2 => Ev.either (fun h => hj ?_) (fun h3 => ?_)))
  · simp [nameB]; omega
  · simp [nameB]; omega
  · simp [nameB, h]
  · by_cases h4 : s.toList = ([46, 46] : List UInt8)
    · rw [beq_iff_eq.2 h4]
      exact hj (by simp [nameB, h4])
    · rw [beq_eq_false_iff_ne.2 h4]
      refine Ev.succ ?_
      simp only [twineref3_Name.j0]
      refine Ev.neg (by simp) ?_
      refine (name_l0 s hs s.size 0 (by omega)).as ?_
      have e1 : decide (1 ≤ s.size) = true := decide_eq_true (by omega)
      have e2 : decide (s.size ≤ 255) = true := decide_eq_true (by omega)
      simp only [nameB, e1, e2, beq_eq_false_iff_ne.2 h3, beq_eq_false_iff_ne.2 h4, List.drop_zero, Bool.not_false, Bool.and_true, Bool.true_and]
theorem check_ev (s : ByteArray) (hs : s.size ≤ 9000000000000000000) : Ev (fun k => twineref3_Check.f k s) (if nameB s = true then 0 else 30) := by
  unfold twineref3_Check.f
  refine Ev.bind (name_ev s hs) ?_
  exact Ev.either (fun h => Ev.ret (by rw [if_pos h])) (fun h => Ev.ret (by rw [if_neg h]))
theorem pathChecks_ev : twinelaw3_PathChecks.Pure := by
  intro s hs
  apply Ev.rounds
  unfold twinelaw3_PathChecks.f
  refine Ev.once (x := path_Check.f s) rfl ?_
  refine Ev.once (x := twinelaw3_num.f _) rfl ?_
  refine Ev.bind (check_ev s (by omega)) (Ev.ret ?_)
  exact beq_self_eq_true _
end Go.Proofs.Ytnnpjkpmankeiaa.Q
