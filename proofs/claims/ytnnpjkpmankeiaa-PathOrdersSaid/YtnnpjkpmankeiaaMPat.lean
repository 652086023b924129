/- Plain facts on patterns: what it means that signs fit things, and that the program's way (the last many-sign grows till the rest fits) decides it. No program. -/
import Derived.Test.YtnnpjkpmankeiaaMStr
namespace Go.Proofs.Ytnnpjkpmankeiaa.MPat
set_option linter.unusedVariables false
set_option linter.unusedSimpArgs false

/-- Do the signs from i on (of n) fit the things from k on (of them)? M: many; O: just this one. -/
def mt (n of : Nat) (M : Nat → Bool) (O : Nat → Nat → Bool) (i k : Nat) : Bool :=
  if i < n then
    if M i then mt n of M O (i + 1) k || (if k < of then mt n of M O i (k + 1) else false)
    else if k < of then O i k && mt n of M O (i + 1) (k + 1) else false
  else decide (of ≤ k)
termination_by (n - i) + (of - k)

section
variable {n of : Nat} {M : Nat → Bool} {O : Nat → Nat → Bool}
theorem mt_end {i k : Nat} (h : ¬ i < n) : mt n of M O i k = decide (of ≤ k) := by rw [mt, if_neg h]
theorem mt_many {i k : Nat} (h : i < n) (hM : M i = true) : mt n of M O i k = (mt n of M O (i + 1) k || (if k < of then mt n of M O i (k + 1) else false)) := by
  rw [mt, if_pos h, if_pos hM]
theorem mt_one {i k : Nat} (h : i < n) (hM : M i = false) : mt n of M O i k = (if k < of then O i k && mt n of M O (i + 1) (k + 1) else false) := by
  rw [mt, if_pos h, if_neg (by simp [hM])]
/-- A many-sign may begin earlier. -/
theorem mt_early {i k : Nat} (h : i < n) (hM : M i = true) (d : Nat) : k + d ≤ of → mt n of M O i (k + d) = true → mt n of M O i k = true := by
  induction d with
  | zero => exact fun _ h => h
  | succ d ih =>
    intro h1 h2
    apply ih (by omega)
    rw [mt_many h hM, if_pos (by omega), show k + d + 1 = k + (d + 1) from rfl, h2]
    simp
/-- What a many-sign takes: any number. -/
theorem mt_star {i k : Nat} (h : i < n) (hM : M i = true) (hk : k ≤ of) : mt n of M O i k = true ↔ ∃ j, k ≤ j ∧ j ≤ of ∧ mt n of M O (i + 1) j = true := by
  constructor
  · have key : ∀ d k, of - k = d → k ≤ of → mt n of M O i k = true → ∃ j, k ≤ j ∧ j ≤ of ∧ mt n of M O (i + 1) j = true := by
      intro d
      induction d with
      | zero =>
        intro k h1 h2 h3
        rw [mt_many h hM, if_neg (by omega), Bool.or_false] at h3
        exact ⟨k, Nat.le_refl _, h2, h3⟩
      | succ d ih =>
        intro k h1 h2 h3
        rw [mt_many h hM, if_pos (by omega), Bool.or_eq_true] at h3
        rcases h3 with h3 | h3
        · exact ⟨k, Nat.le_refl _, h2, h3⟩
        · obtain ⟨j, a, b, c⟩ := ih (k + 1) (by omega) (by omega) h3
          exact ⟨j, by omega, b, c⟩
    exact key _ k rfl hk
  · rintro ⟨j, h1, h2, h3⟩
    obtain ⟨d, rfl⟩ : ∃ d, j = k + d := ⟨j - k, by omega⟩
    apply mt_early h hM d h2
    rw [mt_many h hM, h3, Bool.true_or]
/-- Over a stretch without many-signs each sign takes one thing. -/
theorem mt_seg {b : Nat} (m : Nat) : ∀ j, (∀ d, d < m → M (b + d) = false) → b + m ≤ n → j ≤ of → mt n of M O b j = true → j + m ≤ of ∧ mt n of M O (b + m) (j + m) = true := by
  induction m with
  | zero => exact fun j _ _ h1 h2 => ⟨h1, h2⟩
  | succ m ih =>
    intro j h1 h2 h3 h4
    obtain ⟨a, c⟩ := ih j (fun d hd => h1 d (by omega)) (by omega) h3 h4
    rw [mt_one (by omega) (h1 m (by omega))] at c
    split at c
    · rw [Bool.and_eq_true] at c
      exact ⟨by omega, c.2⟩
    · cases c

/-- The state of the program's search. b: behind the last many-sign; t: how far what it took reaches; m: signs taken since. -/
structure Seek (n of : Nat) (M : Nat → Bool) (O : Nat → Nat → Bool) (b t m : Nat) (star : Bool) : Prop where
  le : b + m ≤ n
  le' : t + m ≤ of
  plain : ∀ d, d < m → M (b + d) = false
  none : star = false → b = 0 ∧ t = 0
  some : star = true → 0 < b
  iff : mt n of M O 0 0 = true ↔ mt n of M O (b + m) (t + m) = true ∨ (star = true ∧ ∃ j, t < j ∧ j ≤ of ∧ mt n of M O b j = true)
theorem Seek.start : Seek n of M O 0 0 0 false := ⟨Nat.zero_le _, Nat.zero_le _, (fun d h => by omega), (fun _ => ⟨rfl, rfl⟩), (fun h => by cases h), by simp⟩
variable {b t m : Nat} {star : Bool}
theorem Seek.many (h : Seek n of M O b t m star) (h1 : b + m < n) (hM : M (b + m) = true) : Seek n of M O (b + m + 1) (t + m) 0 true := by
  refine ⟨by omega, h.le', (fun d hd => by omega), (fun h => by cases h), (fun _ => by omega), ?_⟩
  rw [h.iff, Nat.add_zero, Nat.add_zero]
  have hs := mt_star (O := O) h1 hM h.le'
  constructor
  · intro hx
    have hy : mt n of M O (b + m) (t + m) = true := by
      rcases hx with hx | ⟨_, j, h2, h3, h4⟩
      · exact hx
      · obtain ⟨h5, h6⟩ := mt_seg m j h.plain h.le h3 h4
        obtain ⟨d, hd⟩ : ∃ d, j + m = t + m + d := ⟨j - t, by omega⟩
        rw [hd] at h5 h6
        exact mt_early h1 hM d h5 h6
    obtain ⟨j, h2, h3, h4⟩ := hs.1 hy
    rcases Nat.lt_or_ge (t + m) j with hj | hj
    · exact .inr ⟨rfl, j, hj, h3, h4⟩
    · obtain rfl : j = t + m := by omega
      exact .inl h4
  · intro hx
    refine .inl (hs.2 ?_)
    rcases hx with hx | ⟨_, j, h2, h3, h4⟩
    · exact ⟨_, Nat.le_refl _, h.le', hx⟩
    · exact ⟨j, by omega, h3, h4⟩
theorem Seek.one (h : Seek n of M O b t m star) (h1 : b + m < n) (hM : M (b + m) = false) (hk : t + m < of) (hO : O (b + m) (t + m) = true) : Seek n of M O b t (m + 1) star := by
  refine ⟨by omega, by omega, (fun d hd => ?_), h.none, h.some, ?_⟩
  · rcases Nat.lt_or_ge d m with hd' | hd'
    · exact h.plain d hd'
    · obtain rfl : d = m := by omega
      exact hM
  · rw [h.iff, mt_one h1 hM, if_pos hk, hO, Bool.true_and]
    exact Iff.rfl
/-- Nothing fits here. -/
theorem stuck (hk : t + m < of) (hM : b + m < n → M (b + m) = false) (hO : b + m < n → O (b + m) (t + m) = false) : mt n of M O (b + m) (t + m) = false := by
  by_cases h1 : b + m < n
  · rw [mt_one h1 (hM h1), if_pos hk, hO h1, Bool.false_and]
  · rw [mt_end h1]
    exact decide_eq_false (by omega)
theorem Seek.back (h : Seek n of M O b t m true) (hk : t + m < of) (hM : b + m < n → M (b + m) = false) (hO : b + m < n → O (b + m) (t + m) = false) : Seek n of M O b (t + 1) 0 true := by
  have hf := stuck hk hM hO
  refine ⟨by have := h.le; omega, by omega, (fun d hd => by omega), (fun h => by cases h), h.some, ?_⟩
  rw [h.iff, hf, Nat.add_zero, Nat.add_zero]
  constructor
  · rintro (hx | ⟨_, j, h2, h3, h4⟩)
    · cases hx
    · rcases Nat.lt_or_ge (t + 1) j with hj | hj
      · exact .inr ⟨rfl, j, hj, h3, h4⟩
      · obtain rfl : j = t + 1 := by omega
        exact .inl h4
  · rintro (hx | ⟨_, j, h2, h3, h4⟩)
    · exact .inr ⟨rfl, t + 1, by omega, by omega, hx⟩
    · exact .inr ⟨rfl, j, by omega, h3, h4⟩
theorem Seek.fail (h : Seek n of M O b t m false) (hk : t + m < of) (hM : b + m < n → M (b + m) = false) (hO : b + m < n → O (b + m) (t + m) = false) : mt n of M O 0 0 = false := by
  have hf := stuck hk hM hO
  rw [Bool.eq_false_iff]
  intro hx
  rw [h.iff, hf] at hx
  simp at hx
theorem Seek.last (h : Seek n of M O b t m star) (hk : ¬ t + m < of) : mt n of M O 0 0 = mt n of M O (b + m) of := by
  have he : t + m = of := by have := h.le'; omega
  rw [Bool.eq_iff_iff, h.iff, he]
  constructor
  · rintro (hx | ⟨_, j, h2, h3, h4⟩)
    · exact hx
    · have := (mt_seg m j h.plain h.le h3 h4).1
      omega
  · exact .inl
theorem mt_tail {i : Nat} (h : i < n) (hM : M i = true) : mt n of M O i of = mt n of M O (i + 1) of := by rw [mt_many h hM, if_neg (by omega), Bool.or_false]
theorem mt_tail_no {i : Nat} (h : i < n) (hM : M i = false) : mt n of M O i of = false := by rw [mt_one h hM, if_neg (by omega)]
theorem mt_fin {i : Nat} (h : ¬ i < n) : mt n of M O i of = true := by rw [mt_end h]; exact decide_eq_true (Nat.le_refl _)
end
/-- How much of the search is left. -/
def left (n of b t m : Nat) : Nat := (n - b) * ((of + 2) * (of + 2)) + (of - t) * (of + 2) + (of - (t + m))
theorem left_many {n of b t m : Nat} (h1 : b + m < n) (h2 : t + m ≤ of) : left n of (b + m + 1) (t + m) 0 < left n of b t m := by
  unfold left
  have e1 : n - b = (n - (b + m + 1)) + (m + 1) := by omega
  rw [e1, Nat.add_mul (n - (b + m + 1)) (m + 1)]
  have h3 : (of + 2) * (of + 2) ≤ (m + 1) * ((of + 2) * (of + 2)) := Nat.le_mul_of_pos_left _ (by omega)
  have h4 : (of - (t + m)) * (of + 2) ≤ of * (of + 2) := Nat.mul_le_mul_right _ (by omega)
  have h5 : (of + 2) * (of + 2) = of * (of + 2) + 2 * (of + 2) := Nat.add_mul _ _ _
  generalize (n - (b + m + 1)) * ((of + 2) * (of + 2)) = X at *
  generalize (m + 1) * ((of + 2) * (of + 2)) = Y at *
  generalize (of + 2) * (of + 2) = Z at *
  generalize of * (of + 2) = U at *
  generalize (of - (t + m)) * (of + 2) = V at *
  generalize (of - t) * (of + 2) = T at *
  omega
theorem left_one {n of b t m : Nat} (h2 : t + m < of) : left n of b t (m + 1) < left n of b t m := by
  unfold left
  generalize (n - b) * ((of + 2) * (of + 2)) = X at *
  generalize (of - t) * (of + 2) = T at *
  omega
theorem left_back {n of b t m : Nat} (h2 : t + m < of) : left n of b (t + 1) 0 < left n of b t m := by
  unfold left
  have e1 : of - t = (of - (t + 1)) + 1 := by omega
  rw [e1, Nat.add_mul (of - (t + 1)) 1]
  generalize (n - b) * ((of + 2) * (of + 2)) = X at *
  generalize (of - (t + 1)) * (of + 2) = T at *
  omega
theorem left_lt {n of a b c a' b' c' x1 x2 x3 y1 y2 y3 : Nat} (h : left n of a b c < left n of a' b' c') (e1 : x1 = a) (e2 : x2 = b) (e3 : x3 = c) (e4 : y1 = a') (e5 : y2 = b') (e6 : y3 = c') :
    left n of x1 x2 x3 < left n of y1 y2 y3 := by
  subst e1 e2 e3 e4 e5 e6
  exact h
end Go.Proofs.Ytnnpjkpmankeiaa.MPat
