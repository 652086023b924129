/- The plan: what is left are the last of the first sort, then the last of the second (plain law). -/
import Derived.Test.YtljamcgngojaeaaPk
namespace Go.Proofs.Ytljamcgngojaeaa.T
open Go.Proofs.Ytljamcgngojaeaa.E
set_option linter.unusedVariables false
variable {l : List Cell}
theorem srt_one (h : Low l) (i : Nat) : srt l i = 1 ↔ ¬ (rd l i cell0).take ≤ (rd l i cell0).keep ∧ (rd l i cell0).what = 3 := by
  have := h.rd i
  unfold srt sortF
  split
  · omega
  · split
    · omega
    · split <;> omega
theorem srt_two (h : Low l) (i : Nat) : srt l i = 2 ↔ ¬ (rd l i cell0).take ≤ (rd l i cell0).keep ∧ ((rd l i cell0).what = 1 ∨ (rd l i cell0).what = 2 ∨ (rd l i cell0).what = 5) := by
  have := h.rd i
  unfold srt sortF
  split
  · omega
  · split
    · omega
    · split <;> omega
/-- The cells of a sort from a place on. -/
def sfx (l : List Cell) (s : Int) (m : Nat) : Nat → List Int
  | 0 => []
  | i + 1 => if m ≤ i ∧ srt l i = s then sfx l s m i ++ [(i : Int)] else sfx l s m i
theorem gA_sfx (h : Low l) : ∀ i, gA l i = sfx l 1 0 i
  | 0 => rfl
  | i + 1 => by
    have e := srt_one h i
    simp only [gA, sfx, Nat.zero_le, true_and, gA_sfx h i]
    by_cases h' : srt l i = 1
    · rw [if_pos h', if_pos (e.1 h')]
    · rw [if_neg h', if_neg (fun q => h' (e.2 q))]
theorem gB_sfx (h : Low l) : ∀ i, gB l i = sfx l 2 0 i
  | 0 => rfl
  | i + 1 => by
    have e := srt_two h i
    simp only [gB, sfx, Nat.zero_le, true_and, gB_sfx h i]
    by_cases h' : srt l i = 2
    · rw [if_pos h', if_pos (e.1 h')]
    · rw [if_neg h', if_neg (fun q => h' (e.2 q))]
theorem sfx_none {s : Int} {m : Nat} : ∀ {i : Nat}, i ≤ m → sfx l s m i = []
  | 0, _ => rfl
  | i + 1, h => by
    simp only [sfx]
    rw [if_neg (by omega), sfx_none (by omega)]
theorem sfx_split {s : Int} {m : Nat} : ∀ {i : Nat}, m ≤ i → sfx l s 0 i = sfx l s 0 m ++ sfx l s m i
  | 0, h => by
    have : m = 0 := by omega
    subst this; rfl
  | i + 1, h => by
    by_cases e : m = i + 1
    · subst e; rw [sfx_none (Nat.le_refl (i + 1))]; simp
    · simp only [sfx]
      rw [sfx_split (m := m) (i := i) (by omega)]
      by_cases h' : srt l i = s
      · rw [if_pos ⟨Nat.zero_le _, h'⟩, if_pos ⟨by omega, h'⟩, List.append_assoc]
      · rw [if_neg (fun q => h' q.2), if_neg (fun q => h' q.2)]
theorem mem_sfx {s : Int} {m : Nat} {x : Int} : ∀ {i : Nat}, x ∈ sfx l s m i ↔ ∃ j : Nat, x = j ∧ m ≤ j ∧ j < i ∧ srt l j = s
  | 0 => by simp [sfx]
  | i + 1 => by
    simp only [sfx]
    have ih := mem_sfx (s := s) (m := m) (x := x) (i := i)
    by_cases h : m ≤ i ∧ srt l i = s
    · rw [if_pos h, List.mem_append, ih, List.mem_singleton]
      constructor
      · rintro (⟨j, h1, h2, h3, h4⟩ | rfl)
        · exact ⟨j, h1, h2, by omega, h4⟩
        · exact ⟨i, rfl, h.1, by omega, h.2⟩
      · rintro ⟨j, h1, h2, h3, h4⟩
        by_cases e : j = i
        · subst e; exact .inr h1
        · exact .inl ⟨j, h1, h2, by omega, h4⟩
    · rw [if_neg h, ih]
      constructor
      · rintro ⟨j, h1, h2, h3, h4⟩; exact ⟨j, h1, h2, by omega, h4⟩
      · rintro ⟨j, h1, h2, h3, h4⟩
        refine ⟨j, h1, h2, ?_, h4⟩
        by_cases e : j = i
        · subst e; exact (h ⟨h2, h4⟩).elim
        · omega
theorem sfx_nil {s : Int} {m i : Nat} (h : ∀ j, m ≤ j → j < i → srt l j ≠ s) : sfx l s m i = [] := by
  apply List.eq_nil_iff_forall_not_mem.2
  intro x hx
  obtain ⟨j, _, h1, h2, h3⟩ := mem_sfx.1 hx
  exact h j h1 h2 h3
theorem sfx_head {s : Int} {m : Nat} (hs : srt l m = s) : ∀ {i : Nat}, m < i → ∃ t, sfx l s m i = (m : Int) :: t
  | 0, h => by omega
  | i + 1, h => by
    by_cases e : m = i
    · subst e
      exact ⟨[], by simp only [sfx]; rw [if_pos ⟨Nat.le_refl _, hs⟩, sfx_none (Nat.le_refl _)]; rfl⟩
    · obtain ⟨t, ht⟩ := sfx_head hs (i := i) (by omega)
      simp only [sfx, ht]
      split
      · exact ⟨t ++ [(i : Int)], rfl⟩
      · exact ⟨t, rfl⟩
/-- The places that are marked. -/
def bl (B : List Bool) : Nat → List Int
  | 0 => []
  | i + 1 => if rd B i false = true then bl B i ++ [(i : Int)] else bl B i
theorem ofS_left (l : List Cell) (B : List Bool) : ∀ i, (ofS l B i).left = bl B i
  | 0 => rfl
  | i + 1 => by
    have ih := ofS_left l B i
    simp only [ofS, bl, ofStep]
    by_cases h : rd B i false = true
    · rw [if_pos h, if_pos h, stLeft, ih]
    · rw [if_neg h, if_neg h]
      (repeat' split) <;> exact ih
theorem mem_bl {B : List Bool} {x : Int} : ∀ {i : Nat}, x ∈ bl B i ↔ ∃ j : Nat, x = j ∧ j < i ∧ rd B j false = true
  | 0 => by simp [bl]
  | i + 1 => by
    simp only [bl]
    have ih := mem_bl (B := B) (x := x) (i := i)
    by_cases h : rd B i false = true
    · rw [if_pos h, List.mem_append, ih, List.mem_singleton]
      constructor
      · rintro (⟨j, h1, h2, h3⟩ | rfl)
        · exact ⟨j, h1, by omega, h3⟩
        · exact ⟨i, rfl, by omega, h⟩
      · rintro ⟨j, h1, h2, h3⟩
        by_cases e : j = i
        · subst e; exact .inr h1
        · exact .inl ⟨j, h1, by omega, h3⟩
    · rw [if_neg h, ih]
      constructor
      · rintro ⟨j, h1, h2, h3⟩; exact ⟨j, h1, by omega, h3⟩
      · rintro ⟨j, h1, h2, h3⟩
        refine ⟨j, h1, ?_, h3⟩
        by_cases e : j = i
        · subst e; exact (h h3).elim
        · omega
theorem bl_up (B : List Bool) : ∀ i, (bl B i).Pairwise (· < ·)
  | 0 => .nil
  | i + 1 => by
    simp only [bl]
    split
    · refine List.pairwise_append.2 ⟨bl_up B i, List.pairwise_singleton _ _, fun a ha b hb => ?_⟩
      obtain ⟨j, rfl, hj, _⟩ := mem_bl.1 ha
      obtain rfl := List.mem_singleton.1 hb
      omega
    · exact bl_up B i
theorem bl_incr (B : List Bool) (i : Nat) {z : Nat} (h1 : 1 ≤ z) (h2 : z < (bl B i).length) : rd (bl B i) (z - 1) 0 < rd (bl B i) z 0 := by
  have := List.pairwise_iff_getElem.1 (bl_up B i) (z - 1) z (by omega) h2 (by omega)
  unfold rd
  rw [List.getD_eq_getElem?_getD, List.getD_eq_getElem?_getD, List.getElem?_eq_getElem h2, List.getElem?_eq_getElem (show z - 1 < (bl B i).length by omega)]
  exact this
theorem rd_marks {a b j : Nat} (h : j < l.length) : rd (marks l a b) j false = behind l a b j := rd_tb h _
theorem behind_iff {a b j : Nat} : behind l a b j = true ↔ (srt l j = 1 ∧ a ≤ j) ∨ (srt l j = 2 ∧ b ≤ j) := decide_eq_true_iff
theorem bl_len {a b : Nat} : ∀ {i : Nat}, i ≤ l.length → (bl (marks l a b) i).length = (sfx l 1 a i).length + (sfx l 2 b i).length
  | 0, _ => rfl
  | i + 1, h => by
    have ih := bl_len (a := a) (b := b) (i := i) (by omega)
    simp only [bl, sfx]
    have hm : rd (marks l a b) i false = true ↔ (srt l i = 1 ∧ a ≤ i) ∨ (srt l i = 2 ∧ b ≤ i) := by rw [rd_marks (show i < l.length by omega), behind_iff]
    by_cases h1 : a ≤ i ∧ srt l i = 1
    · rw [if_pos h1, if_pos (hm.2 (by omega)), if_neg (by omega)]; simp; omega
    · rw [if_neg h1]
      by_cases h2 : b ≤ i ∧ srt l i = 2
      · rw [if_pos h2, if_pos (hm.2 (by omega))]; simp; omega
      · rw [if_neg h2, if_neg (fun q => by have := hm.1 q; omega)]; exact ih
theorem mem_left {a b : Nat} {x : Int} : x ∈ bl (marks l a b) l.length ↔ x ∈ sfx l 1 a l.length ∨ x ∈ sfx l 2 b l.length := by
  rw [mem_bl, mem_sfx, mem_sfx]
  constructor
  · rintro ⟨j, h1, h2, h3⟩
    rw [rd_marks h2, behind_iff] at h3
    rcases h3 with h3 | h3
    · exact .inl ⟨j, h1, h3.2, h2, h3.1⟩
    · exact .inr ⟨j, h1, h3.2, h2, h3.1⟩
  · rintro (⟨j, h1, h2, h3, h4⟩ | ⟨j, h1, h2, h3, h4⟩)
    · exact ⟨j, h1, h3, by rw [rd_marks h3, behind_iff]; exact .inl ⟨h4, h2⟩⟩
    · exact ⟨j, h1, h3, by rw [rd_marks h3, behind_iff]; exact .inr ⟨h4, h2⟩⟩
/-! ### the sums -/
theorem wsum_lsum {f g : Nat → Int} {n : Nat} (hn : n ≤ 300) (h : ∀ j, 0 ≤ g j ∧ g j ≤ 1099511627776) : ∀ i, i ≤ n → (∀ j, j < i → f j = g j) → wsum f i = lsum g i
  | 0, _, _ => rfl
  | i + 1, hi, he => by
    rw [wsum_succ, lsum_succ, wsum_lsum hn h i (by omega) fun j hj => he j (by omega), he i (by omega)]
    have h1 := lsum_le h i
    have h2 := h i
    unfold addF
    rw [if_neg (by omega), if_neg (by omega)]
theorem worst_eq (hL : Low l) {B : List Bool} {q : List Int} (h : ∀ j, j < l.length → (rd B j false = true ↔ (j : Int) ∈ q)) : pworstF l B = lworstF l q := by
  unfold pworstF lworstF
  refine wsum_lsum hL.1 (lawAt_le hL q) _ (Nat.le_refl _) fun j hj => ?_
  have hr := hL.rd j
  unfold pwAt lawAt
  by_cases e : rd B j false = true
  · rw [if_pos e, if_pos ((h j hj).1 e)]; omega
  · rw [if_neg e, if_neg (fun q => e ((h j hj).2 q))]; omega
/-! ### the cut -/
theorem prevS_eq {s : Int} : ∀ {a i : Nat}, prevS l s a = some i → srt l i = s ∧ i < a ∧ ∀ j, i < j → j < a → srt l j ≠ s
  | 0, i, h => by cases h
  | a + 1, i, h => by
    unfold prevS at h
    split at h
    · rename_i hs
      injection h with h; subst h
      exact ⟨hs, by omega, fun j h1 h2 => by omega⟩
    · rename_i hs
      obtain ⟨h1, h2, h3⟩ := prevS_eq h
      refine ⟨h1, by omega, fun j h4 h5 => ?_⟩
      by_cases e : j = a
      · subst e; exact hs
      · exact h3 j h4 (by omega)
theorem prevS_nil {s : Int} : ∀ {a : Nat}, prevS l s a = none → ∀ j, j < a → srt l j ≠ s
  | 0, _, j, h => by omega
  | a + 1, h, j, hj => by
    unfold prevS at h
    split at h
    · cases h
    · rename_i hs
      by_cases e : j = a
      · subst e; exact hs
      · exact prevS_nil h j (by omega)
/-- Marks without a place. -/
def less1 (l : List Cell) (a b i : Nat) : List Bool := tb l.length fun j => behind l a b j && decide (j ≠ i)
inductive St (l : List Cell) (M : Int) : Nat → Nat → Prop
  | none : St l M l.length l.length
  | one {a : Nat} : a < l.length → srt l a = 1 → M < pworstF l (less1 l a l.length a) → St l M a l.length
  | two {a b : Nat} : a ≤ l.length → b < l.length → srt l b = 2 → (∀ j, j < a → srt l j ≠ 1) → M < pworstF l (less1 l a b b) → St l M a b
theorem less1_one {a b i : Nat} (hs : srt l i = 1) (hi : i < a) (hn : ∀ j, i < j → j < a → srt l j ≠ 1) : less1 l i b i = marks l a b := by
  refine tb_congr fun j hj => ?_
  have := hn j
  rw [Bool.eq_iff_iff, Bool.and_eq_true, behind_iff, behind_iff, decide_eq_true_iff]
  by_cases e : j = i
  · subst e; omega
  · omega
theorem less1_two {a b i : Nat} (hs : srt l i = 2) (hi : i < b) (hn : ∀ j, i < j → j < b → srt l j ≠ 2) : less1 l a i i = marks l a b := by
  refine tb_congr fun j hj => ?_
  have := hn j
  rw [Bool.eq_iff_iff, Bool.and_eq_true, behind_iff, behind_iff, decide_eq_true_iff]
  by_cases e : j = i
  · subst e; omega
  · omega
theorem St.le {M : Int} {a b : Nat} (h : St l M a b) : a ≤ l.length ∧ b ≤ l.length := by cases h <;> omega
theorem cut_st {M : Int} : ∀ (k : Nat) {a b : Nat}, St l M a b → a + b < k → ∃ a' b', cut l M k a b = (a', b') ∧ St l M a' b' ∧
    (pworstF l (marks l a' b') ≤ M ∨ ((∀ j, j < a' → srt l j ≠ 1) ∧ ∀ j, j < b' → srt l j ≠ 2))
  | 0, a, b, _, h => by omega
  | k + 1, a, b, st, h => by
    simp only [cut]
    split
    · rename_i hw
      split
      · rename_i i hi
        obtain ⟨h1, h2, h3⟩ := prevS_eq hi
        have hb : b = l.length := by
          cases st with
          | none => rfl
          | one => rfl
          | two _ _ _ hn => exact (hn i h2 h1).elim
        subst hb
        have := st.le
        exact cut_st k (.one (by omega) h1 (by rw [less1_one h1 h2 h3]; exact hw)) (by omega)
      · rename_i hi
        split
        · rename_i i hi2
          obtain ⟨h1, h2, h3⟩ := prevS_eq hi2
          have := st.le
          exact cut_st k (.two this.1 (by omega) h1 (prevS_nil hi) (by rw [less1_two h1 h2 h3]; exact hw)) (by omega)
        · rename_i hi2
          exact ⟨a, b, rfl, st, .inr ⟨prevS_nil hi, prevS_nil hi2⟩⟩
    · exact ⟨a, b, rfl, st, .inl (by omega)⟩
structure LeftLaw (l : List Cell) (M : Int) (lf a b : List Int) : Prop where
  incr : ∀ z, 1 ≤ z → z < lf.length → rd lf (z - 1) 0 < rd lf z 0
  few : lf.length ≤ a.length + b.length
  wlen : (wantF a b lf.length).length = lf.length
  want : ∀ x ∈ lf, x ∈ wantF a b lf.length
  worst : lf.length < a.length + b.length → lworstF l lf ≤ M
  last : lf.length = 0 ∨ M < lworstF l (lessF lf (lastF a b lf.length) lf.length)
theorem rd_mid {xs ys : List Int} {x d : Int} {n : Nat} (h : n = xs.length) : rd (xs ++ x :: ys) n d = x := by
  subst h; unfold rd; rw [List.getD_eq_getElem?_getD]; simp
theorem lworst_less (hL : Low l) {a b i : Nat} : pworstF l (less1 l a b i) = lworstF l (lessF (bl (marks l a b) l.length) i (bl (marks l a b) l.length).length) := by
  refine worst_eq hL fun j hj => ?_
  rw [less1, rd_tb hj, lessF, List.take_length, List.mem_filter, mem_bl, Bool.and_eq_true, decide_eq_true_iff, decide_eq_true_iff]
  constructor
  · rintro ⟨h1, h2⟩
    exact ⟨⟨j, rfl, hj, by rw [rd_marks hj]; exact h1⟩, by omega⟩
  · rintro ⟨⟨j', h1, h2, h3⟩, h4⟩
    obtain rfl : j = j' := by omega
    rw [rd_marks hj] at h3
    exact ⟨h3, by omega⟩
theorem left_law (hL : Low l) (M : Int) : LeftLaw l M (bl (leaveF l M) l.length) (gA l l.length) (gB l l.length) := by
  obtain ⟨a, b, hc, st, hend⟩ := cut_st (M := M) (l.length + l.length + 1) (a := l.length) (b := l.length) .none (by omega)
  have hlv : leaveF l M = marks l a b := by unfold leaveF final; rw [hc]
  rw [hlv, gA_sfx hL, gB_sfx hL]
  have hab := st.le
  have sa := sfx_split (l := l) (s := 1) hab.1
  have sb := sfx_split (l := l) (s := 2) hab.2
  have ln := bl_len (l := l) (a := a) (b := b) (Nat.le_refl _)
  have la : (sfx l 1 0 l.length).length = (sfx l 1 0 a).length + (sfx l 1 a l.length).length := by rw [sa]; simp
  have lb : (sfx l 2 0 l.length).length = (sfx l 2 0 b).length + (sfx l 2 b l.length).length := by rw [sb]; simp
  have main : wantF (sfx l 1 0 l.length) (sfx l 2 0 l.length) (bl (marks l a b) l.length).length = sfx l 1 a l.length ++ sfx l 2 b l.length ∧
      ((bl (marks l a b) l.length).length = 0 ∨ M < lworstF l (lessF (bl (marks l a b) l.length) (lastF (sfx l 1 0 l.length) (sfx l 2 0 l.length) (bl (marks l a b) l.length).length) (bl (marks l a b) l.length).length)) := by
    cases st with
    | none =>
      have e1 : sfx l 1 l.length l.length = [] := sfx_none (Nat.le_refl _)
      have e2 : sfx l 2 l.length l.length = [] := sfx_none (Nat.le_refl _)
      rw [e1, e2] at ln
      simp only [List.length_nil, Nat.add_zero] at ln
      refine ⟨?_, .inl ln⟩
      rw [ln, e1, e2]
      simp [wantF]
    | one ha hs hw =>
      have e2 : sfx l 2 l.length l.length = [] := sfx_none (Nat.le_refl _)
      obtain ⟨t, ht⟩ := sfx_head hs ha
      rw [e2, List.length_nil, Nat.add_zero] at ln
      have hp : 0 < (sfx l 1 a l.length).length := by rw [ht]; simp
      have hle : (bl (marks l a l.length) l.length).length ≤ (sfx l 1 0 l.length).length := by omega
      have hd : (sfx l 1 0 l.length).length - (bl (marks l a l.length) l.length).length = (sfx l 1 0 a).length := by omega
      refine ⟨?_, .inr ?_⟩
      · rw [wantF, if_pos hle, hd, sa, e2]; simp
      · rw [lworst_less hL] at hw
        rw [lastF, if_pos hle, if_pos (by omega), hd]
        have : rd (sfx l 1 0 l.length) (sfx l 1 0 a).length 0 = (a : Int) := by rw [sa, ht]; exact rd_mid rfl
        rw [this]; exact hw
    | two ha hb hs hn hw =>
      have e1 : sfx l 1 0 a = [] := sfx_nil fun j _ h => hn j h
      obtain ⟨t, ht⟩ := sfx_head hs hb
      have hp : 0 < (sfx l 2 b l.length).length := by rw [ht]; simp
      rw [e1, List.length_nil, Nat.zero_add] at la
      have hle : ¬ (bl (marks l a b) l.length).length ≤ (sfx l 1 0 l.length).length := by omega
      have hd : (sfx l 2 0 l.length).length - ((bl (marks l a b) l.length).length - (sfx l 1 0 l.length).length) = (sfx l 2 0 b).length := by omega
      refine ⟨?_, .inr ?_⟩
      · rw [wantF, if_neg hle, hd, sb, sa, e1]; simp
      · rw [lworst_less hL] at hw
        rw [lastF, if_neg hle, hd]
        have : rd (sfx l 2 0 l.length) (sfx l 2 0 b).length 0 = (b : Int) := by rw [sb, ht]; exact rd_mid rfl
        rw [this]; exact hw
  refine ⟨fun z h1 h2 => bl_incr _ _ h1 h2, by omega, by rw [main.1, List.length_append, ln], fun x hx => by rw [main.1, List.mem_append]; exact mem_left.1 hx, fun h => ?_, main.2⟩
  rcases hend with hend | ⟨n1, n2⟩
  · rw [worst_eq hL (q := bl (marks l a b) l.length) fun j hj => ?_] at hend
    · exact hend
    · rw [mem_bl]
      constructor
      · intro h; exact ⟨j, rfl, hj, h⟩
      · rintro ⟨j', h1, h2, h3⟩
        obtain rfl : j = j' := by omega
        exact h3
  · have e1 : sfx l 1 0 a = [] := sfx_nil fun j _ h => n1 j h
    have e2 : sfx l 2 0 b = [] := sfx_nil fun j _ h => n2 j h
    rw [e1] at la; rw [e2] at lb
    simp only [List.length_nil] at la lb
    omega
end Go.Proofs.Ytljamcgngojaeaa.T
