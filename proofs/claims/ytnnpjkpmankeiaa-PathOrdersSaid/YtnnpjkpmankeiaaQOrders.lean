/- What Compare and Under tell, the program's and the reference's, and the law PathOrders. -/
import Derived.Test.YtnnpjkpmankeiaaQPieces
import Derived.Test.YtnnpjkpmankeiaaPLx4
import Derived.Test.YtnnpjkpmankeiaaMLess
namespace Go.Proofs.Ytnnpjkpmankeiaa.Q
open Go.RowKit Go.Proofs.Ytnnpjkpmankeiaa.PL Go.Proofs.Ytnnpjkpmankeiaa.Hand Go.Proofs.Ytnnpjkpmankeiaa.MStr Go.Proofs.YtnnpjkpmankeiaaW.PrintWords Go.Proofs.YtnnpjkpmankeiaaW.PrintLast
set_option linter.unusedVariables false
set_option linter.unusedSimpArgs false

/-! ### Compare -/
def cmpB (a b : ByteArray) : Int := if Op.bytesLess a.toList b.toList = true then -1 else if Op.bytesLess b.toList a.toList = true then 1 else 0
def cmpL : List ByteArray → List ByteArray → Int
  | [], [] => 0
  | [], _ :: _ => -1
  | _ :: _, [] => 1
  | a :: r, b :: t => if cmpB a b = 0 then cmpL r t else cmpB a b
theorem cmp_l0 (l m : List ByteArray) (hl : l.length ≤ 9000000000000000000) (n : Nat) : ∀ i, l.length - i = n → i ≤ l.length → i ≤ m.length →
    Ev (fun k => slices_Compare_string_string.l0 k l m l (l.length : Int) (i : Nat)) (cmpL (l.drop i) (m.drop i)) := by
  induction n with
  | zero =>
    intro i h h1 h2
    refine Ev.succ ?_
    simp only [slices_Compare_string_string.l0]
    refine Ev.neg (by omega) ?_
    rw [List.drop_eq_nil_of_le (by omega : l.length ≤ i)]
    refine Ev.either (fun hc => Ev.ret ?_) (fun hc => Ev.ret ?_)
    · rw [List.drop_eq_getElem_cons (by omega : i < m.length)]
      rfl
    · rw [List.drop_eq_nil_of_le (by omega : m.length ≤ i)]
      rfl
  | succ n ih =>
    intro i h h1 h2
    have hi : i < l.length := by omega
    refine Ev.succ ?_
    simp only [slices_Compare_string_string.l0]
    refine Ev.pos (by omega) (Ev.pos (by omega) (Ev.pos (by omega) (Ev.either (fun hc => Ev.ret ?_) (fun hc => ?_))))
    · rw [List.drop_eq_getElem_cons hi, List.drop_eq_nil_of_le (by omega : m.length ≤ i)]
      rfl
    · have hm : i < m.length := by omega
      refine Ev.pos (by omega) (Ev.once (v := cmpB l[i] m[i]) (by rw [rd_at l i hi, rd_at m i hm]; rfl) ?_)
      rw [List.drop_eq_getElem_cons hi, List.drop_eq_getElem_cons hm, cmpL]
      refine Ev.either (fun he => ?_) (fun he => Ev.ret (by rw [if_neg he]))
      rw [if_pos he, wrap_up i (by omega)]
      exact ih (i + 1) (by omega) (by omega) (by omega)
theorem compare_ev (a b : ByteArray) (ha : a.size ≤ 8796093022206) (hb : b.size ≤ 8796093022206) : Ev (fun k => path_Compare.f k a b) (cmpL (pieces a) (pieces b)) := by
  unfold path_Compare.f
  refine Ev.once (path_pieces_ev a ha) (Ev.once (path_pieces_ev b hb) (Ev.bind ?_ (Ev.ret rfl)))
  unfold slices_Compare_string_string.f
  have hfew := pieces_few a _ ha
  exact cmp_l0 (pieces a) (pieces b) (by omega) _ 0 rfl (by omega) (by omega)
theorem below_l0 (a b : ByteArray) (ha : a.size ≤ 9000000000000000000) (n : Nat) : ∀ i, a.size - i = n → i ≤ a.size → i ≤ b.size →
    Ev (fun k => twineref3_below.l0 k a b (i : Nat)) (Op.bytesLess (a.data.toList.drop i) (b.data.toList.drop i)) := by
  have hend : ∀ i, (i = a.size ∨ i = b.size) → i ≤ a.size → i ≤ b.size → Op.bytesLess (a.data.toList.drop i) (b.data.toList.drop i) = decide ((a.size : Int) < (b.size : Int)) := by
    intro i h1 h2 h3
    rcases Nat.lt_or_ge i b.size with hb | hb
    · have hia : i = a.size := by omega
      rw [List.drop_eq_nil_of_le (by rw [size_list]; omega : a.data.toList.length ≤ i), drop_get b i hb]
      exact (decide_eq_true (by omega)).symm
    · rw [List.drop_eq_nil_of_le (by rw [size_list]; omega : b.data.toList.length ≤ i), decide_eq_false (by omega)]
      cases a.data.toList.drop i <;> rfl
  induction n with
  | zero =>
    intro i h h1 h2
    refine Ev.succ ?_
    simp only [twineref3_below.l0]
    refine Ev.neg (by omega) (Ev.succ ?_)
    simp only [twineref3_below.j1]
    refine Ev.neg (by simp) (Ev.ret ?_)
    rw [hend i (.inl (by omega)) h1 h2]
  | succ n ih =>
    intro i h h1 h2
    have hi : i < a.size := by omega
    refine Ev.succ ?_
    simp only [twineref3_below.l0]
    refine Ev.pos (by omega) (Ev.succ ?_)
    simp only [twineref3_below.j1]
    by_cases hb : i < b.size
    · refine Ev.pos (by simp; omega) (Ev.pos (by omega) (Ev.pos (by omega) (Ev.pos (by omega) ?_)))
      rw [drop_get a i hi, drop_get b i hb, Op.bytesLess, bt_get a i hi, bt_get b i hb]
      refine Ev.either (fun he => ?_) (fun he => Ev.ret ?_)
      · have he' : a.get! i = b.get! i := UInt8.toNat_inj.1 (by omega)
        rw [wrap_up i (by omega), he']
        refine (ih (i + 1) (by omega) (by omega) (by omega)).as ?_
        have e : decide (b.get! i < b.get! i) = false := decide_eq_false (by
          intro hc
          have hc' : (b.get! i).toNat < (b.get! i).toNat := hc
          omega)
        rw [e, beq_self_eq_true, Bool.true_and, Bool.false_or]
      · have hne : (a.get! i == b.get! i) = false := beq_eq_false_iff_ne.2 (fun e => he (by rw [e]))
        rw [hne, Bool.false_and, Bool.or_false]
        refine decide_eq_decide.2 ⟨fun hc => ?_, fun hc => ?_⟩
        · show (a.get! i).toNat < (b.get! i).toNat
          omega
        · have hc' : (a.get! i).toNat < (b.get! i).toNat := hc
          omega
    · refine Ev.neg (by simp; omega) (Ev.ret ?_)
      rw [hend i (.inr (by omega)) h1 h2]
theorem below_ev (a b : ByteArray) (ha : a.size ≤ 9000000000000000000) : Ev (fun k => twineref3_below.f k a b) (Op.bytesLess a.toList b.toList) := by
  unfold twineref3_below.f
  rw [toList_data, toList_data]
  exact below_l0 a b ha a.size 0 (by omega) (by omega) (by omega)
theorem rcmp_l0 (l m : List ByteArray) (hl : l.length ≤ 9000000000000000000) (hs : ∀ x ∈ l, x.size ≤ 9000000000000000000) (ht : ∀ x ∈ m, x.size ≤ 9000000000000000000) (n : Nat) : ∀ i, l.length - i = n → i ≤ l.length → i ≤ m.length →
    Ev (fun k => twineref3_Compare.l0 k l m (i : Nat)) (cmpL (l.drop i) (m.drop i)) := by
  have hend : ∀ i, (i = l.length ∨ i = m.length) → i ≤ l.length → i ≤ m.length → Ev (fun k => if (l.length : Int) < (m.length : Int) then some (-1) else if (l.length : Int) > (m.length : Int) then some 1 else some 0) (cmpL (l.drop i) (m.drop i)) := by
    intro i h1 h2 h3
    refine Ev.either (fun hc => Ev.ret ?_) (fun hc => Ev.either (fun hd => Ev.ret ?_) (fun hd => Ev.ret ?_))
    · rw [List.drop_eq_nil_of_le (by omega : l.length ≤ i), List.drop_eq_getElem_cons (by omega : i < m.length)]
      rfl
    · rw [List.drop_eq_nil_of_le (by omega : m.length ≤ i), List.drop_eq_getElem_cons (by omega : i < l.length)]
      rfl
    · rw [List.drop_eq_nil_of_le (by omega : m.length ≤ i), List.drop_eq_nil_of_le (by omega : l.length ≤ i)]
      rfl
  induction n with
  | zero =>
    intro i h h1 h2
    refine Ev.succ ?_
    simp only [twineref3_Compare.l0]
    refine Ev.neg (by omega) (Ev.succ ?_)
    simp only [twineref3_Compare.j1]
    exact Ev.neg (by simp) (hend i (.inl (by omega)) h1 h2)
  | succ n ih =>
    intro i h h1 h2
    have hi : i < l.length := by omega
    refine Ev.succ ?_
    simp only [twineref3_Compare.l0]
    refine Ev.pos (by omega) (Ev.succ ?_)
    simp only [twineref3_Compare.j1]
    by_cases hm : i < m.length
    · refine Ev.pos (by simp; omega) (Ev.pos (by omega) (Ev.pos (by omega) (Ev.pos (by omega) ?_)))
      rw [rd_at l i hi, rd_at m i hm]
      refine Ev.bind (below_ev _ _ (hs _ (List.getElem_mem hi))) ?_
      rw [List.drop_eq_getElem_cons hi, List.drop_eq_getElem_cons hm, cmpL, cmpB]
      refine Ev.either (fun he => Ev.ret ?_) (fun he => Ev.bind (below_ev _ _ (ht _ (List.getElem_mem hm))) (Ev.either (fun hf => Ev.ret ?_) (fun hf => ?_)))
      · simp [he]
      · simp [he, hf]
      · rw [wrap_up i (by omega)]
        refine (ih (i + 1) (by omega) (by omega) (by omega)).as ?_
        simp [he, hf]
    · exact Ev.neg (by simp; omega) (hend i (.inr (by omega)) h1 h2)
theorem rcompare_ev (a b : ByteArray) (ha : a.size ≤ 8796093022206) (hb : b.size ≤ 8796093022206) : Ev (fun k => twineref3_Compare.f k a b) (cmpL (pieces a) (pieces b)) := by
  unfold twineref3_Compare.f
  have hfew := pieces_few a _ ha
  refine Ev.bind (pieces_ev a ha) (Ev.bind (pieces_ev b hb) ?_)
  exact rcmp_l0 (pieces a) (pieces b) (by omega) (fun x hx => by have := pieces_size a x hx; omega) (fun x hx => by have := pieces_size b x hx; omega) _ 0 rfl (by omega) (by omega)

/-! ### Under -/
/-- Is the one the beginning of the other? -/
noncomputable def begins (m l : List ByteArray) : Bool := @decide (m <+: l) (Classical.propDecidable _)
theorem begins_iff (m l : List ByteArray) : begins m l = true ↔ m <+: l := by unfold begins; simp
theorem begins_cons (a b : ByteArray) (m l : List ByteArray) : begins (a :: m) (b :: l) = true ↔ a = b ∧ begins m l = true := by
  rw [begins_iff, begins_iff, List.cons_prefix_cons]
theorem begins_nil (l : List ByteArray) : begins [] l = true := (begins_iff _ _).2 (List.nil_prefix)
theorem begins_same {m l : List ByteArray} (h : m.length = l.length) : begins m l = true ↔ m = l := by
  rw [begins_iff]
  exact ⟨fun hp => hp.eq_of_length h, fun e => by rw [e]; exact List.prefix_refl _⟩
theorem equal_l0 (l m : List ByteArray) (hl : l.length ≤ 9000000000000000000) (he : l.length = m.length) (n : Nat) : ∀ i, l.length - i = n → i ≤ l.length →
    Ev (fun k => slices_Equal_string_string.l0 k l m (l.length : Int) (i : Nat)) (begins (m.drop i) (l.drop i)) := by
  induction n with
  | zero =>
    intro i h h1
    refine Ev.succ ?_
    simp only [slices_Equal_string_string.l0]
    refine Ev.neg (by omega) (Ev.ret ?_)
    rw [List.drop_eq_nil_of_le (by omega : m.length ≤ i), begins_nil]
  | succ n ih =>
    intro i h h1
    have hi : i < l.length := by omega
    have hm : i < m.length := by omega
    refine Ev.succ ?_
    simp only [slices_Equal_string_string.l0]
    rw [List.drop_eq_getElem_cons hi, List.drop_eq_getElem_cons hm]
    refine Ev.pos (by omega) (Ev.pos (by omega) (Ev.pos (by omega) (Ev.pos (by omega) ?_)))
    rw [rd_at l i hi, rd_at m i hm]
    refine Ev.either (fun hc => ?_) (fun hc => Ev.ret ?_)
    · rw [wrap_up i (by omega)]
      refine (ih (i + 1) (by omega) (by omega)).as ?_
      rw [Bool.eq_iff_iff, begins_cons]
      exact ⟨fun h => ⟨(eq_of_toList hc).symm, h⟩, fun h => h.2⟩
    · symm
      rw [Bool.eq_false_iff]
      intro hb
      exact hc (by rw [((begins_cons _ _ _ _).1 hb).1])
theorem equal_ev (l m : List ByteArray) (hl : l.length ≤ 9000000000000000000) : ∃ r, Ev (fun k => slices_Equal_string_string.f k l m) r ∧ (r = true ↔ m = l) := by
  by_cases he : l.length = m.length
  · refine ⟨begins m l, ?_, begins_same he.symm⟩
    unfold slices_Equal_string_string.f
    exact Ev.pos (by omega) (equal_l0 l m hl he _ 0 rfl (by omega))
  · refine ⟨false, ?_, by simp; exact fun e => he (by rw [e])⟩
    unfold slices_Equal_string_string.f
    exact Ev.neg (by omega) (Ev.ret rfl)
theorem under_ev (a b : ByteArray) (ha : a.size ≤ 8796093022206) (hb : b.size ≤ 8796093022206) : Ev (fun k => path_Under.f k a b) (begins (pieces b) (pieces a)) := by
  unfold path_Under.f
  have hfew := pieces_few a _ ha
  refine Ev.once (path_pieces_ev a ha) (Ev.once (path_pieces_ev b hb) (Ev.either (fun hc => ?_) (fun hc => Ev.ret ?_)))
  · refine Ev.pos (by omega) (Ev.pos (by omega) ?_)
    rw [Int.toNat_natCast]
    obtain ⟨r, h1, h2⟩ := equal_ev ((pieces a).take (pieces b).length) (pieces b) (by rw [List.length_take]; omega)
    refine Ev.bind h1 (Ev.ret ?_)
    rw [Bool.eq_iff_iff, h2, begins_iff, List.prefix_iff_eq_take]
  · symm
    rw [Bool.eq_false_iff]
    intro h
    have := ((begins_iff _ _).1 h).length_le
    omega
theorem runder_l0 (l m : List ByteArray) (hl : l.length ≤ 9000000000000000000) (he : m.length ≤ l.length) (n : Nat) : ∀ i, m.length - i = n → i ≤ m.length →
    Ev (fun k => twineref3_Under.l0 k l m (i : Nat)) (begins (m.drop i) (l.drop i)) := by
  induction n with
  | zero =>
    intro i h h1
    refine Ev.succ ?_
    simp only [twineref3_Under.l0]
    refine Ev.neg (by omega) (Ev.ret ?_)
    rw [List.drop_eq_nil_of_le (by omega : m.length ≤ i), begins_nil]
  | succ n ih =>
    intro i h h1
    have hi : i < l.length := by omega
    have hm : i < m.length := by omega
    refine Ev.succ ?_
    simp only [twineref3_Under.l0]
    rw [List.drop_eq_getElem_cons hi, List.drop_eq_getElem_cons hm]
    refine Ev.pos (by omega) (Ev.pos (by omega) (Ev.pos (by omega) ?_))
    rw [rd_at l i hi, rd_at m i hm]
    refine Ev.either (fun hc => ?_) (fun hc => Ev.ret ?_)
    · rw [wrap_up i (by omega)]
      refine (ih (i + 1) (by omega) (by omega)).as ?_
      rw [Bool.eq_iff_iff, begins_cons]
      exact ⟨fun h => ⟨(eq_of_toList hc).symm, h⟩, fun h => h.2⟩
    · symm
      rw [Bool.eq_false_iff]
      intro hb
      exact hc (by rw [((begins_cons _ _ _ _).1 hb).1])
theorem runder_ev (a b : ByteArray) (ha : a.size ≤ 8796093022206) (hb : b.size ≤ 8796093022206) : Ev (fun k => twineref3_Under.f k a b) (begins (pieces b) (pieces a)) := by
  unfold twineref3_Under.f
  have hfew := pieces_few a _ ha
  refine Ev.bind (pieces_ev a ha) (Ev.bind (pieces_ev b hb) (Ev.either (fun hc => Ev.ret ?_) (fun hc => ?_)))
  · symm
    rw [Bool.eq_false_iff]
    intro h
    have := ((begins_iff _ _).1 h).length_le
    omega
  · exact runder_l0 (pieces a) (pieces b) (by omega) (by omega) _ 0 rfl (by omega)

/-! ### The law -/
theorem pathOrders_ev : twinelaw3_PathOrders.Pure := by
  intro a b hA hB
  apply Ev.rounds
  have hj : Ev (fun k => twinelaw3_PathOrders.j0 k a b true) true := by
    refine Ev.succ ?_
    simp only [twinelaw3_PathOrders.j0]
    exact Ev.pos (by trivial) (Ev.ret rfl)
  unfold twinelaw3_PathOrders.f
  refine Ev.either (fun h => hj) (fun h1 => ?_)
  by_cases h2 : (b.size : Int) > 20000
  · rw [decide_eq_true h2]
    exact hj
  rw [decide_eq_false h2]
  refine Ev.succ ?_
  simp only [twinelaw3_PathOrders.j0]
  obtain ⟨r, hr1, hr2⟩ := above_both a (by omega)
  refine Ev.neg (by simp) (Ev.bind hr1 (Ev.bind hr2 (Ev.bind (compare_ev a b (by omega) (by omega)) (Ev.bind (rcompare_ev a b (by omega) (by omega)) (Ev.pos rfl ?_)))))
  refine Ev.bind (under_ev a b (by omega) (by omega)) (Ev.bind (runder_ev a b (by omega) (by omega)) (Ev.pos (beq_self_eq_true _) ?_))
  refine Ev.bind (under_ev b a (by omega) (by omega)) (Ev.bind (runder_ev b a (by omega) (by omega)) (Ev.pos (beq_self_eq_true _) (Ev.pos rfl (Ev.ret ?_))))
  exact beq_self_eq_true _
end Go.Proofs.Ytnnpjkpmankeiaa.Q
