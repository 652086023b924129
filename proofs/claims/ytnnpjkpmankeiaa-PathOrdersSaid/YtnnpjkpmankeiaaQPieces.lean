/- What the reference's Pieces, Join and Above tell, and path.Above. -/
import Derived.Test.YtnnpjkpmankeiaaQName
import Derived.Test.YtnnpjkpmankeiaaPLx2
namespace Go.Proofs.Ytnnpjkpmankeiaa.Q
open Go.RowKit Go.Proofs.Ytnnpjkpmankeiaa.PL Go.Proofs.Ytnnpjkpmankeiaa.Hand Go.Proofs.Ytnnpjkpmankeiaa.MStr Go.Proofs.YtnnpjkpmankeiaaW.PrintWords Go.Proofs.YtnnpjkpmankeiaaW.PrintLast
set_option linter.unusedVariables false
set_option linter.unusedSimpArgs false

theorem pieces_l0 (s : ByteArray) (hs : s.size ≤ 8796093022206) (h0 : ¬ s.toList = []) (n : Nat) : ∀ acc a b, s.size - b = n → Cutting s acc a b →
    Ev (fun k => twineref3_Pieces.l0 k s acc (a : Nat) (b : Nat)) (pieces s) := by
  induction n with
  | zero =>
    intro acc a b h hc
    have h1 := hc.few
    have h2 := hc.le
    have h3 := hc.le'
    refine Ev.succ ?_
    simp only [twineref3_Pieces.l0]
    refine Ev.neg (by omega) (Ev.pos (by omega) (Ev.pos (by omega) (Ev.pos (by omega) (Ev.ret ?_))))
    rw [Int.toNat_natCast, hc.fin (by omega) h0]
  | succ n ih =>
    intro acc a b h hc
    have h1 := hc.few
    have h2 := hc.le
    have h3 := hc.le'
    refine Ev.succ ?_
    simp only [twineref3_Pieces.l0]
    refine Ev.pos (by omega) (Ev.pos (by omega) (Ev.either (fun he => ?_) (fun he => ?_)))
    · refine Ev.pos (by omega) (Ev.pos (by omega) (Ev.pos (by omega) (Ev.pos (by omega) ?_)))
      rw [wrap_up b (by omega), Int.toNat_natCast, Int.toNat_natCast]
      exact ih _ _ _ (by omega) (hc.slash (by omega) ((bt_eq s b (by omega) 47).1 he))
    · rw [wrap_up b (by omega)]
      refine ih _ _ _ (by omega) (hc.pass (n := 1) (by omega) (fun j hj1 hj2 => ?_))
      obtain rfl : j = b := by omega
      exact fun e => he ((bt_eq s j (by omega) 47).2 e)
theorem pieces_ev (s : ByteArray) (hs : s.size ≤ 8796093022206) : Ev (fun k => twineref3_Pieces.f k s) (pieces s) := by
  unfold twineref3_Pieces.f
  refine Ev.either (fun h => Ev.ret ?_) (fun h => pieces_l0 s hs h s.size [] 0 0 (by omega) (Cutting.start s))
  rw [pieces, if_pos h]
theorem path_pieces_ev (s : ByteArray) (hs : s.size ≤ 8796093022206) : path_pieces.f s = some (pieces s) := if_pos hs

/-! ### joining -/
def tl (l : List ByteArray) : List UInt8 := l.flatMap (fun x => 47 :: x.data.toList)
def jn : List ByteArray → List UInt8
  | [] => []
  | a :: r => a.data.toList ++ tl r
theorem tl_cons (a : ByteArray) (r : List ByteArray) : tl (a :: r) = 47 :: jn (a :: r) := by simp [tl, jn]
theorem tx_cat (a b : ByteArray) : (a ++ b).data.toList = a.data.toList ++ b.data.toList := by simp
theorem size_cat (a b : ByteArray) : (a ++ b).size = a.size + b.size := by simp
theorem join_l0 (l : List ByteArray) (hl : l.length ≤ 9000000000000000000) (hj : (jn l).length ≤ 9000000000000000000) (n : Nat) : ∀ i acc, l.length - i = n → 1 ≤ i →
    acc.data.toList ++ tl (l.drop i) = jn l → Ev (fun k => twineref3_Join.l0 k l acc (i : Nat)) (tx (jn l)) := by
  induction n with
  | zero =>
    intro i acc h h1 he
    refine Ev.succ ?_
    simp only [twineref3_Join.l0]
    refine Ev.neg (by omega) (Ev.ret ?_)
    rw [List.drop_eq_nil_of_le (by omega)] at he
    rw [← he]
    simp only [tl, List.flatMap_nil, List.append_nil]
    exact (tx_data acc).symm
  | succ n ih =>
    intro i acc h h1 he
    have hi : i < l.length := by omega
    have hd : l.drop i = l[i] :: l.drop (i + 1) := List.drop_eq_getElem_cons hi
    have hsz : acc.size + 1 + l[i].size ≤ (jn l).length := by
      have := congrArg List.length he
      rw [hd, tl_cons, List.length_append, List.length_cons, jn, List.length_append, size_list, size_list] at this
      omega
    refine Ev.succ ?_
    simp only [twineref3_Join.l0]
    rw [rd_at l i hi]
    have e1 : (acc ++ (⟨#[47]⟩ : ByteArray)).size = acc.size + 1 := size_cat _ _
    refine Ev.pos (by omega) (Ev.pos (by omega) (Ev.pos (by omega) (Ev.pos (by omega) (Ev.pos (by omega) ?_))))
    rw [wrap_up i (by omega)]
    refine ih (i + 1) _ (by omega) (by omega) ?_
    rw [tx_cat, tx_cat, ← he, hd, tl_cons, jn]
    simp
theorem join_ev (l : List ByteArray) (hl : l.length ≤ 9000000000000000000) (hj : (jn l).length ≤ 9000000000000000000) : Ev (fun k => twineref3_Join.f k l) (tx (jn l)) := by
  unfold twineref3_Join.f
  cases l with
  | nil =>
    refine Ev.succ ?_
    simp only [twineref3_Join.l0]
    exact Ev.neg (by simp) (Ev.ret rfl)
  | cons a r =>
    refine Ev.succ ?_
    simp only [twineref3_Join.l0]
    rw [show (0 : Int) = ((0 : Nat) : Int) from rfl, rd_at (a :: r) 0 (by simp)]
    have hsz : a.size ≤ (jn (a :: r)).length := by
      rw [jn, List.length_append, size_list]
      omega
    have e1 : (⟨#[]⟩ : ByteArray).size = 0 := rfl
    refine Ev.pos (by simp) (Ev.neg (by simp) (Ev.pos (by simp) (Ev.pos (by simp only [List.getElem_cons_zero]; omega) ?_)))
    rw [wrap_up 0 (by omega)]
    refine join_l0 (a :: r) hl hj r.length 1 _ (by simp) (Nat.le_refl _) ?_
    rw [tx_cat]
    simp [jn]
theorem jn_cuts (l : List UInt8) : jn ((cuts l).map tx) = l := by
  induction l with
  | nil => rfl
  | cons c t ih =>
    rw [cuts]
    split
    · rename_i hc
      subst hc
      cases hx : cuts t with
      | nil => exact absurd hx (cuts_ne t)
      | cons p ps =>
        rw [hx] at ih
        rw [List.map_cons, List.map_cons, jn, tl_cons, ← List.map_cons, ih]
        rfl
    · cases hx : cuts t with
      | nil => exact absurd hx (cuts_ne t)
      | cons p ps =>
        rw [hx] at ih
        simp only [List.map_cons, jn, tx_list] at ih ⊢
        rw [List.cons_append, ih]
theorem cuts_last (a b : List UInt8) (h : ∀ c ∈ b, c ≠ 47) : cuts (a ++ 47 :: b) = cuts a ++ [b] := by
  induction a with
  | nil => simp [cuts, cuts_none b h]
  | cons c t ih =>
    rw [List.cons_append, cuts, cuts, ih]
    split
    · rfl
    · cases hx : cuts t with
      | nil => exact absurd hx (cuts_ne t)
      | cons p ps => rfl

/-! ### the last slash -/
theorem last_l0 (s : ByteArray) (hs : s.size ≤ 9000000000000000000) (n : Nat) : n ≤ s.size → (∀ j, n ≤ j → j < s.size → s.get! j ≠ 47) →
    ∃ r : Int, Ev (fun k => bytealg_LastIndexByteString.l0 k s 47 ((n : Int) - 1)) r ∧
      ((r = -1 ∧ ∀ j, j < s.size → s.get! j ≠ 47) ∨ ∃ j : Nat, r = j ∧ j < s.size ∧ s.get! j = 47 ∧ ∀ j', j < j' → j' < s.size → s.get! j' ≠ 47) := by
  induction n with
  | zero =>
    intro hn h
    refine ⟨-1, Ev.succ ?_, .inl ⟨rfl, fun j hj => h j (by omega) hj⟩⟩
    simp only [bytealg_LastIndexByteString.l0]
    exact Ev.neg (by omega) (Ev.ret rfl)
  | succ n ih =>
    intro hn h
    have e1 : ((n + 1 : Nat) : Int) - 1 = (n : Int) := by omega
    by_cases hc : s.get! n = 47
    · refine ⟨n, Ev.succ ?_, .inr ⟨n, rfl, by omega, hc, fun j' h1 h2 => h j' (by omega) h2⟩⟩
      simp only [bytealg_LastIndexByteString.l0, e1]
      exact Ev.pos (by omega) (Ev.pos (by omega) (Ev.pos (by omega) (Ev.pos ((bt_eq s n (by omega) 47).2 hc) (Ev.ret rfl))))
    · obtain ⟨r, h1, h2⟩ := ih (by omega) (fun j h1 h2 => by
        rcases Nat.lt_or_ge n j with h3 | h3
        · exact h j (by omega) h2
        · obtain rfl : j = n := by omega
          exact hc)
      refine ⟨r, Ev.succ ?_, h2⟩
      simp only [bytealg_LastIndexByteString.l0, e1]
      refine Ev.pos (by omega) (Ev.pos (by omega) (Ev.pos (by omega) (Ev.neg (fun e => hc ((bt_eq s n (by omega) 47).1 e)) ?_)))
      rw [wrap_down n (by omega)]
      exact h1
/-- What lies above a text, and its last piece. -/
theorem above_both (s : ByteArray) (hs : s.size ≤ 8796093022206) : ∃ r : ByteArray × ByteArray, Ev (fun k => path_Above.f k s) r ∧ Ev (fun k => twineref3_Above.f k s) r := by
  obtain ⟨v, hv, hr⟩ := last_l0 s (by omega) s.size (Nat.le_refl _) (fun j h1 h2 => by omega)
  have hlast : Ev (fun k => strings_LastIndexByte.f k s 47) v := by
    unfold strings_LastIndexByte.f bytealg_LastIndexByteString.f
    rw [wrap_down s.size (by omega)]
    exact Ev.bind hv (Ev.ret rfl)
  -- the reference's, given the pieces
  have href : ∀ (ini : List ByteArray) (l : ByteArray), pieces s = ini ++ [l] → (jn ini).length ≤ 9000000000000000000 → Ev (fun k => twineref3_Above.f k s) (tx (jn ini), l) := by
    intro ini l hp hj
    unfold twineref3_Above.f
    refine Ev.bind (pieces_ev s hs) ?_
    have hlen : (pieces s).length = ini.length + 1 := by rw [hp]; simp
    have hfew := pieces_few s _ hs
    have e1 : wrap64 (((pieces s).length : Int) - 1) = (ini.length : Int) := by
      rw [wrap_down _ (by omega)]
      omega
    rw [e1, Int.toNat_natCast]
    refine Ev.neg (by omega) (Ev.pos (by omega) (Ev.pos (by omega) ?_))
    have e2 : (pieces s).take ini.length = ini := by rw [hp]; simp
    rw [e2]
    refine Ev.bind (join_ev ini (by omega) hj) (Ev.pos (by omega) (Ev.ret ?_))
    rw [rd_at _ _ (by omega)]
    simp [hp]
  rcases hr with ⟨rfl, hno⟩ | ⟨j, rfl, hj, hsl, hno⟩
  · -- no slash
    have h1 : Ev (fun k => path_Above.f k s) ((⟨#[]⟩ : ByteArray), s) := by
      unfold path_Above.f
      exact Ev.bind hlast (Ev.pos (by omega) (Ev.ret rfl))
    refine ⟨_, h1, ?_⟩
    by_cases h0 : s.toList = []
    · unfold twineref3_Above.f
      refine Ev.bind (pieces_ev s hs) ?_
      have hp : pieces s = [] := if_pos h0
      rw [hp]
      refine Ev.pos (by simp) (Ev.ret ?_)
      rw [show s = (⟨#[]⟩ : ByteArray) from eq_of_toList (by rw [h0, toList_data])]
    · refine href [] s ?_ (by simp [jn])
      rw [pieces, if_neg h0, cuts_none _ (fun c hc => ?_)]
      · simp [tx_data]
      · obtain ⟨i, hi, rfl⟩ := List.getElem_of_mem hc
        have hi' : i < s.size := by simpa using hi
        have e := get_data s i hi'
        rw [List.getElem?_eq_getElem hi] at e
        rw [Option.some.inj e]
        exact hno i hi'
  · -- a last slash
    have h1 : Ev (fun k => path_Above.f k s) (s.extract 0 j, s.extract (j + 1) s.size) := by
      unfold path_Above.f
      refine Ev.bind hlast ?_
      rw [wrap_up j (by omega), Int.toNat_natCast, Int.toNat_natCast]
      exact Ev.neg (by omega) (Ev.pos (by omega) (Ev.pos (by omega) (Ev.pos (by omega) (Ev.pos (by omega) (Ev.ret rfl)))))
    refine ⟨_, h1, ?_⟩
    have hl : s.data.toList = s.data.toList.take j ++ 47 :: s.data.toList.drop (j + 1) := by
      have e := (List.take_append_drop j s.data.toList).symm
      rw [drop_get s j hj, hsl] at e
      exact e
    have hp : pieces s = (cuts (s.data.toList.take j)).map tx ++ [tx (s.data.toList.drop (j + 1))] := by
      have h0 : ¬ s.toList = [] := by
        intro h
        rw [toList_data] at h
        rw [h] at hl
        simp at hl
      rw [pieces, if_neg h0]
      have e := congrArg cuts hl
      rw [cuts_last _ _ (fun c hc => ?_)] at e
      · rw [e]; simp
      · obtain ⟨i, hi, rfl⟩ := List.getElem_of_mem hc
        rw [List.length_drop] at hi
        have hi' : j + 1 + i < s.size := by rw [← size_list s]; omega
        have e := get_data s (j + 1 + i) hi'
        rw [List.getElem_drop]
        rw [List.getElem?_eq_getElem (by rw [size_list]; exact hi')] at e
        rw [Option.some.inj e]
        exact hno _ (by omega) hi'
    have hres := href _ _ hp (by
      rw [jn_cuts, List.length_take, size_list]
      omega)
    refine hres.as ?_
    rw [jn_cuts, extract_tx, extract_tx]
    rw [List.drop_zero, Nat.sub_zero, List.take_of_length_le (l := s.data.toList.drop (j + 1)) (by rw [List.length_drop, size_list]; omega)]
end Go.Proofs.Ytnnpjkpmankeiaa.Q
