/- The plan with its sides exchanged (plain law). -/
import Derived.Test.YtljamcgngojaeaaPt
namespace Go.Proofs.Ytljamcgngojaeaa.T
open Go.Proofs.Ytljamcgngojaeaa.E
set_option maxRecDepth 100000
set_option linter.unusedVariables false
def flipC (c : Cell) : Cell := if c.side = 1 ∨ c.side = 2 then { c with side := 3 - c.side } else c
def flipF (l : List Cell) (i : Nat) : List Cell := (l.take i).map flipC
def swapI (it : Item) : Item := { it with src := it.dst, dst := it.src }
def swap4 (f : Four) : Four := ⟨f.n1, f.b1, f.n0, f.b0⟩
theorem flipC_eq (c : Cell) : (flipC c).path = c.path ∧ (flipC c).what = c.what ∧ (flipC c).mode = c.mode ∧ (flipC c).keep = c.keep ∧ (flipC c).take = c.take ∧ (flipC c).names = c.names ∧ (flipC c).bytes = c.bytes ∧ (flipC c).hadN = c.hadN ∧ (flipC c).hadB = c.hadB := by
  unfold flipC; split <;> exact ⟨rfl, rfl, rfl, rfl, rfl, rfl, rfl, rfl, rfl⟩
theorem flipC_side (c : Cell) : (flipC c).side = if c.side = 1 then 2 else if c.side = 2 then 1 else c.side := by
  unfold flipC
  by_cases h1 : c.side = 1
  · rw [if_pos (.inl h1), if_pos h1]; simp [h1]
  · by_cases h2 : c.side = 2
    · rw [if_pos (.inr h2), if_neg h1, if_pos h2]; simp [h2]
    · rw [if_neg (by omega), if_neg h1, if_neg h2]
theorem rd_flip (l : List Cell) (i : Nat) : rd (l.map flipC) i cell0 = flipC (rd l i cell0) := by
  unfold rd
  rw [List.getD_eq_getElem?_getD, List.getD_eq_getElem?_getD, List.getElem?_map]
  cases l[i]? with
  | none => rfl
  | some c => rfl
theorem srt_flip (l : List Cell) (j : Nat) : srt (l.map flipC) j = srt l j := by
  have := flipC_eq (rd l j cell0)
  unfold srt sortF
  rw [rd_flip, this.2.1, this.2.2.2.1, this.2.2.2.2.1]
theorem pw_flip (l : List Cell) (B : List Bool) (j : Nat) : pwAt (l.map flipC) B j = pwAt l B j := by
  have := flipC_eq (rd l j cell0)
  unfold pwAt
  rw [rd_flip, this.2.2.2.1, this.2.2.2.2.1]
theorem marks_flip (l : List Cell) (a b : Nat) : marks (l.map flipC) a b = marks l a b := by
  unfold marks
  rw [List.length_map]
  exact tb_congr fun j _ => by unfold behind; rw [srt_flip]
theorem pworst_flip (l : List Cell) (B : List Bool) : pworstF (l.map flipC) B = pworstF l B := by
  unfold pworstF
  rw [List.length_map, show pwAt (l.map flipC) B = pwAt l B from funext fun j => pw_flip l B j]
theorem prevS_flip (l : List Cell) (s : Int) : ∀ a, prevS (l.map flipC) s a = prevS l s a
  | 0 => rfl
  | a + 1 => by simp only [prevS, srt_flip, prevS_flip l s a]
theorem cut_flip (l : List Cell) (M : Int) : ∀ k a b, cut (l.map flipC) M k a b = cut l M k a b
  | 0, a, b => rfl
  | k + 1, a, b => by simp only [cut, marks_flip, pworst_flip, prevS_flip, cut_flip l M k]
theorem leave_flip (l : List Cell) (M : Int) : leaveF (l.map flipC) M = leaveF l M := by
  unfold leaveF final
  rw [List.length_map, cut_flip, marks_flip]
def swapS (s : PS) : PS := { s with items := s.items.map swapI, n0 := s.n1, b0 := s.b1, n1 := s.n0, b1 := s.b0, x0 := s.x1, y0 := s.y1, x1 := s.x0, y1 := s.y0 }
theorem step_flip (l : List Cell) (L : List Bool) (j : Nat) (s : PS) : ofStep (l.map flipC) L j (swapS s) = swapS (ofStep l L j s) := by
  have e := flipC_eq (rd l j cell0)
  obtain ⟨e1, e2, e3, e4, e5, e6, e7, e8, e9⟩ := e
  have es := flipC_side (rd l j cell0)
  have hr : cAt (l.map flipC) j = flipC (rd l j cell0) := rd_flip l j
  have hr' : cAt l j = rd l j cell0 := rfl
  unfold ofStep
  by_cases hL : rd L j false = true
  · rw [if_pos hL, if_pos hL]; rfl
  · rw [if_neg hL, if_neg hL, hr, hr', e2, es]
    by_cases hw : (rd l j cell0).what = 3 ∨ (rd l j cell0).what = 2
    · rw [if_pos hw, if_pos hw]
      by_cases h1 : (rd l j cell0).side = 1
      · rw [if_pos h1, if_pos h1, if_neg (by decide), if_pos rfl]
        by_cases h2 : (rd l j cell0).what = 2
        · rw [if_pos h2, if_pos h2]
          simp only [stBoth, swapS, itemOf, hr, hr', e1, e2, e3, List.map_append, List.map_cons, List.map_nil, swapI, List.length_map]
        · rw [if_neg h2, if_neg h2]
          simp only [stTo0, stTo1, swapS, itemOf, hr, hr', e1, e2, e6, e7, e8, e9, List.map_append, List.map_cons, List.map_nil, swapI, List.length_map]
      · rw [if_neg h1]
        by_cases h1' : (rd l j cell0).side = 2
        · rw [if_pos h1', if_pos rfl, if_neg h1, if_pos h1']
          by_cases h2 : (rd l j cell0).what = 2
          · rw [if_pos h2, if_pos h2]
            simp only [stBoth, swapS, itemOf, hr, hr', e1, e2, e3, List.map_append, List.map_cons, List.map_nil, swapI, List.length_map]
          · rw [if_neg h2, if_neg h2]
            simp only [stTo0, stTo1, swapS, itemOf, hr, hr', e1, e2, e6, e7, e8, e9, List.map_append, List.map_cons, List.map_nil, swapI, List.length_map]
        · rw [if_neg h1', if_neg h1, if_neg h1', if_neg h1, if_neg h1']
    · rw [if_neg hw, if_neg hw]
theorem ofS_flip (l : List Cell) (L : List Bool) : ∀ j, ofS (l.map flipC) L j = swapS (ofS l L j)
  | 0 => rfl
  | j + 1 => by simp only [ofS]; rw [ofS_flip l L j, step_flip]
theorem of_flip (l : List Cell) (most : Int) : ofF (l.map flipC) most = swapS (ofF l most) := by
  unfold ofF leftOf
  rw [List.length_map, leave_flip, ofS_flip]
theorem cellOf_flip (l : List Cell) (it : Item) : cellOf (l.map flipC) (swapI it) = flipC (cellOf l it) := rd_flip l it.cell.toNat
theorem bal_flip (l : List Cell) (s : Four) {it : Item} (h : (it.dst = 0 ∧ it.src = 1) ∨ (it.dst = 1 ∧ it.src = 0)) : balStep (l.map flipC) (swap4 s) (swapI it) = swap4 (balStep l s it) := by
  have e := flipC_eq (cellOf l it)
  obtain ⟨e1, e2, e3, e4, e5, e6, e7, e8, e9⟩ := e
  unfold balStep
  rw [cellOf_flip, e6, e7, e8, e9]
  by_cases hw : it.what = 2
  · rw [if_pos hw, if_pos (show (swapI it).what = 2 from hw)]
  · rw [if_neg hw, if_neg (show ¬ (swapI it).what = 2 from hw)]
    rcases h with ⟨h, h'⟩ | ⟨h, h'⟩
    · rw [if_pos h, if_neg (show ¬ (swapI it).dst = 0 from by show ¬ it.src = 0; omega)]; rfl
    · rw [if_neg (show ¬ it.dst = 0 by omega), if_pos (show (swapI it).dst = 0 from h')]; rfl
theorem okIt_flip (l : List Cell) (f s : Four) {it : Item} (h : (it.dst = 0 ∧ it.src = 1) ∨ (it.dst = 1 ∧ it.src = 0)) : okIt (l.map flipC) (swap4 f) (swap4 s) (swapI it) = okIt l f s it := by
  have e := flipC_eq (cellOf l it)
  obtain ⟨e1, e2, e3, e4, e5, e6, e7, e8, e9⟩ := e
  have hn : needN (l.map flipC) (swap4 s) (swapI it) = needN l s it := by
    unfold needN
    rw [cellOf_flip, e6]
    by_cases hw : it.what = 2
    · rw [if_pos hw, if_pos (show (swapI it).what = 2 from hw)]
    · rw [if_neg hw, if_neg (show ¬ (swapI it).what = 2 from hw)]
      rcases h with ⟨h, h'⟩ | ⟨h, h'⟩
      · rw [if_pos h, if_neg (show ¬ (swapI it).dst = 0 from by show ¬ it.src = 0; omega)]; rfl
      · rw [if_neg (show ¬ it.dst = 0 by omega), if_pos (show (swapI it).dst = 0 from h')]; rfl
  have hb : needB (l.map flipC) (swap4 s) (swapI it) = needB l s it := by
    unfold needB
    rw [cellOf_flip, e7]
    by_cases hw : it.what = 2
    · rw [if_pos hw, if_pos (show (swapI it).what = 2 from hw)]
    · rw [if_neg hw, if_neg (show ¬ (swapI it).what = 2 from hw)]
      rcases h with ⟨h, h'⟩ | ⟨h, h'⟩
      · rw [if_pos h, if_neg (show ¬ (swapI it).dst = 0 from by show ¬ it.src = 0; omega)]; rfl
      · rw [if_neg (show ¬ it.dst = 0 by omega), if_pos (show (swapI it).dst = 0 from h')]; rfl
  unfold okIt
  rw [hn, hb]
  rcases h with ⟨h, h'⟩ | ⟨h, h'⟩
  · rw [if_pos h, if_neg (show ¬ (swapI it).dst = 0 from by show ¬ it.src = 0; omega)]; rfl
  · rw [if_neg (show ¬ it.dst = 0 by omega), if_pos (show (swapI it).dst = 0 from h')]; rfl
theorem fitsL_flip (l : List Cell) (f : Four) : ∀ (its : List Item) (s : Four), (∀ it ∈ its, (it.dst = 0 ∧ it.src = 1) ∨ (it.dst = 1 ∧ it.src = 0)) → fitsL (l.map flipC) (swap4 f) (its.map swapI) (swap4 s) = fitsL l f its s
  | [], s, _ => rfl
  | it :: its, s, h => by
    have h0 := h it (List.mem_cons_self ..)
    simp only [List.map_cons, fitsL]
    rw [okIt_flip l f s h0, bal_flip l s h0, fitsL_flip l f its _ fun x hx => h x (List.mem_cons_of_mem _ hx)]
theorem ofS_ways (l : List Cell) (B : List Bool) : ∀ j, ∀ it ∈ (ofS l B j).items, (it.dst = 0 ∧ it.src = 1) ∨ (it.dst = 1 ∧ it.src = 0)
  | 0 => fun it h => by simp [ofS, ps0] at h
  | j + 1 => by
    have h2 := ofS_ways l B j
    have add : ∀ n (a b m : Int), ((b = 0 ∧ a = 1) ∨ (b = 1 ∧ a = 0)) → ∀ it ∈ (ofS l B j).items ++ [itemOf l j n a b m], (it.dst = 0 ∧ it.src = 1) ∨ (it.dst = 1 ∧ it.src = 0) := by
      intro n a b m hb it h
      rcases List.mem_append.1 h with h | h
      · exact h2 it h
      · obtain rfl := List.mem_singleton.1 h
        exact hb
    simp only [ofS, ofStep]
    (repeat' split) <;> first | exact h2 | exact add _ _ _ _ (.inl ⟨rfl, rfl⟩) | exact add _ _ _ _ (.inr ⟨rfl, rfl⟩)
theorem fits_flip (l : List Cell) (most : Int) (f : Four) : fitsF (l.map flipC) most (swap4 f) = fitsF l most f := by
  unfold fitsF
  rw [of_flip]
  exact fitsL_flip l f _ four0 (ofS_ways _ _ _)
theorem flip_cells {l : List Cell} (h : Cells l) : Cells (l.map flipC) := fun c hc => by
  obtain ⟨d, hd, rfl⟩ := List.mem_map.1 hc
  have := h d hd
  unfold flipC
  split
  · rename_i hs
    exact ⟨this.what, by show i64ok (3 - d.side); unfold i64ok; omega, this.mode, this.keep, this.take, this.names, this.bytes, this.hadN, this.hadB⟩
  · exact this
/-! ### the plan's numbers -/
theorem max_i64 {a b : Int} (ha : i64ok a) (hb : i64ok b) : i64ok (max a b) := by unfold i64ok at *; omega
theorem ofS_ok {l : List Cell} (h : Cells l) (B : List Bool) : ∀ j, (ofS l B j).Ok
  | 0 => ⟨i64z, i64z, i64z, i64z, i64z, i64z, i64z, i64z⟩
  | j + 1 => by
    obtain ⟨k1, k2, k3, k4, k5, k6, k7, k8⟩ := ofS_ok h B j
    have c := h.rd j
    have c1 := max0_ok c.names
    have c2 := max0_ok c.bytes
    have c3 := max0_ok c.hadN
    have c4 := max0_ok c.hadB
    have keep : (ofS l B j).Ok := ⟨k1, k2, k3, k4, k5, k6, k7, k8⟩
    simp only [ofS, ofStep]
    (repeat' split)
    · exact keep
    · exact keep
    · exact ⟨k1, k2, max_i64 k3 (addF_ok _ _ k7 c1.1), max_i64 k4 (addF_ok _ _ k8 c2.1), k5, k6, addF_ok _ _ (addF_ok _ _ k7 c1.1) c3.2, addF_ok _ _ (addF_ok _ _ k8 c2.1) c4.2⟩
    · exact keep
    · exact ⟨max_i64 k1 (addF_ok _ _ k5 c1.1), max_i64 k2 (addF_ok _ _ k6 c2.1), k3, k4, addF_ok _ _ (addF_ok _ _ k5 c1.1) c3.2, addF_ok _ _ (addF_ok _ _ k6 c2.1) c4.2, k7, k8⟩
    · exact keep
    · exact keep
theorem of_nums {l : List Cell} (h : Cells l) (most : Int) : (ofF l most).Ok := ofS_ok h _ _
end Go.Proofs.Ytljamcgngojaeaa.T
