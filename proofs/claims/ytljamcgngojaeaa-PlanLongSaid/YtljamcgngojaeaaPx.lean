/- The plan: as many items as there is room for, and not one more (plain law). -/
import Derived.Test.YtljamcgngojaeaaPw
namespace Go.Proofs.Ytljamcgngojaeaa.T
open Go.Proofs.Ytljamcgngojaeaa.E
set_option maxRecDepth 100000
set_option linter.unusedVariables false
def fitsB (a f : Four) : Bool := decide ((a.n0 ≤ max f.n0 0 ∧ a.b0 ≤ max f.b0 0) ∧ (a.n1 ≤ max f.n1 0 ∧ a.b1 ≤ max f.b1 0))
def mxStep (l : List Cell) (p : Four × Four) (it : Item) : Four × Four :=
  (balStep l p.1 it, if it.what = 2 then p.2
    else if it.dst = 0 then ⟨max p.2.n0 (addF p.1.n0 (max (cellOf l it).names 0)), max p.2.b0 (addF p.1.b0 (max (cellOf l it).bytes 0)), p.2.n1, p.2.b1⟩
    else ⟨p.2.n0, p.2.b0, max p.2.n1 (addF p.1.n1 (max (cellOf l it).names 0)), max p.2.b1 (addF p.1.b1 (max (cellOf l it).bytes 0))⟩)
def mxF (l : List Cell) (its : List Item) : Four × Four := its.foldl (mxStep l) (four0, four0)
theorem mxF_snoc (l : List Cell) (its : List Item) (it : Item) : mxF l (its ++ [it]) = mxStep l (mxF l its) it := by simp [mxF]
def needF (s : PS) : Four := ⟨s.n0, s.b0, s.n1, s.b1⟩
def balS (s : PS) : Four := ⟨s.x0, s.y0, s.x1, s.y1⟩
theorem cellOf_item (l : List Cell) (j n : Nat) (a b m : Int) : cellOf l (itemOf l j n a b m) = cAt l j := by
  unfold cellOf itemOf; simp only [Int.toNat_natCast]
theorem mx_of (l : List Cell) (B : List Bool) : ∀ j, mxF l (ofS l B j).items = (balS (ofS l B j), needF (ofS l B j))
  | 0 => rfl
  | j + 1 => by
    have ih := mx_of l B j
    simp only [ofS, ofStep]
    by_cases hL : rd B j false = true
    · rw [if_pos hL]; exact ih
    · rw [if_neg hL]
      by_cases hw : (cAt l j).what = 3 ∨ (cAt l j).what = 2
      · rw [if_pos hw]
        by_cases h1 : (cAt l j).side = 1
        · rw [if_pos h1]
          by_cases h2 : (cAt l j).what = 2
          · rw [if_pos h2, stBoth, mxF_snoc, ih, mxStep, balStep, if_pos (show (itemOf l j (ofS l B j).items.length 0 1 (cAt l j).mode).what = 2 from h2), if_pos (show (itemOf l j (ofS l B j).items.length 0 1 (cAt l j).mode).what = 2 from h2)]; rfl
          · rw [if_neg h2, stTo1, mxF_snoc, ih, mxStep, balStep, cellOf_item, if_neg (show ¬ (itemOf l j (ofS l B j).items.length 0 1 0).what = 2 from h2), if_neg (show ¬ (itemOf l j (ofS l B j).items.length 0 1 0).what = 2 from h2),
              if_neg (show ¬ (itemOf l j (ofS l B j).items.length 0 1 0).dst = 0 by simp [itemOf]), if_neg (show ¬ (itemOf l j (ofS l B j).items.length 0 1 0).dst = 0 by simp [itemOf])]; rfl
        · rw [if_neg h1]
          by_cases h1' : (cAt l j).side = 2
          · rw [if_pos h1']
            by_cases h2 : (cAt l j).what = 2
            · rw [if_pos h2, stBoth, mxF_snoc, ih, mxStep, balStep, if_pos (show (itemOf l j (ofS l B j).items.length 1 0 (cAt l j).mode).what = 2 from h2), if_pos (show (itemOf l j (ofS l B j).items.length 1 0 (cAt l j).mode).what = 2 from h2)]; rfl
            · rw [if_neg h2, stTo0, mxF_snoc, ih, mxStep, balStep, cellOf_item, if_neg (show ¬ (itemOf l j (ofS l B j).items.length 1 0 0).what = 2 from h2), if_neg (show ¬ (itemOf l j (ofS l B j).items.length 1 0 0).what = 2 from h2),
                if_pos (show (itemOf l j (ofS l B j).items.length 1 0 0).dst = 0 from rfl), if_pos (show (itemOf l j (ofS l B j).items.length 1 0 0).dst = 0 from rfl)]; rfl
          · rw [if_neg h1']; exact ih
      · rw [if_neg hw]; exact ih
def allOk (l : List Cell) (f : Four) : List Item → Four → Bool
  | [], _ => true
  | it :: its, s => okIt l f s it && allOk l f its (balStep l s it)
theorem fitsB_step (l : List Cell) (f : Four) (p : Four × Four) (it : Item) : fitsB (mxStep l p it).2 f = (fitsB p.2 f && okIt l f p.1 it) := by
  unfold fitsB mxStep okIt needN needB
  rw [Bool.eq_iff_iff, Bool.and_eq_true, decide_eq_true_iff, decide_eq_true_iff]
  by_cases hw : it.what = 2
  · simp only [if_pos hw]
    split <;> (rw [decide_eq_true_iff]; omega)
  · simp only [if_neg hw]
    by_cases hd : it.dst = 0
    · simp only [if_pos hd]; rw [decide_eq_true_iff]; omega
    · simp only [if_neg hd]; rw [decide_eq_true_iff]; omega
theorem fitsB_all (l : List Cell) (f : Four) : ∀ (its : List Item) (p : Four × Four), fitsB (its.foldl (mxStep l) p).2 f = (fitsB p.2 f && allOk l f its p.1)
  | [], p => by simp [allOk]
  | it :: its, p => by
    rw [List.foldl_cons, fitsB_all l f its, fitsB_step, Bool.and_assoc]; rfl
theorem fitsB_mx (l : List Cell) (f : Four) (its : List Item) : fitsB (mxF l its).2 f = allOk l f its four0 := by
  unfold mxF
  rw [fitsB_all]
  have : fitsB four0 f = true := by
    unfold fitsB four0
    rw [decide_eq_true_iff]; simp only; omega
  rw [this, Bool.true_and]
theorem fits_take (l : List Cell) (f : Four) : ∀ (its : List Item) (s : Four), allOk l f (its.take (fitsL l f its s)) s = true ∧ (fitsL l f its s < its.length → allOk l f (its.take (fitsL l f its s + 1)) s = false)
  | [], s => ⟨rfl, fun h => by simp [fitsL] at h⟩
  | it :: its, s => by
    have ih := fits_take l f its (balStep l s it)
    simp only [fitsL]
    by_cases h : okIt l f s it = true
    · rw [if_pos h]
      refine ⟨?_, fun h' => ?_⟩
      · rw [List.take_succ_cons, allOk, h, ih.1]; rfl
      · rw [List.take_succ_cons, allOk, h, ih.2 (by simpa using h')]; rfl
    · rw [if_neg h]
      refine ⟨rfl, fun _ => ?_⟩
      rw [List.take_succ_cons, allOk]
      simp [h]
theorem fits_all (l : List Cell) (f : Four) : ∀ (its : List Item) (s : Four), allOk l f its s = true → fitsL l f its s = its.length
  | [], s, _ => rfl
  | it :: its, s, h => by
    simp only [allOk, Bool.and_eq_true] at h
    simp only [fitsL]
    rw [if_pos h.1, fits_all l f its _ h.2]; rfl
theorem fits_more (l : List Cell) {f g : Four} (h : max f.n0 0 ≤ max g.n0 0 ∧ max f.b0 0 ≤ max g.b0 0 ∧ max f.n1 0 ≤ max g.n1 0 ∧ max f.b1 0 ≤ max g.b1 0) : ∀ (its : List Item) (s : Four), fitsL l f its s ≤ fitsL l g its s
  | [], s => Nat.le_refl _
  | it :: its, s => by
    have ih := fits_more l h its (balStep l s it)
    simp only [fitsL]
    by_cases hf : okIt l f s it = true
    · have hg : okIt l g s it = true := by
        unfold okIt at hf ⊢
        split at hf <;> rename_i hd
        · rw [if_pos hd]; rw [decide_eq_true_iff] at hf ⊢; omega
        · rw [if_neg hd]; rw [decide_eq_true_iff] at hf ⊢; omega
      rw [if_pos hf, if_pos hg]; omega
    · rw [if_neg hf]; omega
/-! ### the beginning of a plan, as a merge -/
def begC (l : List Cell) (it : Item) : Cell := { cellOf l it with keep := 0, take := 0 }
def begF (l : List Cell) (its : List Item) (k : Nat) : List Cell := (its.take k).map (begC l)
theorem ofS_kinds (l : List Cell) (B : List Bool) : ∀ j, ∀ it ∈ (ofS l B j).items, it.what = (cellOf l it).what ∧ (it.what = 3 ∨ it.what = 2) ∧ (((cellOf l it).side = 1 ∧ it.dst = 1) ∨ ((cellOf l it).side = 2 ∧ it.dst = 0))
  | 0 => fun it h => by simp [ofS, ps0] at h
  | j + 1 => by
    have h2 := ofS_kinds l B j
    have add : ∀ n (a b m : Int), ((cAt l j).what = 3 ∨ (cAt l j).what = 2) → (((cAt l j).side = 1 ∧ b = 1) ∨ ((cAt l j).side = 2 ∧ b = 0)) → ∀ it ∈ (ofS l B j).items ++ [itemOf l j n a b m], it.what = (cellOf l it).what ∧ (it.what = 3 ∨ it.what = 2) ∧ (((cellOf l it).side = 1 ∧ it.dst = 1) ∨ ((cellOf l it).side = 2 ∧ it.dst = 0)) := by
      intro n a b m hw hb it h
      rcases List.mem_append.1 h with h | h
      · exact h2 it h
      · obtain rfl := List.mem_singleton.1 h
        rw [cellOf_item]
        exact ⟨rfl, hw, hb⟩
    simp only [ofS, ofStep]
    split
    · exact h2
    · split
      · rename_i hw
        split
        · rename_i h1
          split
          · exact add _ _ _ _ hw (.inl ⟨h1, rfl⟩)
          · exact add _ _ _ _ hw (.inl ⟨h1, rfl⟩)
        · split
          · rename_i h1
            split
            · exact add _ _ _ _ hw (.inr ⟨h1, rfl⟩)
            · exact add _ _ _ _ hw (.inr ⟨h1, rfl⟩)
          · exact h2
      · exact h2
theorem rd_beg {l : List Cell} {its : List Item} {k j : Nat} (hk : k ≤ its.length) (hj : j < k) : rd (begF l its k) j cell0 = begC l (rd its j item0) := by
  have hj' : j < its.length := by omega
  unfold rd begF
  rw [List.getD_eq_getElem?_getD, List.getD_eq_getElem?_getD, List.getElem?_map, List.getElem?_take_of_lt hj, List.getElem?_eq_getElem hj']
  rfl
theorem srt_beg (l : List Cell) (its : List Item) (k j : Nat) : srt (begF l its k) j = 0 := by
  unfold srt
  have : (rd (begF l its k) j cell0).keep = 0 ∧ (rd (begF l its k) j cell0).take = 0 := by
    unfold rd begF
    rw [List.getD_eq_getElem?_getD, List.getElem?_map]
    cases (its.take k)[j]? <;> exact ⟨rfl, rfl⟩
  unfold sortF
  rw [this.1, this.2, if_pos (Int.le_refl _)]
theorem leave_beg {l : List Cell} {its : List Item} {k : Nat} {M : Int} {j : Nat} (h : j < (begF l its k).length) : rd (leaveF (begF l its k) M) j false = false := by
  unfold leaveF
  rw [rd_marks h]
  unfold behind
  rw [srt_beg]
  exact decide_eq_false (by omega)
theorem beg_of {l : List Cell} {its : List Item} {k : Nat} {M : Int} (hk : k ≤ its.length) (hi : ∀ it ∈ its, it.what = (cellOf l it).what ∧ (it.what = 3 ∨ it.what = 2) ∧ (((cellOf l it).side = 1 ∧ it.dst = 1) ∨ ((cellOf l it).side = 2 ∧ it.dst = 0))) :
    ∀ j, j ≤ k → (balS (ofS (begF l its k) (leaveF (begF l its k) M) j), needF (ofS (begF l its k) (leaveF (begF l its k) M) j)) = mxF l (its.take j)
  | 0, _ => rfl
  | j + 1, hj => by
    have ih := beg_of (M := M) hk hi j (by omega)
    have hlen : (begF l its k).length = k := by unfold begF; rw [List.length_map, List.length_take]; omega
    have hjl : j < its.length := by omega
    rw [take_snoc (d := item0) hjl, mxF_snoc, ← ih]
    obtain ⟨h1, h2, h3⟩ := hi _ (rd_mem' (d := item0) hjl)
    have hc : cAt (begF l its k) j = begC l (rd its j item0) := rd_beg hk (by omega)
    have hL := leave_beg (l := l) (its := its) (k := k) (M := M) (j := j) (by omega)
    simp only [ofS, ofStep]
    rw [if_neg (by rw [hL]; decide), hc, if_pos (show (begC l (rd its j item0)).what = 3 ∨ (begC l (rd its j item0)).what = 2 by rw [show (begC l (rd its j item0)).what = (cellOf l (rd its j item0)).what from rfl, ← h1]; exact h2)]
    have hw : (begC l (rd its j item0)).what = 2 ↔ (rd its j item0).what = 2 := by rw [show (begC l (rd its j item0)).what = (cellOf l (rd its j item0)).what from rfl, ← h1]
    unfold mxStep balStep
    rcases h3 with ⟨h3, h4⟩ | ⟨h3, h4⟩
    · rw [if_pos (show (begC l (rd its j item0)).side = 1 from h3)]
      by_cases h5 : (rd its j item0).what = 2
      · rw [if_pos (hw.2 h5), if_pos h5, if_pos h5]; rfl
      · rw [if_neg (fun h => h5 (hw.1 h)), if_neg h5, if_neg h5, if_neg (show ¬ (rd its j item0).dst = 0 by omega), if_neg (show ¬ (rd its j item0).dst = 0 by omega), stTo1, hc]; rfl
    · rw [if_neg (show ¬ (begC l (rd its j item0)).side = 1 by rw [show (begC l (rd its j item0)).side = 2 from h3]; decide), if_pos (show (begC l (rd its j item0)).side = 2 from h3)]
      by_cases h5 : (rd its j item0).what = 2
      · rw [if_pos (hw.2 h5), if_pos h5, if_pos h5]; rfl
      · rw [if_neg (fun h => h5 (hw.1 h)), if_neg h5, if_neg h5, if_pos h4, if_pos h4, stTo0, hc]; rfl
structure FitsLaw (l : List Cell) (most : Int) (f : Four) : Prop where
  all : fitsF l most (needF (ofF l most)) = (ofF l most).items.length
  le : fitsF l most f ≤ (ofF l most).items.length
  yes : ∀ M, fitsB (needF (ofF (begF l (ofF l most).items (fitsF l most f)) M)) f = true
  no : ∀ M, fitsF l most f < (ofF l most).items.length → fitsB (needF (ofF (begF l (ofF l most).items (fitsF l most f + 1)) M)) f = false
  more : ∀ g : Four, max f.n0 0 ≤ max g.n0 0 ∧ max f.b0 0 ≤ max g.b0 0 ∧ max f.n1 0 ≤ max g.n1 0 ∧ max f.b1 0 ≤ max g.b1 0 → fitsF l most f ≤ fitsF l most g
theorem fits_law (l : List Cell) (most : Int) (f : Four) : FitsLaw l most f := by
  have hk := ofS_kinds l (leftOf l most) l.length
  have hmx := mx_of l (leftOf l most) l.length
  have hle := fitsL_le l f (ofF l most).items four0
  have beg : ∀ k M, k ≤ (ofF l most).items.length → needF (ofF (begF l (ofF l most).items k) M) = (mxF l ((ofF l most).items.take k)).2 := fun k M hk' => by
    have hlen : (begF l (ofF l most).items k).length = k := by unfold begF; rw [List.length_map, List.length_take]; omega
    have := beg_of (M := min (max M 1) 1048576) hk' hk k (Nat.le_refl _)
    rw [← this]
    show needF (ofS _ (leftOf _ M) _) = needF (ofS _ _ k)
    rw [hlen]; rfl
  have ht := fits_take l f (ofF l most).items four0
  refine ⟨?_, hle, fun M => ?_, fun M h => ?_, fun g h => fits_more l h _ _⟩
  · refine fits_all l _ _ _ ?_
    rw [← fitsB_mx, show (mxF l (ofF l most).items).2 = needF (ofF l most) from congrArg Prod.snd hmx]
    unfold fitsB
    rw [decide_eq_true_iff]; omega
  · show fitsB (needF (ofF (begF l (ofF l most).items (fitsL l f (ofF l most).items four0)) M)) f = true
    rw [beg _ M hle, fitsB_mx]; exact ht.1
  · show fitsB (needF (ofF (begF l (ofF l most).items (fitsL l f (ofF l most).items four0 + 1)) M)) f = false
    rw [beg (fitsL l f (ofF l most).items four0 + 1) M h, fitsB_mx]; exact ht.2 h
end Go.Proofs.Ytljamcgngojaeaa.T
