/- Regions that draw their order, fourth part: the invariant, and that every step keeps it. -/
import Derived.Test.YtndlpbheifalhaaGreatDoorEd
namespace Go.Proofs.YtndlpbheifalhaaGreatDoor.E
set_option linter.unusedVariables false
set_option linter.unusedSimpArgs false
variable {K : Kinds} {P : Program} {S : Nat → Prop} {w0 w : World} {r : Nat → Ref} {H : VH K}
def Ul (D : DPlan) (l : Nat → Bool) : Nat → Bool := Uof D.al D.N0 fun q => !l q
def Wl (ops : Array Oper) (l : Nat → Bool) (t : Nat) : Bool := (List.range ops.size).any fun k => opB ops k fun o => softB o && (o.dst == some t && !l k)
theorem Wl_true {ops : Array Oper} {l : Nat → Bool} {t k : Nat} {o : Oper} (ho : ops[k]? = some o) (hs : softB o = true) (hd : o.dst = some t) (hl : l k = false) : Wl ops l t = true :=
  List.any_eq_true.2 ⟨k, List.mem_range.2 (lt_of_op ho), by simp [opB, ho, hs, hd, hl]⟩
theorem Wl_of {ops : Array Oper} {l : Nat → Bool} {t : Nat} (h : Wl ops l t = true) : ∃ k o, ops[k]? = some o ∧ softB o = true ∧ o.dst = some t ∧ l k = false := by
  obtain ⟨k, hk, h⟩ := List.any_eq_true.1 h
  have hk' := List.mem_range.1 hk
  refine ⟨k, ops[k], by simp [hk'], ?_⟩
  have := opB_get h (show ops[k]? = some ops[k] by simp [hk'])
  simpa [and_assoc] using this
def maskFrFrom (W : Nat → Bool) : Nat → List VV → List VV
  | _, [] => []
  | n, a :: l => (if W n then .any else a) :: maskFrFrom W (n + 1) l
def maskFr (W : Nat → Bool) (fr : List VV) : List VV := maskFrFrom W 0 fr
theorem maskFrFrom_get {W : Nat → Bool} : ∀ {n : Nat} {fr : List VV} (m : Nat), (maskFrFrom W n fr)[m]? = (fr[m]?).map fun x => if W (n + m) then .any else x
  | n, [], m => by simp [maskFrFrom]
  | n, a :: l, 0 => by simp [maskFrFrom]
  | n, a :: l, m + 1 => by
    have := maskFrFrom_get (W := W) (n := n + 1) (fr := l) m
    simp only [maskFrFrom, List.getElem?_cons_succ]
    rw [this, show n + (m + 1) = n + 1 + m by omega]
theorem maskFr_get {W : Nat → Bool} {fr : List VV} (m : Nat) : (maskFr W fr)[m]? = (fr[m]?).map fun x => if W m then .any else x := by
  have := maskFrFrom_get (W := W) (n := 0) (fr := fr) m
  rwa [Nat.zero_add] at this
theorem maskFr_getD {W : Nat → Bool} {fr : List VV} (m : Nat) : (maskFr W fr).getD m .any = if W m then .any else fr.getD m .any := by
  rw [List.getD_eq_getElem?_getD, List.getD_eq_getElem?_getD, maskFr_get]
  cases fr[m]? with
  | none => simp
  | some x => simp
theorem maskFr_len {W : Nat → Bool} {fr : List VV} : (maskFr W fr).length = fr.length := by
  apply Nat.le_antisymm
  · rcases Nat.lt_or_ge fr.length (maskFr W fr).length with h | h
    · have := maskFr_get (W := W) (fr := fr) fr.length
      simp [h] at this
    · exact h
  · rcases Nat.lt_or_ge (maskFr W fr).length fr.length with h | h
    · have := maskFr_get (W := W) (fr := fr) (maskFr W fr).length
      simp [h] at this
    · exact h
theorem maskFr_ext {W W' : Nat → Bool} {fr fr' : List VV} (hl : fr'.length = fr.length) (h : ∀ t, t < fr.length → W' t = W t ∧ (W t = false → fr'.getD t .any = fr.getD t .any)) : maskFr W' fr' = maskFr W fr := by
  apply List.ext_getElem?
  intro t
  rw [maskFr_get, maskFr_get]
  rcases Nat.lt_or_ge t fr.length with hlt | hge
  · obtain ⟨h1, h2⟩ := h t hlt
    rw [h1]
    simp only [List.getD_eq_getElem?_getD] at h2
    rw [List.getElem?_eq_getElem hlt, List.getElem?_eq_getElem (by omega)] at h2 ⊢
    cases hW : W t with
    | true => simp
    | false => simpa [hW] using h2 hW
  · rw [List.getElem?_eq_none hge, List.getElem?_eq_none (by omega)]
    rfl
theorem getD_set {fr : List VV} {t : Nat} {v : VV} (h : t < fr.length) (m : Nat) : (fr.set t v).getD m .any = if m = t then v else fr.getD m .any := by
  simp only [List.getD_eq_getElem?_getD, List.getElem?_set]
  by_cases e : t = m
  · subst e; simp [h]
  · rw [if_neg e, if_neg (Ne.symm e)]
section inv
variable (tab : Tab P K) (ops : Array Oper) (D : DPlan)
/-- A reader's value stands, whenever it is read. -/
def Stands (fr : List VV) (H : VH K) (j : Nat) : Prop := ∃ o t, ops[j]? = some o ∧ o.dst = some t ∧ evVal tab ops fr o (maskH (D.U j) H) (Same (maskH (D.U j) H) (fr.getD t .any)) ∧ (fr.getD t .any).av fun n => D.U j n = false
structure DOk : Prop where
  chk : Chk ops
  A : D.A = ancs ops
  eff : D.eff = idxs ops isEffB
  al : D.al = idxs ops isAllocB
  rd : D.rd = idxs ops isRdB
theorem bindAll_ex {tab : Tab P K} {ops : Array Oper} {D : DPlan} (hD : DOk ops D) {H : VH K} {c : List VV → Prop} : ∀ (js : List Nat) (fr : List VV), js.Pairwise (· < ·) → (∀ j ∈ js, ∃ o t, ops[j]? = some o ∧ isRdB o = true ∧ o.dst = some t ∧ t < fr.length) → bindAll tab ops D H js fr c →
    ∃ fr', c fr' ∧ fr'.length = fr.length ∧ (∀ t, (∀ j ∈ js, ∀ o, ops[j]? = some o → o.dst ≠ some t) → fr'.getD t .any = fr.getD t .any) ∧ ∀ j ∈ js, Stands tab ops D fr' H j
  | [], fr, _, _, h => ⟨fr, h, rfl, fun _ _ => rfl, fun j hj => by cases hj⟩
  | j :: js, fr, hp, hj, h => by
    obtain ⟨o, t, ho, hr, hd, ht⟩ := hj j (by simp)
    simp only [bindAll, ho] at h
    have hrd : isReader o.op = true := by simp only [isRdB, Bool.and_eq_true] at hr; exact hr.1
    obtain ⟨v, hk, hs⟩ := reads_val tab hrd _ h
    obtain ⟨hav, hb⟩ := guardP_iff.1 hk
    have hb := bindB_at hb
    simp only [hd, putF] at hb
    obtain ⟨hlt, hpw⟩ := List.pairwise_cons.1 hp
    obtain ⟨fr', hc, hl, hkeep, hst⟩ := bindAll_ex hD js (fr.set t v) hpw (fun k hk => by
      obtain ⟨o', t', h1, h2, h3, h4⟩ := hj k (by simp [hk])
      exact ⟨o', t', h1, h2, h3, by simpa using h4⟩) hb
    have hsoft : softB o = true := by simp [softB, hr]
    have nodst : ∀ k ∈ js, ∀ o', ops[k]? = some o' → o'.dst ≠ some t := fun k hk o' hk' e => by
      have := hD.chk.uniq j o ho hsoft k o' hk' (by have := hlt k hk; omega)
      exact this (e.trans hd.symm)
    have hslot : fr'.getD t .any = v := by rw [hkeep t nodst, getD_set ht, if_pos rfl]
    have huse : ∀ t' ∈ uses ops o, fr'.getD t' .any = fr.getD t' .any := fun t' ht' => by
      have hne : t' ≠ t := fun e => by
        subst e
        have := hD.chk.use j o ho t' ht' j o ho hsoft hd
        have := anc_lt hD.chk j o ho j this
        omega
      rw [hkeep t' (fun k hk o' hk' e => ?_), getD_set ht, if_neg hne]
      obtain ⟨o'', t'', h1, h2, h3, h4⟩ := hj k (by simp [hk])
      rw [h1] at hk'; injection hk' with hk'; subst hk'
      have := hD.chk.use j o ho t' ht' k o'' h1 (by simp [softB, h2]) e
      have h5 := anc_lt hD.chk j o ho k this
      have := hlt k hk
      omega
    refine ⟨fr', hc, by simpa using hl, fun t' h' => ?_, fun k hk => ?_⟩
    · rw [hkeep t' (fun k hk => h' k (by simp [hk])), getD_set ht, if_neg (fun e => h' j (by simp) o ho (by rw [hd, e]))]
    · rcases List.mem_cons.1 hk with rfl | hk
      · refine ⟨o, t, ho, hd, ?_, ?_⟩
        · rw [hslot, evVal_uses tab huse]; exact hs
        · rw [hslot]; exact VV.av_mono (fun n hn => by simpa using hn) (VV.nmAll_av hav)
      · exact hst k hk
/-- What is still to be shown behind what has been done. -/
def Rest (κ : List VV → VH K → Prop) (es done : List Nat) (fr : List VV) (H : VH K) : Prop :=
  match es with
  | [] => κ fr H
  | e :: es' => match ops[e]? with
    | some o => evVal tab ops fr o (maskH (D.U e) H) fun v Hm => guardP ((v.nmAll fun n => !D.U e n) && Hm.all (Atom.nmAll fun n => !D.U e n))
        (stageD tab ops D κ es' (some done) (done ++ [e]) (putF fr o.dst v) (restore (fun n => D.U e n && Nat.blt n H.length) H Hm))
    | none => False
theorem recheck_get {tab : Tab P K} {ops : Array Oper} {D : DPlan} {H : VH K} {fr : List VV} : ∀ {js : List Nat}, recheck tab ops D H fr js → ∀ j ∈ js, ∃ o, ops[j]? = some o ∧ evVal tab ops fr o (maskH (D.U j) H) fun v _ => v = (match o.dst with | some t => fr.getD t .any | none => .any)
  | [], _, j, hj => by cases hj
  | k :: js, h, j, hj => by
    rcases List.mem_cons.1 hj with rfl | hj
    · have h1 := h.1
      split at h1
      · rename_i o ho; exact ⟨o, ho, h1⟩
      · exact h1.elim
    · exact recheck_get h.2 j hj
theorem enter_stage {tab : Tab P K} {ops : Array Oper} {D : DPlan} (hD : DOk ops D) {κ : List VV → VH K → Prop} {es : List Nat} {prev : Option (List Nat)} {done : List Nat} {fr : List VV} {H : VH K} (hslots : slotsB ops fr.length = true)
    (h : stageD tab ops D κ es prev done fr H) {l : Nat → Bool} (hnew : ∀ j ∈ D.fresh prev done, l j = false) (hdone : ∀ e ∈ done, ∀ j, hasB D.A e j = true → l j = true)
    (hold : ∀ j ∈ D.rd, l j = false → D.boundO prev j = true → ∃ o t, ops[j]? = some o ∧ o.dst = some t ∧ (memB o = false → evVal tab ops fr o (maskH (D.U j) H) (Same (maskH (D.U j) H) (fr.getD t .any))) ∧ (fr.getD t .any).av fun n => D.U j n = false) :
    ∃ fr', fr'.length = fr.length ∧ maskFr (Wl ops l) fr' = maskFr (Wl ops l) fr ∧ (∀ q ∈ D.al, ∀ o, ops[q]? = some o → ∀ t, o.dst = some t → fr'.getD t .any = fr.getD t .any) ∧
      (∀ j ∈ D.rd, l j = false → D.bound done j = true → Stands tab ops D fr' H j) ∧ Rest tab ops D κ es done fr' H := by
  have fresh_rd : ∀ j ∈ D.fresh prev done, j ∈ D.rd ∧ D.bound done j = true ∧ D.boundO prev j = false := fun j hj => by
    obtain ⟨h1, h2⟩ := List.mem_filter.1 hj
    simp only [Bool.and_eq_true, Bool.not_eq_true'] at h2
    exact ⟨h1, h2.1, h2.2⟩
  have rd_op : ∀ j ∈ D.rd, ∃ o t, ops[j]? = some o ∧ isRdB o = true ∧ o.dst = some t ∧ t < fr.length := fun j hj => by
    rw [hD.rd] at hj
    obtain ⟨o, ho, hr⟩ := mem_idxs.1 hj
    have hr' := hr
    simp only [isRdB, Bool.and_eq_true] at hr'
    obtain ⟨t, ht⟩ := Option.isSome_iff_exists.1 hr'.2
    have := opB_get (allB_get hslots (lt_of_op ho)) ho
    simp only [ht] at this
    exact ⟨o, t, ho, hr, ht, by simpa using this⟩
  have sorted : (D.fresh prev done).Pairwise (· < ·) := by
    unfold DPlan.fresh
    rw [hD.rd]
    exact (List.pairwise_lt_range.filter _).filter _
  have hb : ∃ c, bindAll tab ops D H (D.fresh prev done) fr c ∧ ∀ fr', c fr' → recheck tab ops D H fr' (D.again ops prev done) ∧ Rest tab ops D κ es done fr' H := by
    cases es with
    | nil => exact ⟨_, h, fun fr' h => h⟩
    | cons e es => exact ⟨_, h, fun fr' h => h⟩
  obtain ⟨c, hb, hcr⟩ := hb
  obtain ⟨fr', hc, hl, hkeep, hst⟩ := bindAll_ex hD _ fr sorted (fun j hj => rd_op j (fresh_rd j hj).1) hb
  obtain ⟨hre, hrest⟩ := hcr fr' hc
  have soft_rd : ∀ {o}, isRdB o = true → softB o = true := fun h => by simp [softB, h]
  refine ⟨fr', hl, maskFr_ext hl fun t ht => ⟨rfl, fun hW => hkeep t fun j hj o ho e => ?_⟩, fun q hq o ho t ht => hkeep t fun j hj o' ho' e => ?_, fun j hj hlj hbj => ?_, hrest⟩
  · obtain ⟨o', t', h1, h2, h3, h4⟩ := rd_op j (fresh_rd j hj).1
    rw [h1] at ho; injection ho with ho; subst ho
    rw [Wl_true h1 (soft_rd h2) e (hnew j hj)] at hW; cases hW
  · obtain ⟨o'', t', h1, h2, h3, h4⟩ := rd_op j (fresh_rd j hj).1
    rw [h1] at ho'; injection ho' with ho'; subst ho'
    rw [hD.al] at hq
    obtain ⟨oq, hoq, hqa⟩ := mem_idxs.1 hq
    rw [ho] at hoq; injection hoq with hoq; subst hoq
    have hne : j ≠ q := fun e' => by
      subst e'
      rw [ho] at h1; injection h1 with h1; subst h1
      simp only [isRdB, Bool.and_eq_true] at h2
      unfold isAllocB at hqa
      split at hqa
      · rename_i hop _ _; rw [hop] at h2; cases h2.1
      · cases hqa
    exact hD.chk.uniq q o ho (by simp [softB, hqa]) j o'' h1 hne (e.trans ht.symm)
  · cases hbp : D.boundO prev j with
    | false => exact hst j (List.mem_filter.2 ⟨hj, by simp [hbj, hbp]⟩)
    | true =>
      obtain ⟨o, t, ho, hd, hpure, hav⟩ := hold j hj hlj hbp
      obtain ⟨o', t', h1, h2, h3, h4⟩ := rd_op j hj
      rw [h1] at ho; injection ho with ho; subst ho
      have notfresh : ∀ k ∈ D.fresh prev done, k ≠ j := fun k hk e => by
        subst e; rw [(fresh_rd k hk).2.2] at hbp; cases hbp
      have hslot : fr'.getD t .any = fr.getD t .any := hkeep t fun k hk o'' hk' e =>
        hD.chk.uniq j o' h1 (soft_rd h2) k o'' hk' (notfresh k hk) (e.trans hd.symm)
      refine ⟨o', t, h1, hd, ?_, by rw [hslot]; exact hav⟩
      cases hm : memB o' with
      | false =>
        have huse : ∀ t' ∈ uses ops o', fr'.getD t' .any = fr.getD t' .any := fun t' ht' => hkeep t' fun k hk o'' hk' e => by
          obtain ⟨ok, tk, g1, g2, g3, g4⟩ := rd_op k (fresh_rd k hk).1
          rw [g1] at hk'; injection hk' with hk'; subst hk'
          have hjk := hD.chk.use j o' h1 t' ht' k ok g1 (soft_rd g2) e
          -- what j waits for, k waits for: so k was bound
          have hkb : D.boundO prev k = true := by
            cases prev with
            | none => cases hbp
            | some p =>
              simp only [DPlan.boundO, DPlan.bound, List.all_eq_true, Bool.or_eq_true, Bool.not_eq_true'] at hbp ⊢
              intro e' he'
              rcases hbp e' he' with h0 | h0
              · left
                cases hke : hasB D.A k e' with
                | false => rfl
                | true =>
                  rw [hD.A] at hke h0
                  rw [anc_trans hD.chk j o' h1 k e' hjk hke] at h0; cases h0
              · exact .inr h0
          rw [(fresh_rd k hk).2.2] at hkb; cases hkb
        rw [hslot, evVal_uses tab huse]
        exact hpure hm
      | true =>
        have hin : j ∈ D.again ops prev done := by
          refine List.mem_filter.2 ⟨hj, ?_⟩
          have hnot : (done.any fun e => hasB D.A e j) = false := by
            cases hh : done.any fun e => hasB D.A e j with
            | false => rfl
            | true =>
              obtain ⟨e, he, hej⟩ := List.any_eq_true.1 hh
              rw [hdone e he j hej] at hlj; cases hlj
          simp [hbp, opB, h1, hm, hnot]
        obtain ⟨o'', ho'', hev⟩ := recheck_get hre j hin
        rw [h1] at ho''; injection ho'' with ho''; subst ho''
        have hrd : isReader o'.op = true := by simp only [isRdB, Bool.and_eq_true] at h2; exact h2.1
        obtain ⟨v, hv, hs⟩ := reads_val tab hrd _ hev
        rw [hd] at hv
        have hv' : v = fr'.getD t .any := hv
        rw [← hv']
        exact hs
end inv
end Go.Proofs.YtndlpbheifalhaaGreatDoor.E
