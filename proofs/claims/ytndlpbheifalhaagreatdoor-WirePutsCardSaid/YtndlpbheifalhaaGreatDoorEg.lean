/- Regions that draw their order, last part: the operations that act, one behind the other; the region as a whole. -/
import Derived.Test.YtndlpbheifalhaaGreatDoorEf
namespace Go.Proofs.YtndlpbheifalhaaGreatDoor.E
set_option linter.unusedVariables false
set_option linter.unusedSimpArgs false
variable {K : Kinds} {P : Program} {S : Nat → Prop} {w0 w : World} {r : Nat → Ref} {H : VH K}
theorem chainB_head {A : List Nat} : ∀ {done es : List Nat} {e0 : Nat}, chainB A (done ++ e0 :: es) = true → ∀ e ∈ es, hasB A e e0 = true
  | [], es, e0, h, e, he => by
    simp only [List.nil_append, chainB, Bool.and_eq_true] at h
    exact List.all_eq_true.1 h.1 e he
  | d :: done, es, e0, h, e, he => by
    simp only [List.cons_append, chainB, Bool.and_eq_true] at h
    exact chainB_head h.2 e he
section step
variable {tab : Tab P K} {ops : Array Oper} {D : DPlan} {κ : List VV → VH K → Prop} {r0 : Nat → Ref} {N0 : Nat} {l l' : Nat → Bool} {es done : List Nat} {fr : List VV} {a : Act}
/-- An operation that acts runs. -/
theorem step_effect (hK : K.Ok) (hD : DOk ops D) (hch : chainB D.A D.eff = true) (hI : DInv tab ops D κ S w0 r0 N0 l es done r fr H a w) {i : Nat} {o : Oper} (ho : ops[i]? = some o) (hr : ∀ p ∈ direct o, l p = true) (hli : l i = false) (hl' : ∀ k, l' k = (decide (k = i) || l k)) (hk : isEffB o = true)
    {next : Act → World → Prop} {Q : Exit → Act → World → Prop} (hn : ∀ es' done' r' fr' H' a' w', DInv tab ops D κ S w0 r0 N0 l' es' done' r' fr' H' a' w' → next a' w') :
    if Region.wanted o (yielded ops a.tmps) then o.wp P a w next Q ∨ (o.asks P a w ∧ LetsOut Q) else next (a.put o.dst undef) w := by
  have hie : i ∈ D.eff := by rw [hD.eff]; exact mem_idxs.2 ⟨o, ho, hk⟩
  have hies : i ∈ es := by
    rw [hI.split] at hie
    rcases List.mem_append.1 hie with h | h
    · rw [hI.hd i h] at hli; cases hli
    · exact h
  obtain ⟨es', rfl⟩ : ∃ es', es = i :: es' := by
    cases es with
    | nil => cases hies
    | cons e0 es' =>
      rcases List.mem_cons.1 hies with rfl | h
      · exact ⟨es', rfl⟩
      · have := chainB_head (by rw [← hI.split]; exact hch) i h
        rw [hD.A] at this
        have h1 := closed_anc hI.closed i o ho hr e0 this
        rw [hI.he e0 (by simp)] at h1; cases h1
  have hns : softB o = false := by
    simp only [isEffB, Bool.and_eq_true, Bool.not_eq_true'] at hk
    simp [softB, hk.1, hk.2]
  have hrest := hI.rest
  simp only [Rest, ho] at hrest
  have hsub := U_sub hD hI.closed ho hr
  have hWu := W_uses hD hI.closed ho hr
  rw [← maskH_sub hsub, evVal_uses tab (fr' := maskFr (Wl ops l) fr) (fun t ht => by rw [maskFr_getD, hWu t ht]; simp)] at hrest
  have hlenm : (maskH (D.U i) (maskH (Ul D l) H)).length = H.length := by rw [maskH_len, maskH_len]
  refine evVal_sound hK tab (hI.heap.mask (D.U i)) (by rw [hlenm]; exact hI.frame) hrest fun v' w' ha => ?_
  obtain ⟨r', vv, Hm, hkk, hv, hvl, hle, hrr, hh⟩ := After.unmask hI.heap ha
  obtain ⟨hg, hstage⟩ := guardP_iff.1 hkk
  simp only [Bool.and_eq_true] at hg
  obtain ⟨hgv, hgH⟩ := hg
  rw [maskH_len] at hle hrr
  -- nothing that is told anew
  have hWeq : Wl ops l' = Wl ops l := by
    funext t
    rw [Bool.eq_iff_iff]
    constructor
    · intro h
      obtain ⟨k, ok, hk', hs', hd', hlk⟩ := Wl_of h
      rw [hl'] at hlk
      simp only [Bool.or_eq_false_iff, decide_eq_false_iff_not] at hlk
      exact Wl_true hk' hs' hd' hlk.2
    · intro h
      obtain ⟨k, ok, hk', hs', hd', hlk⟩ := Wl_of h
      refine Wl_true hk' hs' hd' ?_
      rw [hl']
      have : k ≠ i := fun e => by
        subst e
        rw [ho] at hk'; injection hk' with hk'; subst hk'
        rw [hns] at hs'; cases hs'
      simp [this, hlk]
  have notal : ∀ q ∈ D.al, q ≠ i := fun q hq e => by
    subst e
    rw [hD.al] at hq
    obtain ⟨oq, hoq, hqq⟩ := mem_idxs.1 hq
    rw [ho] at hoq; injection hoq with hoq; subst hoq
    simp [softB, hqq] at hns
  have notrd : ∀ j ∈ D.rd, j ≠ i := fun q hq e => by
    subst e
    rw [hD.rd] at hq
    obtain ⟨oq, hoq, hqq⟩ := mem_idxs.1 hq
    rw [ho] at hoq; injection hoq with hoq; subst hoq
    simp [softB, hqq] at hns
  have hUeq : Ul D l' = Ul D l := by
    funext n
    unfold Ul Uof
    split
    · rename_i q hq
      simp [hl', notal q (List.mem_of_getElem? hq)]
    · rfl
  have idone : i ∉ done := fun h => by rw [hI.hd i h] at hli; cases hli
  have ipw : D.eff.Pairwise (· < ·) := by rw [hD.eff]; exact List.pairwise_lt_range.filter _
  have ines : i ∉ es' := fun h => by
    rw [hI.split] at ipw
    have := (List.pairwise_append.1 ipw).2.1
    have := (List.pairwise_cons.1 this).1 i h
    omega
  have hdone' : ∀ e ∈ done ++ [i], ∀ j, hasB D.A e j = true → l' j = true := fun e he j hj => by
    rw [hD.A] at hj
    rw [hl']
    simp only [Bool.or_eq_true]
    right
    rcases List.mem_append.1 he with he | he
    · have hel := hI.hd e he
      have hee : e ∈ D.eff := by rw [hI.split]; simp [he]
      rw [hD.eff] at hee
      obtain ⟨oe, hoe, _⟩ := mem_idxs.1 hee
      exact closed_anc hI.closed e oe hoe (fun p hp => hI.closed e oe hoe hel p hp) j hj
    · simp at he; subst he
      exact closed_anc hI.closed e o ho hr j hj
  have hnew : ∀ j ∈ D.fresh (some done) (done ++ [i]), l' j = false := fun j hj => by
    obtain ⟨hjr, h2⟩ := List.mem_filter.1 hj
    simp only [Bool.and_eq_true, Bool.not_eq_true', DPlan.boundO] at h2
    obtain ⟨hb1, hb2⟩ := h2
    have hji : hasB D.A j i = true := by
      unfold DPlan.bound at hb1 hb2
      obtain ⟨e, he, hne⟩ := List.all_eq_false.1 hb2
      simp only [Bool.or_eq_true, Bool.not_eq_true', not_or, Bool.not_eq_false] at hne
      have := List.all_eq_true.1 hb1 e he
      simp only [Bool.or_eq_true, Bool.not_eq_true', List.contains_eq_mem, decide_eq_true_eq, List.mem_append] at this hne
      rcases this with h | h | h
      · rw [h] at hne; cases hne.1
      · exact absurd h hne.2
      · simp at h; subst h; exact hne.1
    cases hh : l' j with
    | false => rfl
    | true =>
      rw [hl'] at hh
      simp only [Bool.or_eq_true, decide_eq_true_eq] at hh
      rcases hh with h | h
      · exact absurd h (notrd j hjr)
      · rw [hD.A] at hji
        rw [hD.rd] at hjr
        obtain ⟨oj, hoj, _⟩ := mem_idxs.1 hjr
        have := closed_anc hI.closed j oj hoj (fun p hp => hI.closed j oj hoj h p hp) i hji
        rw [this] at hli; cases hli
  have hput_len : (putF fr o.dst vv).length = fr.length := by unfold putF; split <;> simp
  have hput : ∀ t, o.dst ≠ some t → (putF fr o.dst vv).getD t .any = fr.getD t .any := fun t ht => by
    unfold putF
    split
    · rename_i d hd
      simp only [List.getD_eq_getElem?_getD, List.getElem?_set]
      rw [if_neg (fun e => ht (by rw [hd, e]))]
    · rfl
  have dst_ne : ∀ k ok, ops[k]? = some ok → softB ok = true → ∀ t, ok.dst = some t → o.dst ≠ some t := fun k ok hk' hs' t ht e => by
    have hne : i ≠ k := fun e' => by
      subst e'
      rw [ho] at hk'; injection hk' with hk'; subst hk'
      rw [hns] at hs'; cases hs'
    exact hD.chk.uniq k ok hk' hs' i o ho hne (e.trans ht.symm)
  obtain ⟨fr2, hl2, hm2, ha2, hst2, hr2⟩ := enter_stage hD (fr := putF fr o.dst vv) (by rw [hput_len]; exact hI.slots) hstage (l := l') hnew hdone' (fun j hj hlj hbj => by
    have hlj' : l j = false := by rw [hl'] at hlj; simp at hlj; exact hlj.2
    obtain ⟨oj, tj, hoj, hdj, hevj, havj⟩ := hI.st j hj hlj' hbj
    have hjr := hj
    rw [hD.rd] at hjr
    obtain ⟨oj', hoj', hrdj⟩ := mem_idxs.1 hjr
    rw [hoj] at hoj'; injection hoj' with hoj'; subst hoj'
    have hsj : softB oj = true := by simp [softB, hrdj]
    have hslot : (putF fr o.dst vv).getD tj .any = fr.getD tj .any := hput tj (dst_ne j oj hoj hsj tj hdj)
    refine ⟨oj, tj, hoj, hdj, fun hm => ?_, by rw [hslot]; exact havj⟩
    rw [hslot, evVal_uses tab (fr' := fr) (fun t ht => hput t fun e => ?_)]
    · exact pure_val tab hrdj hm hevj
    · rcases hD.chk.pure j oj hoj hrdj hm i o ho hk t e ht with h | h
      · have := closed_anc hI.closed i o ho hr j h
        rw [this] at hlj'; cases hlj'
      · simp only [DPlan.boundO, DPlan.bound] at hbj
        have := List.all_eq_true.1 hbj i hie
        rw [hD.A, h] at this
        simp at this
        exact idone this)
  have hWdst : ∀ t, o.dst = some t → Wl ops l t = false := fun t ht => by
    cases hW : Wl ops l t with
    | false => rfl
    | true =>
      obtain ⟨k, ok, hk', hs', hd', _⟩ := Wl_of hW
      exact absurd ht (dst_ne k ok hk' hs' t hd')
  have hfr1 : maskFr (Wl ops l) (putF fr o.dst vv) = putF (maskFr (Wl ops l) fr) o.dst vv := by
    cases hd : o.dst with
    | none => rfl
    | some t =>
      have ht : t < fr.length := by
        have := opB_get (allB_get hI.slots (lt_of_op ho)) ho
        simpa [hd] using this
      exact maskFr_put ht (hWdst t hd) (fun _ _ => rfl) vv
  have hvav : vv.av fun n => Ul D l n = false := VV.av_mono (fun n hn => by
    cases hh : Ul D l n with
    | false => rfl
    | true => rw [hsub n hh] at hn; cases hn) (VV.nmAll_av hgv)
  have hH2 : restore (fun n => D.U i n && Nat.blt n (maskH (Ul D l) H).length) (maskH (Ul D l) H) Hm = maskH (Ul D l) (restore (fun n => D.U i n && Nat.blt n H.length) H Hm) := by
    refine VH_ext (by rw [restore_len, maskH_len, restore_len]) fun n hn => ?_
    rw [restore_len] at hn
    rw [restore_at n hn, maskH_at, maskH_at, restore_at n hn, maskH_len]
    cases hU : D.U i n with
    | true =>
      cases hb : Nat.blt n H.length with
      | true => simp
      | false =>
        simp only [Bool.and_false, Bool.false_eq_true, if_false]
        have : Ul D l n = false := by
          cases hh : Ul D l n with
          | false => rfl
          | true =>
            obtain ⟨idx, q, hq, rfl, _⟩ := Uof_of hh
            have h1 := (List.getElem?_eq_some_iff.1 hq).1
            have := hI.alen
            rw [show Nat.blt (D.N0 + idx) H.length = true by rw [Nat.blt_eq]; omega] at hb; cases hb
        simp [this]
    | false =>
      simp only [Bool.false_and, Bool.false_eq_true, if_false]
      have : Ul D l n = false := by
        cases hh : Ul D l n with
        | false => rfl
        | true => rw [hsub n hh] at hU; cases hU
      simp [this]
  rw [hH2] at hh
  refine hn es' (done ++ [i]) r' fr2 (restore (fun n => D.U i n && Nat.blt n H.length) H Hm) _ _ ⟨by rw [hI.split]; simp, fun e he => ?_, fun e he => ?_, closed_step hI.closed ho hr hl', by rw [hl2, hput_len]; exact hI.slots, by rw [hUeq]; exact hh, ?_, by rw [restore_len]; have := hI.len; omega, fun n hn' => ?_, hI.lenN, by rw [restore_len]; have := hI.alen; omega, hst2, fun idx q hq hlq => ?_, ?_, fun n => ?_, hr2⟩
  · rw [hl']
    rcases List.mem_append.1 he with he | he
    · rw [hI.hd e he]; simp
    · simp at he; simp [he]
  · rw [hl', hI.he e (by simp [he])]
    have : e ≠ i := fun e' => by subst e'; exact ines he
    simp [this]
  · rw [hm2, hWeq, hfr1, restore_len]
    exact hI.frame.put hrr hle hv hvl o.dst
  · rw [hrr n (Nat.lt_of_lt_of_le hn' hI.len)]; exact hI.keep n hn'
  · have hlq' : l q = false := by rw [hl'] at hlq; simp at hlq; exact hlq.2
    obtain ⟨oq, T, cs, t, hoq, hop, hd, hz, hone, hat, hslot⟩ := hI.al idx q hq hlq'
    have hqm : q ∈ D.al := List.mem_of_getElem? hq
    have hqs : softB oq = true := by
      have := hqm
      rw [hD.al] at this
      obtain ⟨oq', hoq', hqq⟩ := mem_idxs.1 this
      rw [hoq] at hoq'; injection hoq' with hoq'; subst hoq'
      simp [softB, hqq]
    have hlt : D.N0 + idx < H.length := by
      have := (List.getElem?_eq_some_iff.1 hq).1
      have := hI.alen
      omega
    refine ⟨oq, T, cs, t, hoq, hop, hd, hz, hone, ?_, ?_⟩
    · rw [restore_at _ (by omega)]
      have hU : D.U i (D.N0 + idx) = true := hsub _ (by rw [Ul, Uof_at hq]; simp [hlq'])
      have hb : Nat.blt (D.N0 + idx) H.length = true := by rw [Nat.blt_eq]; exact hlt
      simp [hU, hb, hat]
    · rw [ha2 q hqm oq hoq t hd, hput t (dst_ne q oq hoq hqs t hd)]; exact hslot
  · rw [hm2, hWeq, hUeq, hfr1]
    intro x hx
    cases hd : o.dst with
    | none => rw [hd] at hx; exact hI.nf x hx
    | some t => rw [hd] at hx; exact mem_set_av hI.nf hvav hx
  · rw [hUeq, maskH_at]
    split
    · trivial
    · rename_i hUn
      rcases Nat.lt_or_ge n Hm.length with hlt | hge
      · rw [restore_at n hlt]
        split
        · have := hI.nh n
          rw [maskH_at, if_neg hUn] at this
          exact this
        · have hmem : at_ Hm n ∈ Hm := by
            simp only [at_, List.getD_eq_getElem?_getD, List.getElem?_eq_getElem hlt, Option.getD_some]; exact List.getElem_mem hlt
          refine Atom.av_mono (fun m hm => ?_) (Atom.nmAll_av (List.all_eq_true.1 hgH _ hmem))
          cases hh' : Ul D l m with
          | false => rfl
          | true => rw [hsub m hh'] at hm; cases hm
      · rw [at_ge (by rw [restore_len]; exact hge)]; trivial
end step
theorem allocAll_ex {ops : Array Oper} {c : List VV → VH K → Prop} : ∀ (qs : List Nat) (fr : List VV) (H : VH K), (∀ q ∈ qs, ∃ o t, ops[q]? = some o ∧ o.dst = some t ∧ t < fr.length) → (∀ q ∈ qs, ∀ q' ∈ qs, q ≠ q' → ∀ o o', ops[q]? = some o → ops[q']? = some o' → o.dst ≠ o'.dst) → qs.Nodup → allocAll P ops qs fr H c →
    ∃ fr1 H1, c fr1 H1 ∧ fr1.length = fr.length ∧ H1.length = H.length + qs.length ∧ (∀ n, n < H.length → at_ H1 n = at_ H n) ∧ (∀ t, (∀ q ∈ qs, ∀ o, ops[q]? = some o → o.dst ≠ some t) → fr1.getD t .any = fr.getD t .any) ∧
      ∀ idx q, qs[idx]? = some q → ∃ o T cs t, ops[q]? = some o ∧ o.op = .alloc T ∧ o.dst = some t ∧ zeroOf P T = some cs ∧ cs.all C.one = true ∧ at_ H1 (H.length + idx) = .cells T cs ∧ fr1.getD t .any = .c (.ptr (H.length + idx) 0 0)
  | [], fr, H, _, _, _, h => ⟨fr, H, h, rfl, rfl, fun _ _ => rfl, fun _ _ => rfl, fun idx q h => by simp at h⟩
  | q :: qs, fr, H, hq, hu, hnd, h => by
    obtain ⟨o, t, ho, hd, ht⟩ := hq q (by simp)
    obtain ⟨hnq, hnd'⟩ := List.nodup_cons.1 hnd
    simp only [allocAll, ho] at h
    split at h
    · rename_i T hop
      split at h
      · rename_i cs hz
        obtain ⟨hone, h⟩ := guardP_iff.1 h
        simp only [hd, putF] at h
        obtain ⟨fr1, H1, hc, hl1, hL1, hkeep, hkf, hw⟩ := allocAll_ex qs (fr.set t (.c (.ptr H.length 0 0))) (H ++ [.cells T cs]) (fun q' hq' => by
          obtain ⟨o', t', h1, h2, h3⟩ := hq q' (by simp [hq'])
          exact ⟨o', t', h1, h2, by simpa using h3⟩) (fun a ha b hb => hu a (by simp [ha]) b (by simp [hb])) hnd' h
        have nod : ∀ q' ∈ qs, ∀ o', ops[q']? = some o' → o'.dst ≠ some t := fun q' hq' o' ho' e => by
          have hne : q' ≠ q := fun e' => hnq (e' ▸ hq')
          exact hu q' (by simp [hq']) q (by simp) hne o' o ho' ho (e.trans hd.symm)
        refine ⟨fr1, H1, hc, by simpa using hl1, by rw [hL1]; simp; omega, fun n hn => ?_, fun t' ht' => ?_, fun idx q' hq' => ?_⟩
        · rw [hkeep n (by simp; omega), at_append_old hn]
        · rw [hkf t' (fun q' hq' => ht' q' (by simp [hq'])), getD_set ht, if_neg (fun e => ht' q (by simp) o ho (by rw [hd, e]))]
        · cases idx with
          | zero =>
            simp at hq'; subst hq'
            refine ⟨o, T, cs, t, ho, hop, hd, hz, hone, ?_, ?_⟩
            · rw [Nat.add_zero, hkeep _ (by simp), at_append_new]
            · rw [hkf t nod, getD_set ht, if_pos rfl]; rfl
          | succ idx =>
            have := hw idx q' (by simpa using hq')
            simpa [Nat.add_assoc, Nat.add_comm 1 idx] using this
      · exact h.elim
    · exact h.elim
theorem HeapOK.goneExt (st : HeapOK S w0 r H w) {H' : VH K} (hl : H.length ≤ H'.length) (h : ∀ n, at_ H' n = at_ H n) : HeapOK S w0 r H' w := by
  have hb : ∀ n, blkOf r H' n = blkOf r H n := fun n => by unfold blkOf; rw [h]
  exact ⟨fun n => by rw [h]; exact st.ok n, fun n => by rw [h]; exact Atom.lt_mono (st.lt n) hl, fun n m b hne h1 h2 => st.inj n m b hne (by rw [← hb]; exact h1) (by rw [← hb]; exact h2), fun n b h1 => st.own n b (by rw [← hb]; exact h1), fun n m b h1 h2 => st.ro n m b (by unfold rbOf at h1 ⊢; rw [← h]; exact h1) (by rw [← hb]; exact h2), st.out⟩
theorem kind_cases (o : Oper) : isAllocB o = true ∨ isRdB o = true ∨ isEffB o = true := by
  unfold isEffB
  cases isAllocB o <;> cases isRdB o <;> simp
/-- A region that draws its order comes to what its evaluation says. -/
theorem evDraw_sound (hK : K.Ok) (tab : Tab P K) (hm : P.follows .mixedOrders = true) {id : Nat} {ops : Array Oper} {r0 : Nat → Ref} {N0 : Nat} {fr : List VV} {a : Act} (st : StOK S w0 r0 N0 r fr H a w) {κ : List VV → VH K → Prop} (h : evDraw tab ops fr H κ)
    {Q : Exit → Act → World → Prop} (hq : ∀ r fr H a w, κ fr H → StOK S w0 r0 N0 r fr H a w → Q .normal a w) : (Code.region id ops true).wp P Q a w := by
  obtain ⟨hg, h⟩ := guardP_iff.1 h
  simp only [Bool.and_eq_true] at hg
  obtain ⟨hchk, hchain, hslots⟩ := hg
  have hC := chk_of hchk
  have hD : DOk ops (planOf ops H.length) := ⟨hC, rfl, rfl, rfl, rfl⟩
  have alp : (idxs ops isAllocB).Pairwise (· < ·) := List.pairwise_lt_range.filter _
  have aln : (idxs ops isAllocB).Nodup := alp.imp (fun h => Nat.ne_of_lt h)
  have aldst : ∀ q ∈ idxs ops isAllocB, ∃ o t, ops[q]? = some o ∧ isAllocB o = true ∧ o.dst = some t ∧ t < fr.length := fun q hq => by
    obtain ⟨o, ho, hk⟩ := mem_idxs.1 hq
    have hds : ∃ t, o.dst = some t := by
      unfold isAllocB at hk; split at hk
      · rename_i t _ _ hd; exact ⟨_, hd⟩
      · cases hk
    obtain ⟨t, ht⟩ := hds
    have := opB_get (allB_get hslots (lt_of_op ho)) ho
    simp only [ht] at this
    exact ⟨o, t, ho, hk, ht, by simpa using this⟩
  obtain ⟨fr1, H1, hst, hl1, hL1, hk1, hf1, hw1⟩ := allocAll_ex (idxs ops isAllocB) fr H (fun q hq => by
    obtain ⟨o, t, h1, _, h2, h3⟩ := aldst q hq; exact ⟨o, t, h1, h2, h3⟩) (fun q hq q' hq' hne o o' ho ho' => by
    obtain ⟨_, _, h1, hk, _⟩ := aldst q' hq'
    rw [ho'] at h1; injection h1 with h1; subst h1
    exact hC.uniq q' o' ho' (by simp [softB, hk]) q o ho hne) aln h
  let l0 : Nat → Bool := fun _ => false
  obtain ⟨fr2, hl2, hm2, ha2, hst2, hr2⟩ := enter_stage hD (by rw [hl1]; exact hslots) hst (l := l0) (fun _ _ => rfl) (fun e he => by cases he) (fun j hj _ hb => by cases hb)
  have hU0 : ∀ n, Ul (planOf ops H.length) l0 n = true ↔ H.length ≤ n ∧ n < H1.length := fun n => by
    constructor
    · intro hn
      obtain ⟨idx, q, hq, rfl, _⟩ := Uof_of hn
      have := (List.getElem?_eq_some_iff.1 hq).1
      have h2 : (planOf ops H.length).al = idxs ops isAllocB := rfl
      rw [h2] at this
      have h3 : (planOf ops H.length).N0 = H.length := rfl
      rw [h3]; omega
    · rintro ⟨h1, h2⟩
      have hlt : n - H.length < (idxs ops isAllocB).length := by omega
      have := Uof_mk (N0 := H.length) (p := fun q => !l0 q) (List.getElem?_eq_getElem hlt) rfl
      rw [show H.length + (n - H.length) = n by omega] at this
      exact this
  have hmask : ∀ n, at_ (maskH (Ul (planOf ops H.length) l0) H1) n = at_ H n := fun n => by
    rw [maskH_at]
    rcases Nat.lt_or_ge n H.length with h' | h'
    · rw [if_neg (fun e => by have := (hU0 n).1 e; omega), hk1 n h']
    · rw [at_ge h']
      split
      · rfl
      · rename_i hne
        exact at_ge (Nat.not_lt.1 fun hlt => hne ((hU0 n).2 ⟨h', hlt⟩))
  have hfrm : ∀ t, ((maskFr (Wl ops l0) fr2).getD t .any) = .any ∨ ((maskFr (Wl ops l0) fr2).getD t .any) = fr.getD t .any := fun t => by
    rw [hm2, maskFr_getD]
    cases hW : Wl ops l0 t with
    | true => exact .inl rfl
    | false =>
      right
      simp only [Bool.false_eq_true, if_false]
      refine hf1 t fun q hq o ho e => ?_
      obtain ⟨o', _, h1, hk, _⟩ := aldst q hq
      rw [ho] at h1; injection h1 with h1; subst h1
      rw [Wl_true ho (by simp [softB, hk]) e rfl] at hW; cases hW
  have hmem : ∀ x ∈ maskFr (Wl ops l0) fr2, x = .any ∨ x ∈ fr ∨ x = .any := fun x hx => by
    obtain ⟨t, ht, hxt⟩ := List.mem_iff_getElem.1 hx
    have := hfrm t
    rw [List.getD_eq_getElem?_getD, List.getElem?_eq_getElem ht, Option.getD_some, hxt] at this
    rcases this with h | h
    · exact .inl h
    · rw [List.getD_eq_getElem?_getD] at h
      rcases Nat.lt_or_ge t fr.length with h' | h'
      · rw [List.getElem?_eq_getElem h'] at h
        exact .inr (.inl (h ▸ List.getElem_mem h'))
      · rw [List.getElem?_eq_none h'] at h; exact .inl h
  have hlen2 : (maskFr (Wl ops l0) fr2).length = fr.length := by rw [maskFr_len, hl2, hl1]
  have hinit : DInv tab ops (planOf ops H.length) κ S w0 r0 N0 l0 (idxs ops isEffB) [] r fr2 H1 a { w with drawn := w.drawn + 1 } := by
    refine ⟨rfl, fun e he => (by cases he), fun _ _ => rfl, fun _ _ _ h => (by cases h), (by rw [hl2, hl1]; exact hslots), (st.heap.drew).goneExt (by rw [maskH_len, hL1]; omega) hmask, ⟨?_, fun x hx => ?_, st.frame.defers⟩, by rw [hL1]; have := st.len; omega, st.keep, st.len, by show H.length + (idxs ops isAllocB).length ≤ _; omega, fun j hj hlj hb => hst2 j hj hlj hb, fun idx q hq _ => ?_, fun x hx => ?_, fun n => ?_, hr2⟩
    · have hla := st.frame.is.length
      refine Are.of_get (by rw [hlen2]; exact hla) fun t ht => ?_
      rcases hfrm t with h | h
      · rw [h]; trivial
      · rw [h]; exact st.frame.is.get t
    · rcases hmem x hx with rfl | h | rfl
      · trivial
      · exact VV.lt_mono (st.frame.lt x h) (by omega)
      · trivial
    · obtain ⟨o, T, cs, t, h1, h2, h3, h4, h5, h6, h7⟩ := hw1 idx q hq
      exact ⟨o, T, cs, t, h1, h2, h3, h4, h5, h6, by rw [ha2 q (List.mem_of_getElem? hq) o h1 t h3]; exact h7⟩
    · have hlt : ∀ n, n < H.length → Ul (planOf ops H.length) l0 n = false := fun n hn => by
        cases hh : Ul (planOf ops H.length) l0 n with
        | false => rfl
        | true => have := (hU0 n).1 hh; omega
      rcases hmem x hx with rfl | h | rfl
      · trivial
      · have := st.frame.lt x h
        cases x with
        | any => trivial
        | one x =>
          cases x with
          | c x => exact fun n hn => hlt n (this n hn)
          | agg l => exact fun c hc n hn => hlt n (this c hc n hn)
        | tup l =>
          intro c hc
          have := this c hc
          cases c with
          | c x => exact fun n hn => hlt n (this n hn)
          | agg l => exact fun c hc n hn => hlt n (this c hc n hn)
      · trivial
    · rw [hmask]
      have hlt : ∀ n, n < H.length → Ul (planOf ops H.length) l0 n = false := fun n hn => by
        cases hh : Ul (planOf ops H.length) l0 n with
        | false => rfl
        | true => have := (hU0 n).1 hh; omega
      have := st.heap.lt n
      cases hh : at_ H n with
      | cells T cs => rw [hh] at this; exact fun c hc m hm => hlt m ((this c hc).1 m hm)
      | _ => trivial
  refine region_inv (n := ops.size) (fun la a w => ∃ es done r fr H', DInv tab ops (planOf ops H.length) κ S w0 r0 N0 (fun i => la.getD i false) es done r fr H' a w) hm rfl ⟨idxs ops isEffB, [], r, fr2, H1, ?_⟩ ?_ ?_
  · have : (fun i => (Array.replicate ops.size false).getD i false) = l0 := by
      funext i
      rw [Array.getD_eq_getD_getElem?, Array.getElem?_replicate]
      split <;> rfl
    rw [this]; exact hinit
  · rintro la a w i hsz ⟨es, done, r, fr, H', hI⟩ hi
    obtain ⟨h0, o, ho, hall⟩ := mem_ready.1 hi
    have hi' := lt_of_op ho
    have hli : la.getD i false = false := by
      rw [Array.getD_eq_getD_getElem?, Array.getElem?_eq_getElem (by omega)] at h0 ⊢
      simpa using h0
    have hdir : ∀ p ∈ direct o, (fun i => la.getD i false) p = true := fun p hp => by
      obtain ⟨e, he, rfl⟩ := List.mem_map.1 hp
      obtain ⟨he1, he2⟩ := List.mem_filter.1 he
      exact hall e (by simpa using he1) he2
    have hl' : ∀ k, (la.setIfInBounds i true).getD k false = (decide (k = i) || la.getD k false) := fun k => by
      rw [Array.getD_eq_getD_getElem?, Array.getD_eq_getD_getElem?, Array.getElem?_setIfInBounds]
      by_cases e : i = k
      · subst e; simp [show i < la.size by omega]
      · rw [if_neg e]; simp [Ne.symm e]
    unfold wpOp
    simp only [ho]
    rcases kind_cases o with hk | hk | hk
    · exact step_alloc hD hI ho hdir hli hl' hk alp (fun r' a' w' hI' => ⟨_, _, _, _, _, hI'⟩)
    · exact step_reader hK hD hI ho hdir hli hl' hk (fun r' a' w' hI' => ⟨_, _, _, _, _, hI'⟩)
    · exact step_effect hK hD hchain hI ho hdir hli hl' hk (fun es' done' r' fr' H'' a' w' hI' => ⟨_, _, _, _, _, hI'⟩)
  · rintro la a w hsz ⟨es, done, r, fr, H', hI⟩ hready
    have all : ∀ i, i < ops.size → la.getD i false = true := by
      intro i
      induction i using Nat.strongRecOn with
      | _ i ih =>
        intro hi
        cases hl : la.getD i false with
        | true => rfl
        | false =>
          have ho : ops[i]? = some ops[i] := by simp [hi]
          have : i ∈ Region.ready .any ops la := mem_ready.2 ⟨by
            rw [Array.getD_eq_getD_getElem?, Array.getElem?_eq_getElem (by omega)] at hl ⊢
            simpa using hl, ops[i], ho, fun e he hb => ih e.on (hC.lt i ops[i] ho e.on (List.mem_map.2 ⟨e, List.mem_filter.2 ⟨by simpa using he, hb⟩, rfl⟩)) (by
              have := hC.lt i ops[i] ho e.on (List.mem_map.2 ⟨e, List.mem_filter.2 ⟨by simpa using he, hb⟩, rfl⟩)
              omega)⟩
          rw [hready] at this; cases this
    have hes : es = [] := by
      cases es with
      | nil => rfl
      | cons e es =>
        have hee : e ∈ (planOf ops H.length).eff := by rw [hI.split]; simp
        obtain ⟨oe, hoe, _⟩ := mem_idxs.1 (show e ∈ idxs ops isEffB from hee)
        have := hI.he e (by simp)
        rw [all e (lt_of_op hoe)] at this; cases this
    subst hes
    have hU : ∀ n, Ul (planOf ops H.length) (fun i => la.getD i false) n = false := fun n => by
      cases hh : Ul (planOf ops H.length) (fun i => la.getD i false) n with
      | false => rfl
      | true =>
        obtain ⟨idx, q, hq, _, hp⟩ := Uof_of hh
        obtain ⟨oq, hoq, _⟩ := mem_idxs.1 (show q ∈ idxs ops isAllocB from List.mem_of_getElem? hq)
        simp only [all q (lt_of_op hoq)] at hp
        cases hp
    have hW : ∀ t, Wl ops (fun i => la.getD i false) t = false := fun t => by
      cases hh : Wl ops (fun i => la.getD i false) t with
      | false => rfl
      | true =>
        obtain ⟨k, o, hk, _, _, hl⟩ := Wl_of hh
        have := all k (lt_of_op hk)
        simp only [this] at hl; cases hl
    have e1 : maskH (Ul (planOf ops H.length) (fun i => la.getD i false)) H' = H' := VH_ext maskH_len fun n hn => by rw [maskH_at, hU n]; simp
    have e2 : maskFr (Wl ops (fun i => la.getD i false)) fr = fr := by
      apply List.ext_getElem?
      intro t
      rw [maskFr_get, hW t]
      cases fr[t]? <;> simp
    have hheap := hI.heap
    have hframe := hI.frame
    rw [e1] at hheap
    rw [e2] at hframe
    exact hq _ _ _ _ _ hI.rest ⟨hheap, hframe, hI.len, hI.keep⟩
end Go.Proofs.YtndlpbheifalhaaGreatDoor.E
