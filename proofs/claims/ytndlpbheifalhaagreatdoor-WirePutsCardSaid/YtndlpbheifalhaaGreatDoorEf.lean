/- Regions that draw their order, fifth part: every operation keeps the invariant; the region. -/
import Derived.Test.YtndlpbheifalhaaGreatDoorEe
namespace Go.Proofs.YtndlpbheifalhaaGreatDoor.E
set_option linter.unusedVariables false
set_option linter.unusedSimpArgs false
variable {K : Kinds} {P : Program} {S : Nat → Prop} {w0 w : World} {r : Nat → Ref} {H : VH K}
/-- A block that is still to be made, as it will be. -/
def Waits (P : Program) (ops : Array Oper) (D : DPlan) (fr : List VV) (H : VH K) (idx q : Nat) : Prop :=
  ∃ o T cs t, ops[q]? = some o ∧ o.op = .alloc T ∧ o.dst = some t ∧ zeroOf P T = some cs ∧ cs.all C.one = true ∧ at_ H (D.N0 + idx) = .cells T cs ∧ fr.getD t .any = .c (.ptr (D.N0 + idx) 0 0)
structure DInv (tab : Tab P K) (ops : Array Oper) (D : DPlan) (κ : List VV → VH K → Prop) (S : Nat → Prop) (w0 : World) (r0 : Nat → Ref) (N0 : Nat) (l : Nat → Bool) (es done : List Nat) (r : Nat → Ref) (fr : List VV) (H : VH K) (a : Act) (w : World) : Prop where
  split : D.eff = done ++ es
  hd : ∀ e ∈ done, l e = true
  he : ∀ e ∈ es, l e = false
  closed : Closed ops l
  slots : slotsB ops fr.length = true
  heap : HeapOK S w0 r (maskH (Ul D l) H) w
  frame : FrOK r H.length (maskFr (Wl ops l) fr) a
  len : N0 ≤ H.length
  keep : ∀ n, n < N0 → r n = r0 n
  lenN : N0 ≤ D.N0
  alen : D.N0 + D.al.length ≤ H.length
  st : ∀ j ∈ D.rd, l j = false → D.bound done j = true → Stands tab ops D fr H j
  al : ∀ idx q, D.al[idx]? = some q → l q = false → Waits P ops D fr H idx q
  nf : ∀ x ∈ maskFr (Wl ops l) fr, x.av fun n => Ul D l n = false
  nh : ∀ n, (at_ (maskH (Ul D l) H) n).av fun m => Ul D l m = false
  rest : Rest tab ops D κ es done fr H
theorem Uof_of {al : List Nat} {N0 : Nat} {p : Nat → Bool} {n : Nat} (h : Uof al N0 p n = true) : ∃ idx q, al[idx]? = some q ∧ n = N0 + idx ∧ p q = true := by
  unfold Uof at h
  split at h
  · rename_i q hq
    simp only [Bool.and_eq_true, Nat.ble_eq] at h
    exact ⟨n - N0, q, hq, by omega, h.2⟩
  · cases h
theorem Uof_mk {al : List Nat} {N0 : Nat} {p : Nat → Bool} {idx q : Nat} (h : al[idx]? = some q) (hp : p q = true) : Uof al N0 p (N0 + idx) = true := by
  unfold Uof
  simp [h, hp]
theorem Uof_at {al : List Nat} {N0 : Nat} {p : Nat → Bool} {idx q : Nat} (h : al[idx]? = some q) : Uof al N0 p (N0 + idx) = p q := by
  unfold Uof
  simp [h]
section step
variable {tab : Tab P K} {ops : Array Oper} {D : DPlan} {κ : List VV → VH K → Prop} {r0 : Nat → Ref} {N0 : Nat} {l l' : Nat → Bool} {es done : List Nat} {fr : List VV} {a : Act}
/-- Whatever is not made yet isn't seen by one who is ready. -/
theorem U_sub (hD : DOk ops D) (hc : Closed ops l) {i : Nat} {o : Oper} (ho : ops[i]? = some o) (hr : ∀ p ∈ direct o, l p = true) : ∀ n, Ul D l n = true → D.U i n = true := by
  intro n hn
  obtain ⟨idx, q, hq, rfl, hp⟩ := Uof_of hn
  refine Uof_mk hq ?_
  cases hh : hasB D.A i q with
  | false => rfl
  | true =>
    rw [hD.A] at hh
    have := closed_anc hc i o ho hr q hh
    simp [this] at hp
theorem W_uses (hD : DOk ops D) (hc : Closed ops l) {i : Nat} {o : Oper} (ho : ops[i]? = some o) (hr : ∀ p ∈ direct o, l p = true) : ∀ t ∈ uses ops o, Wl ops l t = false := by
  intro t ht
  cases hW : Wl ops l t with
  | false => rfl
  | true =>
    obtain ⟨k, o', hk, hs, hd, hl⟩ := Wl_of hW
    have h1 := hD.chk.use i o ho t ht k o' hk hs hd
    have := closed_anc hc i o ho hr k h1
    rw [this] at hl; cases hl
theorem closed_step (hc : Closed ops l) {i : Nat} {o : Oper} (ho : ops[i]? = some o) (hr : ∀ p ∈ direct o, l p = true) (hl' : ∀ k, l' k = (decide (k = i) || l k)) : Closed ops l' := by
  intro k o' hk hlk p hp
  rw [hl'] at hlk ⊢
  simp only [Bool.or_eq_true, decide_eq_true_eq] at hlk ⊢
  rcases hlk with rfl | hlk
  · rw [ho] at hk; injection hk with hk; subst hk
    exact .inr (hr p hp)
  · exact .inr (hc k o' hk hlk p hp)
theorem bound_mono {done : List Nat} {e j : Nat} (h : D.bound done j = true) : D.bound (done ++ [e]) j = true := by
  unfold DPlan.bound at h ⊢
  rw [List.all_eq_true] at h ⊢
  intro e' he'
  have := h e' he'
  simp only [Bool.or_eq_true, List.contains_eq_mem, decide_eq_true_eq, List.mem_append] at this ⊢
  rcases this with h | h
  · exact .inl h
  · exact .inr (.inl h)
theorem maskFr_put {W W' : Nat → Bool} {fr : List VV} {t : Nat} (ht : t < fr.length) (hW : W' t = false) (h : ∀ m, m ≠ t → W' m = W m) (v : VV) : maskFr W' (fr.set t v) = (maskFr W fr).set t v := by
  apply List.ext_getElem?
  intro m
  rw [maskFr_get, List.getElem?_set, List.getElem?_set, maskFr_get, maskFr_len]
  by_cases e : t = m
  · subst e; simp [ht, hW]
  · rw [if_neg e, if_neg e, h m (Ne.symm e)]
theorem maskFr_put_any {W : Nat → Bool} {fr : List VV} {v : VV} : (∀ (o : Option Tmp), o = none → putF (maskFr W fr) o v = maskFr W (putF fr o v)) := fun o e => by subst e; rfl
theorem mem_set_av {l : List VV} {t : Nat} {v x : VV} {V : Nat → Prop} (h : ∀ x ∈ l, x.av V) (hv : v.av V) (hx : x ∈ l.set t v) : x.av V := by
  rcases List.mem_or_eq_of_mem_set hx with hx | rfl
  · exact h x hx
  · exact hv
/-- A reader runs. -/
theorem step_reader (hK : K.Ok) (hD : DOk ops D) (hI : DInv tab ops D κ S w0 r0 N0 l es done r fr H a w) {i : Nat} {o : Oper} (ho : ops[i]? = some o) (hr : ∀ p ∈ direct o, l p = true) (hli : l i = false) (hl' : ∀ k, l' k = (decide (k = i) || l k)) (hk : isRdB o = true)
    {next : Act → World → Prop} {Q : Exit → Act → World → Prop} (hn : ∀ r' a' w', DInv tab ops D κ S w0 r0 N0 l' es done r' fr H a' w' → next a' w') :
    if Region.wanted o (yielded ops a.tmps) then o.wp P a w next Q ∨ (o.asks P a w ∧ LetsOut Q) else next (a.put o.dst undef) w := by
  have hin : i ∈ D.rd := by rw [hD.rd]; exact mem_idxs.2 ⟨o, ho, hk⟩
  have hbound : D.bound done i = true := by
    unfold DPlan.bound
    rw [List.all_eq_true]
    intro e he
    simp only [Bool.or_eq_true, Bool.not_eq_true']
    cases hh : hasB D.A i e with
    | false => exact .inl rfl
    | true =>
      right
      rw [hD.A] at hh
      have hle := closed_anc hI.closed i o ho hr e hh
      rw [hI.split] at he
      rcases List.mem_append.1 he with he | he
      · simpa using he
      · rw [hI.he e he] at hle; cases hle
  obtain ⟨o', t, ho', hd, hev, hav⟩ := hI.st i hin hli hbound
  rw [ho] at ho'; injection ho' with ho'; subst ho'
  have hsoft : softB o = true := by simp [softB, hk]
  have hsub := U_sub hD hI.closed ho hr
  have hWu := W_uses hD hI.closed ho hr
  rw [← maskH_sub hsub] at hev
  have hev' : evVal tab ops (maskFr (Wl ops l) fr) o (maskH (D.U i) (maskH (Ul D l) H)) (Same (maskH (D.U i) (maskH (Ul D l) H)) (fr.getD t .any)) := by
    rw [evVal_uses tab (fr' := fr) (fun t ht => by rw [maskFr_getD, hWu t ht]; simp)]
    exact hev
  have hlenm : (maskH (D.U i) (maskH (Ul D l) H)).length = H.length := by rw [maskH_len, maskH_len]
  refine evVal_sound hK tab (hI.heap.mask (D.U i)) (by rw [hlenm]; exact hI.frame) hev' fun v' w' ha => hn ?_ _ _ ?_
  · exact (After.unmask hI.heap ha).choose
  · obtain ⟨vv, Hm, ⟨hvv, hHm⟩, hv, hvl, hle, hrr, hh⟩ := (After.unmask hI.heap ha).choose_spec
    generalize (After.unmask hI.heap ha).choose = r' at *
    subst hvv hHm
    rw [restore_mask] at hh
    rw [maskH_len] at hrr
    rw [hlenm] at hvl
    have ht : t < fr.length := by
      have := opB_get (allB_get hI.slots (lt_of_op ho)) ho
      simpa [hd] using this
    have hW't : Wl ops l' t = false := by
      cases hW : Wl ops l' t with
      | false => rfl
      | true =>
        obtain ⟨k, ok, hk', hs', hd', hlk⟩ := Wl_of hW
        by_cases e : k = i
        · subst e; rw [hl'] at hlk; simp at hlk
        · exact absurd (hd'.trans hd.symm) (hD.chk.uniq i o ho hsoft k ok hk' e)
    have hWo : ∀ m, m ≠ t → Wl ops l' m = Wl ops l m := fun m hm => by
      rw [Bool.eq_iff_iff]
      constructor
      · intro h
        obtain ⟨k, ok, hk', hs', hd', hlk⟩ := Wl_of h
        rw [hl'] at hlk
        simp only [Bool.or_eq_false_iff, decide_eq_false_iff_not] at hlk
        exact Wl_true hk' hs' hd' hlk.2
      · intro h
        obtain ⟨k, ok, hk', hs', hd', hlk⟩ := Wl_of h
        refine Wl_true hk' hs' hd' ?_
        rw [hl']
        have : k ≠ i := fun e => by
          subst e
          rw [ho] at hk'; injection hk' with hk'; subst hk'
          exact hm (by rw [hd] at hd'; injection hd' with hd'; exact hd'.symm)
        simp [this, hlk]
    have hUeq : Ul D l' = Ul D l := by
      funext n
      unfold Ul Uof
      split
      · rename_i q hq
        have : q ≠ i := fun e => by
          subst e
          have hqa : q ∈ D.al := List.mem_of_getElem? hq
          rw [hD.al] at hqa
          obtain ⟨oq, hoq, hqq⟩ := mem_idxs.1 hqa
          rw [ho] at hoq; injection hoq with hoq; subst hoq
          simp only [isRdB, Bool.and_eq_true] at hk
          unfold isAllocB at hqq
          split at hqq
          · rename_i hop _ _; rw [hop] at hk; cases hk.1
          · cases hqq
        simp [hl', this]
      · rfl
    have hfr : maskFr (Wl ops l') fr = (maskFr (Wl ops l) fr).set t (fr.getD t .any) := by
      rw [← maskFr_put ht hW't hWo]
      congr 1
      apply List.ext_getElem?
      intro m
      rw [List.getElem?_set]
      by_cases e : t = m
      · subst e; simp [ht]
      · rw [if_neg e]
    refine ⟨hI.split, fun e he => by rw [hl', hI.hd e he]; simp, fun e he => ?_, closed_step hI.closed ho hr hl', hI.slots, by rw [hUeq]; exact hh, ?_, hI.len, fun n hn => ?_, hI.lenN, hI.alen, fun j hj hlj => hI.st j hj (by rw [hl'] at hlj; simp at hlj; exact hlj.2), fun idx q hq hlq => hI.al idx q hq (by rw [hl'] at hlq; simp at hlq; exact hlq.2), ?_, by rw [hUeq]; exact hI.nh, hI.rest⟩
    · rw [hl', hI.he e he]
      have : e ≠ i := fun e' => by
        subst e'
        have hee : e ∈ D.eff := by rw [hI.split]; simp [he]
        rw [hD.eff] at hee
        obtain ⟨oe, hoe, hee⟩ := mem_idxs.1 hee
        rw [ho] at hoe; injection hoe with hoe; subst hoe
        simp [isEffB, hk] at hee
      simp [this]
    · rw [hfr, hd]
      exact hI.frame.put (dst := some t) hrr (Nat.le_refl _) hv hvl
    · rw [hrr n (Nat.lt_of_lt_of_le hn hI.len)]; exact hI.keep n hn
    · rw [hUeq, hfr]
      intro x hx
      refine mem_set_av hI.nf (VV.av_mono (fun n hn => ?_) hav) hx
      cases hh : Ul D l n with
      | false => rfl
      | true => rw [hsub n hh] at hn; cases hn
/-- A block is made. -/
theorem step_alloc (hD : DOk ops D) (hI : DInv tab ops D κ S w0 r0 N0 l es done r fr H a w) {i : Nat} {o : Oper} (ho : ops[i]? = some o) (hr : ∀ p ∈ direct o, l p = true) (hli : l i = false) (hl' : ∀ k, l' k = (decide (k = i) || l k)) (hk : isAllocB o = true)
    (hnd : D.al.Pairwise (· < ·)) {next : Act → World → Prop} {Q : Exit → Act → World → Prop} (hn : ∀ r' a' w', DInv tab ops D κ S w0 r0 N0 l' es done r' fr H a' w' → next a' w') :
    if Region.wanted o (yielded ops a.tmps) then o.wp P a w next Q ∨ (o.asks P a w ∧ LetsOut Q) else next (a.put o.dst undef) w := by
  have hin : i ∈ D.al := by rw [hD.al]; exact mem_idxs.2 ⟨o, ho, hk⟩
  obtain ⟨idx, hidx, hget⟩ := List.mem_iff_getElem.1 hin
  have hidx' : D.al[idx]? = some i := by rw [List.getElem?_eq_getElem hidx, hget]
  obtain ⟨o', T, cs, t, ho', hop, hd, hz, hone, hat, hslot⟩ := hI.al idx i hidx' hli
  rw [ho] at ho'; injection ho' with ho'; subst ho'
  have hg : o.guard = none := by
    unfold isAllocB at hk; split at hk
    · rename_i hgd _; exact hgd
    · cases hk
  have hsoft : softB o = true := by simp [softB, hk]
  have hlt : D.N0 + idx < H.length := by have := hI.alen; omega
  have ht : t < fr.length := by
    have := opB_get (allB_get hI.slots (lt_of_op ho)) ho
    simpa [hd] using this
  obtain ⟨z, hz1, hz2⟩ := Option.map_eq_some_iff.1 hz
  obtain ⟨inf, hi1, hi2⟩ := Option.bind_eq_some_iff.1 hz1
  subst hz2
  simp only [Region.wanted, hg, if_true]
  left
  have hrun : (execOp a.eval o).run P w = .ok (.value (.pointer (some ⟨w.heap.size, 0, none⟩))) (w.alloc (.cells z.cells.toList.toArray T)) := by
    simp [execOp, hop, Instr.alloc, zeroValue, typeInfo, hi1, hi2, newVar, newRow]
  refine wp_value hrun (hn (upd r (D.N0 + idx) ⟨w.heap.size, 0, 0, false, 0⟩) _ _ ?_)
  have hUp : Ul D l (D.N0 + idx) = true := by rw [Ul, Uof_at hidx']; simp [hli]
  have hU'p : Ul D l' (D.N0 + idx) = false := by rw [Ul, Uof_at hidx', hl']; simp
  have hUne : ∀ n, n ≠ D.N0 + idx → Ul D l' n = Ul D l n := fun n hn => by
    unfold Ul Uof
    split
    · rename_i q hq
      by_cases hle : Nat.ble D.N0 n = true
      · have : q ≠ i := fun e => by
          subst e
          obtain ⟨h1, e1⟩ := List.getElem?_eq_some_iff.1 hq
          obtain ⟨h2, e2⟩ := List.getElem?_eq_some_iff.1 hidx'
          have hle' : D.N0 ≤ n := by simpa [Nat.ble_eq] using hle
          rcases Nat.lt_trichotomy (n - D.N0) idx with h | h | h
          · have := List.pairwise_iff_getElem.1 hnd _ _ h1 h2 h; omega
          · omega
          · have := List.pairwise_iff_getElem.1 hnd _ _ h2 h1 h; omega
        simp [hl', this]
      · have hf : Nat.ble D.N0 n = false := Bool.eq_false_iff.2 hle
        simp only [hf, Bool.false_and]
    · rfl
  have hlenm : ∀ U : Nat → Bool, (maskH U H).length = H.length := fun U => maskH_len
  have hplain : ∀ c ∈ z.cells.toList.map ofConstC, c.nm = none ∧ c.one = true := fun c hc => by
    refine ⟨?_, List.all_eq_true.1 hone c hc⟩
    obtain ⟨u, _, rfl⟩ := List.mem_map.1 hc
    exact ofConstC_nm u
  have hheap := hI.heap.place (p := D.N0 + idx) (T := T) (cs := z.cells.toList.map ofConstC) (vs := z.cells.toList) (H' := maskH (Ul D l') H) (by rw [hlenm]; exact hlt) (by rw [maskH_at, hUp]; simp) hplain (ofConstL_rel _) (by rw [hlenm, hlenm])
    (by rw [maskH_at, hU'p]; simpa using hat) (fun n hn => by rw [maskH_at, maskH_at, hUne n hn]) (fun n => Atom.av_mono (fun m hm => fun e => by rw [e, hUp] at hm; cases hm) (hI.nh n))
  have rne : ∀ n, n ≠ D.N0 + idx → upd r (D.N0 + idx) ⟨w.heap.size, 0, 0, false, 0⟩ n = r n := fun n hn => if_neg hn
  have hW't : Wl ops l' t = false := by
    cases hW : Wl ops l' t with
    | false => rfl
    | true =>
      obtain ⟨k, ok, hk', hs', hd', hlk⟩ := Wl_of hW
      by_cases e : k = i
      · subst e; rw [hl'] at hlk; simp at hlk
      · exact absurd (hd'.trans hd.symm) (hD.chk.uniq i o ho hsoft k ok hk' e)
  have hWo : ∀ m, m ≠ t → Wl ops l' m = Wl ops l m := fun m hm => by
    rw [Bool.eq_iff_iff]
    constructor
    · intro h
      obtain ⟨k, ok, hk', hs', hd', hlk⟩ := Wl_of h
      rw [hl'] at hlk
      simp only [Bool.or_eq_false_iff, decide_eq_false_iff_not] at hlk
      exact Wl_true hk' hs' hd' hlk.2
    · intro h
      obtain ⟨k, ok, hk', hs', hd', hlk⟩ := Wl_of h
      refine Wl_true hk' hs' hd' ?_
      rw [hl']
      have : k ≠ i := fun e => by
        subst e
        rw [ho] at hk'; injection hk' with hk'; subst hk'
        exact hm (by rw [hd] at hd'; injection hd' with hd'; exact hd'.symm)
      simp [this, hlk]
  have hfr : maskFr (Wl ops l') fr = (maskFr (Wl ops l) fr).set t (.c (.ptr (D.N0 + idx) 0 0)) := by
    rw [← maskFr_put ht hW't hWo]
    congr 1
    apply List.ext_getElem?
    intro m
    rw [List.getElem?_set]
    by_cases e : t = m
    · subst e
      rw [List.getD_eq_getElem?_getD, List.getElem?_eq_getElem ht] at hslot
      simp [ht]
      simpa using hslot
    · rw [if_neg e]
  have hmask : ∀ n, Ul D l' n = true → Ul D l n = true := fun n hn => by
    by_cases e : n = D.N0 + idx
    · rw [e]; exact hUp
    · rw [← hUne n e]; exact hn
  refine ⟨hI.split, fun e he => by rw [hl', hI.hd e he]; simp, fun e he => ?_, closed_step hI.closed ho hr hl', hI.slots, hheap, ?_, hI.len, fun n hn => ?_, hI.lenN, hI.alen, fun j hj hlj => hI.st j hj (by rw [hl'] at hlj; simp at hlj; exact hlj.2), fun idx q hq hlq => hI.al idx q hq (by rw [hl'] at hlq; simp at hlq; exact hlq.2), fun x hx => ?_, fun n => ?_, hI.rest⟩
  · rw [hl', hI.he e he]
    have : e ≠ i := fun e' => by
      subst e'
      have hee : e ∈ D.eff := by rw [hI.split]; simp [he]
      rw [hD.eff] at hee
      obtain ⟨oe, hoe, hee⟩ := mem_idxs.1 hee
      rw [ho] at hoe; injection hoe with hoe; subst hoe
      simp [isEffB, hk] at hee
    simp [this]
  · rw [hfr, hd]
    have hf := hI.frame
    have h1 : FrOK (upd r (D.N0 + idx) ⟨w.heap.size, 0, 0, false, 0⟩) H.length (maskFr (Wl ops l) fr) a :=
      ⟨Are.av (V := fun n => Ul D l n = false) (fun n hn => rne n (fun e => by rw [e, hUp] at hn; cases hn)) hI.nf hf.is, hf.lt, hf.defers⟩
    exact h1.put (dst := some t) (v := .c (.ptr (D.N0 + idx) 0 0)) (fun _ _ => rfl) (Nat.le_refl _) (by simp [VV.is, V1.is, C.is, upd_new]) (fun n hn => by simp [C.nm] at hn; subst hn; exact hlt)
  · rw [rne n (by have := hI.lenN; omega)]; exact hI.keep n hn
  · rw [hfr] at hx
    have hptr : (VV.c (.ptr (D.N0 + idx) 0 0)).av fun n => Ul D l' n = false := fun n hn => by simp [C.nm] at hn; subst hn; exact hU'p
    refine mem_set_av (fun x hx => VV.av_mono (fun n hn => ?_) (hI.nf x hx)) hptr hx
    cases hh : Ul D l' n with
    | false => rfl
    | true => rw [hmask n hh] at hn; cases hn
  · rw [maskH_at]
    by_cases e : n = D.N0 + idx
    · subst e
      rw [hU'p]
      simp only [Bool.false_eq_true, if_false, hat]
      exact fun c hc m hm => by rw [(hplain c hc).1] at hm; cases hm
    · rw [hUne n e]
      have := hI.nh n
      rw [maskH_at] at this
      exact Atom.av_mono (fun m hm => by
        cases hh : Ul D l' m with
        | false => rfl
        | true => rw [hmask m hh] at hm; cases hm) this
end step
end Go.Proofs.YtndlpbheifalhaaGreatDoor.E
