/- Regions that draw their order, second part: what waits for what; a new block under a name that was kept free. -/
import Derived.Test.YtndlpbheifalhaaGreatDoorEb
import Derived.Test.YtndlpbheifalhaaGreatDoorEi
namespace Go.Proofs.YtndlpbheifalhaaGreatDoor.E
set_option linter.unusedVariables false
set_option linter.unusedSimpArgs false
variable {K : Kinds} {P : Program} {S : Nat → Prop} {w0 w : World} {r : Nat → Ref} {H : VH K}
/-! ### names that may be told anew -/
def C.av (V : Nat → Prop) (c : C) : Prop := ∀ n, c.nm = some n → V n
def V1.av (V : Nat → Prop) : V1 → Prop
  | .c x => x.av V
  | .agg l => ∀ c ∈ l, c.av V
def VV.av (V : Nat → Prop) : VV → Prop
  | .one x => x.av V
  | .tup l => ∀ c ∈ l, c.av V
  | .any => True
def Atom.av (V : Nat → Prop) : Atom K → Prop
  | .cells _ cs => ∀ c ∈ cs, c.av V
  | _ => True
section av
variable {r' : Nat → Ref} {V : Nat → Prop}
theorem C.is_av {c : C} {v : Value} (hl : c.av V) (h : ∀ n, V n → r' n = r n) (hc : c.is r v) : c.is r' v := by
  cases c with
  | ptr n i j => have := h n (hl n rfl); simp only [C.is] at hc ⊢; rw [this]; exact hc
  | slc n lo len cap => have := h n (hl n rfl); simp only [C.is] at hc ⊢; rw [this]; exact hc
  | _ => exact hc
theorem Rel.av (h : ∀ n, V n → r' n = r n) : ∀ {cs : List C} {vs : List Value}, (∀ c ∈ cs, c.av V) → Rel r cs vs → Rel r' cs vs
  | [], [], _, _ => trivial
  | c :: cs, v :: vs, hl, hr => ⟨C.is_av (hl c (by simp)) h hr.1, Rel.av h (fun c hc => hl c (by simp [hc])) hr.2⟩
  | [], _ :: _, _, h => h.elim
  | _ :: _, [], _, h => h.elim
theorem V1.is_av {c : V1} {v : Value} (hl : c.av V) (h : ∀ n, V n → r' n = r n) (hc : c.is r v) : c.is r' v := by
  cases c with
  | c x => exact C.is_av hl h hc
  | agg l => obtain ⟨vs, e, hr⟩ := hc; exact ⟨vs, e, Rel.av h hl hr⟩
theorem RelV.av (h : ∀ n, V n → r' n = r n) : ∀ {cs : List V1} {vs : List Value}, (∀ c ∈ cs, c.av V) → RelV r cs vs → RelV r' cs vs
  | [], [], _, _ => trivial
  | c :: cs, v :: vs, hl, hr => ⟨V1.is_av (hl c (by simp)) h hr.1, RelV.av h (fun c hc => hl c (by simp [hc])) hr.2⟩
  | [], _ :: _, _, h => h.elim
  | _ :: _, [], _, h => h.elim
theorem VV.is_av {c : VV} {v : Value} (hl : c.av V) (h : ∀ n, V n → r' n = r n) (hc : c.is r v) : c.is r' v := by
  cases c with
  | one x => exact V1.is_av hl h hc
  | tup l => obtain ⟨vs, e, hr⟩ := hc; exact ⟨vs, e, RelV.av h hl hr⟩
  | any => trivial
theorem Are.av (h : ∀ n, V n → r' n = r n) : ∀ {xs : List VV} {vs : List Value}, (∀ x ∈ xs, x.av V) → Are r xs vs → Are r' xs vs
  | [], [], _, _ => trivial
  | c :: cs, v :: vs, hl, hr => ⟨VV.is_av (hl c (by simp)) h hr.1, Are.av h (fun c hc => hl c (by simp [hc])) hr.2⟩
  | [], _ :: _, _, h => h.elim
  | _ :: _, [], _, h => h.elim
end av
/-- A new block of plain cells under a name that stood for nothing. -/
theorem HeapOK.place (st : HeapOK S w0 r H w) {p : Nat} (hp : p < H.length) (hg : at_ H p = .gone) {T : TypeId} {cs : List C} {vs : List Value} (hcs : ∀ c ∈ cs, c.nm = none ∧ c.one = true) (hr : Rel r cs vs)
    {H' : VH K} (hl : H'.length = H.length) (h1 : at_ H' p = .cells T cs) (h2 : ∀ n, n ≠ p → at_ H' n = at_ H n) (hav : ∀ n, (at_ H n).av fun m => m ≠ p) :
    HeapOK S w0 (upd r p ⟨w.heap.size, 0, 0, false, 0⟩) H' (w.alloc (.cells vs.toArray T)) := by
  have rne : ∀ n, n ≠ p → upd r p ⟨w.heap.size, 0, 0, false, 0⟩ n = r n := fun n hn => if_neg hn
  have old : ∀ n, n ≠ p → blkOf (upd r p ⟨w.heap.size, 0, 0, false, 0⟩) H' n = blkOf r H n := fun n hn => by unfold blkOf; rw [h2 n hn, rne n hn]
  have new : blkOf (upd r p ⟨w.heap.size, 0, 0, false, 0⟩) H' p = fun b => w.heap.size = b := by unfold blkOf; rw [h1, upd_new]; rfl
  have keep : ∀ b, b < w.heap.size → (w.alloc (.cells vs.toArray T)).heap[b]? = w.heap[b]? := fun b hb => heap_alloc_old w _ b hb
  refine ⟨fun n => ?_, fun n => ?_, fun n m b hne hb hb' => ?_, fun n b hb => ?_, fun n m b hn hm => ?_, ?_⟩
  · by_cases e : n = p
    · subst e
      rw [h1, upd_new]
      refine ⟨⟨rfl, rfl⟩, vs, heap_alloc_new w _, Rel.av (V := fun _ => False) (fun n h => h.elim) (fun c hc n hn => ?_) hr⟩
      rw [(hcs c hc).1] at hn; cases hn
    · rw [h2 n e, rne n e]
      have hok := st.ok n
      have hb := fun b (h : blkOf r H n b) => blk_lt hok h
      have ha := hav n
      cases hh : at_ H n with
      | gone => trivial
      | cells T' cs' =>
        rw [hh] at hok ha
        obtain ⟨hn, us, hv, hrr⟩ := hok
        exact ⟨hn, us, by rw [keep _ (hb _ (by rw [blkOf, hh]; rfl))]; exact hv, Rel.av (V := fun m => m ≠ p) (fun m hm => rne m hm) ha hrr⟩
      | arr k xs =>
        have hk := Atom.ok_keep (r := r) (r' := r) (N := 0) (w' := w.alloc (.cells vs.toArray T)) hok (by rw [hh]; trivial) (fun _ _ => rfl) (fun b hb' => keep b (hb b hb')) (fun b hb' => keep b (rb_lt (st.ok n) hb'))
        rw [hh] at hk
        exact hk
      | bag φ =>
        have hk := Atom.ok_keep (r := r) (r' := r) (N := 0) (w' := w.alloc (.cells vs.toArray T)) hok (by rw [hh]; trivial) (fun _ _ => rfl) (fun b hb' => keep b (hb b hb')) (fun b hb' => keep b (rb_lt (st.ok n) hb'))
        rw [hh] at hk
        exact hk
      | ro k xs =>
        have hk := Atom.ok_keep (r := r) (r' := r) (N := 0) (w' := w.alloc (.cells vs.toArray T)) hok (by rw [hh]; trivial) (fun _ _ => rfl) (fun b hb' => keep b (hb b hb')) (fun b hb' => keep b (rb_lt (st.ok n) hb'))
        rw [hh] at hk
        exact hk
  · by_cases e : n = p
    · subst e; rw [h1]; exact fun c hc => ⟨lt_of_nm (hcs c hc).1, (hcs c hc).2⟩
    · rw [h2 n e, hl]; exact st.lt n
  · by_cases e : n = p
    · subst e
      rw [new] at hb; replace hb : w.heap.size = b := hb
      rw [old m (Ne.symm hne)] at hb'
      have := blk_lt (st.ok m) hb'
      omega
    · rw [old n e] at hb
      by_cases e' : m = p
      · subst e'
        rw [new] at hb'; replace hb' : w.heap.size = b := hb'
        have := blk_lt (st.ok n) hb
        omega
      · rw [old m e'] at hb'
        exact st.inj n m b hne hb hb'
  · by_cases e : n = p
    · subst e
      rw [new] at hb; replace hb : w.heap.size = b := hb
      exact .inr (by rw [← hb]; exact st.out.size)
    · rw [old n e] at hb; exact st.own n b hb
  · have hnp : n ≠ p := fun e => by
      subst e
      unfold rbOf at hn
      rw [h1] at hn; simp [Atom.rb] at hn
    have hn' : rbOf r H n = some b := by unfold rbOf at hn ⊢; rw [h2 n hnp, rne n hnp] at hn; exact hn
    by_cases e : m = p
    · subst e
      rw [new] at hm; replace hm : w.heap.size = b := hm
      have := rb_lt (st.ok n) hn'
      omega
    · rw [old m e] at hm; exact st.ro n m b hn' hm
  · exact ⟨st.out.os, st.out.tape, st.out.output, by simp; exact Nat.le_succ_of_le st.out.size, fun b hb hs => by
      rw [keep b (Nat.lt_of_lt_of_le hb st.out.size)]; exact st.out.block b hb hs⟩
/-! ### what waits for what -/
def direct (o : Oper) : List Nat := (o.after.toList.filter (Region.binds .any)).map (·.on)
def ancOne (acc : List Nat) (o : Oper) : Nat := (direct o).foldl (fun s p => s ||| 2 ^ p ||| acc.getD p 0) 0
def ancGo : List Oper → List Nat → List Nat
  | [], acc => acc
  | o :: os, acc => ancGo os (acc ++ [ancOne acc o])
def ancs (ops : Array Oper) : List Nat := ancGo ops.toList []
theorem fold_bit (acc : List Nat) (q : Nat) : ∀ (l : List Nat) (s : Nat), ((l.foldl (fun s p => s ||| 2 ^ p ||| acc.getD p 0) s).testBit q = true) → s.testBit q = true ∨ ∃ p ∈ l, p = q ∨ (acc.getD p 0).testBit q = true
  | [], s, h => .inl h
  | p :: l, s, h => by
    rcases fold_bit acc q l _ h with h | ⟨x, hx, hq⟩
    · simp only [Nat.testBit_or, Nat.testBit_two_pow, Bool.or_eq_true, decide_eq_true_eq] at h
      rcases h with (h | h) | h
      · exact .inl h
      · exact .inr ⟨p, by simp, .inl h⟩
      · exact .inr ⟨p, by simp, .inr h⟩
    · exact .inr ⟨x, by simp [hx], hq⟩
theorem ancGo_pre : ∀ (os : List Oper) (acc : List Nat) (i : Nat), i < acc.length → (ancGo os acc).getD i 0 = acc.getD i 0
  | [], acc, i, _ => rfl
  | o :: os, acc, i, h => by
    simp only [ancGo]
    rw [ancGo_pre os _ i (by simp; omega)]
    simp only [List.getD_eq_getElem?_getD]
    rw [List.getElem?_append_left h]
theorem ancGo_spec : ∀ (os : List Oper) (acc : List Nat) (k : Nat) (o : Oper), os[k]? = some o → ∀ q, ((ancGo os acc).getD (acc.length + k) 0).testBit q = true →
    ∃ p ∈ direct o, p = q ∨ (p < acc.length + k ∧ ((ancGo os acc).getD p 0).testBit q = true)
  | [], _, k, _, h, _, _ => by simp at h
  | o :: os, acc, 0, o', h, q, hq => by
    simp at h; subst h
    simp only [ancGo] at hq ⊢
    rw [Nat.add_zero, ancGo_pre os _ acc.length (by simp)] at hq
    simp only [List.getD_eq_getElem?_getD, List.getElem?_concat_length, Option.getD_some, ancOne] at hq
    rcases fold_bit acc q (direct o) 0 (by simpa [List.getD_eq_getElem?_getD] using hq) with h0 | ⟨p, hp, h⟩
    · simp at h0
    · refine ⟨p, hp, h.imp id fun h => ?_⟩
      have hlt : p < acc.length := by
        rcases Nat.lt_or_ge p acc.length with h' | h'
        · exact h'
        · rw [List.getD_eq_getElem?_getD, List.getElem?_eq_none h'] at h; simp at h
      refine ⟨by omega, ?_⟩
      rw [ancGo_pre os _ p (by simp; omega)]
      simp only [List.getD_eq_getElem?_getD] at h ⊢
      rw [List.getElem?_append_left hlt]; exact h
  | o :: os, acc, k + 1, o', h, q, hq => by
    simp only [ancGo] at hq ⊢
    have := ancGo_spec os (acc ++ [ancOne acc o]) k o' (by simpa using h) q (by simpa [Nat.add_assoc, Nat.add_comm 1 k] using hq)
    simpa [Nat.add_assoc, Nat.add_comm 1 k] using this
theorem ancs_spec {ops : Array Oper} {i : Nat} {o : Oper} (ho : ops[i]? = some o) {q : Nat} (h : ((ancs ops).getD i 0).testBit q = true) : ∃ p ∈ direct o, p = q ∨ (p < i ∧ ((ancs ops).getD p 0).testBit q = true) := by
  have := ancGo_spec ops.toList [] i o (by simpa using ho) q (by simpa [ancs] using h)
  simpa [ancs] using this
/-- Who is listed has all he waits for listed. -/
def Closed (ops : Array Oper) (l : Nat → Bool) : Prop := ∀ i o, ops[i]? = some o → l i = true → ∀ p ∈ direct o, l p = true
theorem closed_anc {ops : Array Oper} {l : Nat → Bool} (hc : Closed ops l) : ∀ (i : Nat) (o : Oper), ops[i]? = some o → (∀ p ∈ direct o, l p = true) → ∀ q, ((ancs ops).getD i 0).testBit q = true → l q = true := by
  intro i
  induction i using Nat.strongRecOn with
  | _ i ih =>
    intro o ho hd q hq
    obtain ⟨p, hp, h⟩ := ancs_spec ho hq
    rcases h with rfl | ⟨hlt, h⟩
    · exact hd _ hp
    · cases hop : ops[p]? with
      | none =>
        have hge : ops.size ≤ p := by
          rcases Nat.lt_or_ge p ops.size with h' | h'
          · rw [Array.getElem?_eq_getElem h'] at hop; cases hop
          · exact h'
        have hi : i < ops.size := (Array.getElem?_eq_some_iff.1 ho).1
        omega
      | some o' => exact ih p hlt o' hop (hc p o' hop (hd p hp)) q h
end Go.Proofs.YtndlpbheifalhaaGreatDoor.E
