/- Text 7 of 13 texts that prove the statement of Vx; it holds without conditions beyond the statement's own. -/
import Derived.Laws.AppendOwn
import Derived.Laws.OwnMore
import Derived.Deep.MidRow
import Derived.Calls
import Derived.Deep.AppendSrc
import Derived.Maps.AppendAt
import Derived.IntWalk
import Derived.Tactics
import Derived.Laws.StructEq
import Derived.Laws.BytesString
import Derived.Orders
import Derived.Test.YtndlpbheifalhaaGreatDoorKM4
import Derived.Test.YtndlpbheifalhaaGreatDoorKM5
namespace Go.Proofs.YtndlpbheifalhaaGreatDoor
end Go.Proofs.YtndlpbheifalhaaGreatDoor
namespace Go.Proofs.YtndlpbheifalhaaGreatDoor.E
end Go.Proofs.YtndlpbheifalhaaGreatDoor.E
namespace Go.Proofs.YtndlpbheifalhaaGreatDoor.T
end Go.Proofs.YtndlpbheifalhaaGreatDoor.T
namespace Go.Proofs.YtndlpbheifalhaaGreatDoor.TwireMany
end Go.Proofs.YtndlpbheifalhaaGreatDoor.TwireMany
namespace Go.Proofs.YtndlpbheifalhaaGreatDoor.V
end Go.Proofs.YtndlpbheifalhaaGreatDoor.V
section
namespace Go.Proofs.YtndlpbheifalhaaGreatDoor.E
set_option linter.unusedVariables false
set_option linter.unusedSimpArgs false
variable {K : Kinds} {P : Program} {S : Nat → Prop} {w0 w : World} {r : Nat → Ref} {H : VH K}
def C.av (V : Nat → Prop) (c : C) : Prop := ∀ n, c.nm = some n → V n
def V1.av (V : Nat → Prop) : V1 → Prop
  | .c x => x.av V
  | .agg l => ∀ c ∈ l, c.av V
def VV.av (V : Nat → Prop) : VV → Prop
  | .one x => x.av V
  | .tup l => ∀ c ∈ l, c.av V
  | .any => True
def Atom.av (V : Nat → Prop) : Atom K → Prop
  | .cells _ cs => ∀ c ∈ cs, c.av V
  | _ => True
section av
variable {r' : Nat → Ref} {V : Nat → Prop}
theorem C.is_av {c : C} {v : Value} (hl : c.av V) (h : ∀ n, V n → r' n = r n) (hc : c.is r v) : c.is r' v := by
  cases c with
  | ptr n i j => have := h n (hl n rfl); simp only [C.is] at hc ⊢; rw [this]; exact hc
  | slc n lo len cap => have := h n (hl n rfl); simp only [C.is] at hc ⊢; rw [this]; exact hc
  | _ => exact hc
theorem Rel.av (h : ∀ n, V n → r' n = r n) : ∀ {cs : List C} {vs : List Value}, (∀ c ∈ cs, c.av V) → Rel r cs vs → Rel r' cs vs
  | [], [], _, _ => trivial
  | c :: cs, v :: vs, hl, hr => ⟨C.is_av (hl c (by simp)) h hr.1, Rel.av h (fun c hc => hl c (by simp [hc])) hr.2⟩
  | [], _ :: _, _, h => h.elim
  | _ :: _, [], _, h => h.elim
theorem V1.is_av {c : V1} {v : Value} (hl : c.av V) (h : ∀ n, V n → r' n = r n) (hc : c.is r v) : c.is r' v := by
  cases c with
  | c x => exact C.is_av hl h hc
  | agg l => obtain ⟨vs, e, hr⟩ := hc; exact ⟨vs, e, Rel.av h hl hr⟩
theorem RelV.av (h : ∀ n, V n → r' n = r n) : ∀ {cs : List V1} {vs : List Value}, (∀ c ∈ cs, c.av V) → RelV r cs vs → RelV r' cs vs
  | [], [], _, _ => trivial
  | c :: cs, v :: vs, hl, hr => ⟨V1.is_av (hl c (by simp)) h hr.1, RelV.av h (fun c hc => hl c (by simp [hc])) hr.2⟩
  | [], _ :: _, _, h => h.elim
  | _ :: _, [], _, h => h.elim
theorem VV.is_av {c : VV} {v : Value} (hl : c.av V) (h : ∀ n, V n → r' n = r n) (hc : c.is r v) : c.is r' v := by
  cases c with
  | one x => exact V1.is_av hl h hc
  | tup l => obtain ⟨vs, e, hr⟩ := hc; exact ⟨vs, e, RelV.av h hl hr⟩
  | any => trivial
theorem Are.av (h : ∀ n, V n → r' n = r n) : ∀ {xs : List VV} {vs : List Value}, (∀ x ∈ xs, x.av V) → Are r xs vs → Are r' xs vs
  | [], [], _, _ => trivial
  | c :: cs, v :: vs, hl, hr => ⟨VV.is_av (hl c (by simp)) h hr.1, Are.av h (fun c hc => hl c (by simp [hc])) hr.2⟩
  | [], _ :: _, _, h => h.elim
  | _ :: _, [], _, h => h.elim
end av
/-- A new block of plain cells under a name that stood for nothing. -/
theorem HeapOK.place (st : HeapOK S w0 r H w) {p : Nat} (hp : p < H.length) (hg : at_ H p = .gone) {T : TypeId} {cs : List C} {vs : List Value} (hcs : ∀ c ∈ cs, c.nm = none ∧ c.one = true) (hr : Rel r cs vs)
    {H' : VH K} (hl : H'.length = H.length) (h1 : at_ H' p = .cells T cs) (h2 : ∀ n, n ≠ p → at_ H' n = at_ H n) (hav : ∀ n, (at_ H n).av fun m => m ≠ p) :
    HeapOK S w0 (upd r p ⟨w.heap.size, 0, 0, false, 0⟩) H' (w.alloc (.cells vs.toArray T)) := by
  have rne : ∀ n, n ≠ p → upd r p ⟨w.heap.size, 0, 0, false, 0⟩ n = r n := fun n hn => if_neg hn
  have old : ∀ n, n ≠ p → blkOf (upd r p ⟨w.heap.size, 0, 0, false, 0⟩) H' n = blkOf r H n := fun n hn => by unfold blkOf; rw [h2 n hn, rne n hn]
  have new : blkOf (upd r p ⟨w.heap.size, 0, 0, false, 0⟩) H' p = fun b => w.heap.size = b := by unfold blkOf; rw [h1, upd_new]; rfl
  have keep : ∀ b, b < w.heap.size → (w.alloc (.cells vs.toArray T)).heap[b]? = w.heap[b]? := fun b hb => heap_alloc_old w _ b hb
  refine ⟨fun n => ?_, fun n => ?_, fun n m b hne hb hb' => ?_, fun n b hb => ?_, fun n m b hn hm => ?_, ?_⟩
  · by_cases e : n = p
    · subst e
      rw [h1, upd_new]
      refine ⟨⟨rfl, rfl⟩, vs, heap_alloc_new w _, Rel.av (V := fun _ => False) (fun n h => h.elim) (fun c hc n hn => ?_) hr⟩
      rw [(hcs c hc).1] at hn; cases hn
    · rw [h2 n e, rne n e]
      have hok := st.ok n
      have hb := fun b (h : blkOf r H n b) => blk_lt hok h
      have ha := hav n
      cases hh : at_ H n with
      | gone => trivial
      | cells T' cs' =>
        rw [hh] at hok ha
        obtain ⟨hn, us, hv, hrr⟩ := hok
        exact ⟨hn, us, by rw [keep _ (hb _ (by rw [blkOf, hh]; rfl))]; exact hv, Rel.av (V := fun m => m ≠ p) (fun m hm => rne m hm) ha hrr⟩
      | arr k xs =>
        have hk := Atom.ok_keep (r := r) (r' := r) (N := 0) (w' := w.alloc (.cells vs.toArray T)) hok (by rw [hh]; trivial) (fun _ _ => rfl) (fun b hb' => keep b (hb b hb')) (fun b hb' => keep b (rb_lt (st.ok n) hb'))
        rw [hh] at hk
        exact hk
      | bag φ =>
        have hk := Atom.ok_keep (r := r) (r' := r) (N := 0) (w' := w.alloc (.cells vs.toArray T)) hok (by rw [hh]; trivial) (fun _ _ => rfl) (fun b hb' => keep b (hb b hb')) (fun b hb' => keep b (rb_lt (st.ok n) hb'))
        rw [hh] at hk
        exact hk
      | ro k xs =>
        have hk := Atom.ok_keep (r := r) (r' := r) (N := 0) (w' := w.alloc (.cells vs.toArray T)) hok (by rw [hh]; trivial) (fun _ _ => rfl) (fun b hb' => keep b (hb b hb')) (fun b hb' => keep b (rb_lt (st.ok n) hb'))
        rw [hh] at hk
        exact hk
  · by_cases e : n = p
    · subst e; rw [h1]; exact fun c hc => ⟨lt_of_nm (hcs c hc).1, (hcs c hc).2⟩
    · rw [h2 n e, hl]; exact st.lt n
  · by_cases e : n = p
    · subst e
      rw [new] at hb; replace hb : w.heap.size = b := hb
      rw [old m (Ne.symm hne)] at hb'
      have := blk_lt (st.ok m) hb'
      omega
    · rw [old n e] at hb
      by_cases e' : m = p
      · subst e'
        rw [new] at hb'; replace hb' : w.heap.size = b := hb'
        have := blk_lt (st.ok n) hb
        omega
      · rw [old m e'] at hb'
        exact st.inj n m b hne hb hb'
  · by_cases e : n = p
    · subst e
      rw [new] at hb; replace hb : w.heap.size = b := hb
      exact .inr (by rw [← hb]; exact st.out.size)
    · rw [old n e] at hb; exact st.own n b hb
  · have hnp : n ≠ p := fun e => by
      subst e
      unfold rbOf at hn
      rw [h1] at hn; simp [Atom.rb] at hn
    have hn' : rbOf r H n = some b := by unfold rbOf at hn ⊢; rw [h2 n hnp, rne n hnp] at hn; exact hn
    by_cases e : m = p
    · subst e
      rw [new] at hm; replace hm : w.heap.size = b := hm
      have := rb_lt (st.ok n) hn'
      omega
    · rw [old m e] at hm; exact st.ro n m b hn' hm
  · exact ⟨st.out.os, st.out.tape, st.out.output, by simp; exact Nat.le_succ_of_le st.out.size, fun b hb hs => by
      rw [keep b (Nat.lt_of_lt_of_le hb st.out.size)]; exact st.out.block b hb hs⟩
def direct (o : Oper) : List Nat := (o.after.toList.filter (Region.binds .any)).map (·.on)
def ancOne (acc : List Nat) (o : Oper) : Nat := (direct o).foldl (fun s p => s ||| 2 ^ p ||| acc.getD p 0) 0
def ancGo : List Oper → List Nat → List Nat
  | [], acc => acc
  | o :: os, acc => ancGo os (acc ++ [ancOne acc o])
def ancs (ops : Array Oper) : List Nat := ancGo ops.toList []
theorem fold_bit (acc : List Nat) (q : Nat) : ∀ (l : List Nat) (s : Nat), ((l.foldl (fun s p => s ||| 2 ^ p ||| acc.getD p 0) s).testBit q = true) → s.testBit q = true ∨ ∃ p ∈ l, p = q ∨ (acc.getD p 0).testBit q = true
  | [], s, h => .inl h
  | p :: l, s, h => by
    rcases fold_bit acc q l _ h with h | ⟨x, hx, hq⟩
    · simp only [Nat.testBit_or, Nat.testBit_two_pow, Bool.or_eq_true, decide_eq_true_eq] at h
      rcases h with (h | h) | h
      · exact .inl h
      · exact .inr ⟨p, by simp, .inl h⟩
      · exact .inr ⟨p, by simp, .inr h⟩
    · exact .inr ⟨x, by simp [hx], hq⟩
theorem ancGo_pre : ∀ (os : List Oper) (acc : List Nat) (i : Nat), i < acc.length → (ancGo os acc).getD i 0 = acc.getD i 0
  | [], acc, i, _ => rfl
  | o :: os, acc, i, h => by
    simp only [ancGo]
    rw [ancGo_pre os _ i (by simp; omega)]
    simp only [List.getD_eq_getElem?_getD]
    rw [List.getElem?_append_left h]
theorem ancGo_spec : ∀ (os : List Oper) (acc : List Nat) (k : Nat) (o : Oper), os[k]? = some o → ∀ q, ((ancGo os acc).getD (acc.length + k) 0).testBit q = true →
    ∃ p ∈ direct o, p = q ∨ (p < acc.length + k ∧ ((ancGo os acc).getD p 0).testBit q = true)
  | [], _, k, _, h, _, _ => by simp at h
  | o :: os, acc, 0, o', h, q, hq => by
    simp at h; subst h
    simp only [ancGo] at hq ⊢
    rw [Nat.add_zero, ancGo_pre os _ acc.length (by simp)] at hq
    simp only [List.getD_eq_getElem?_getD, List.getElem?_concat_length, Option.getD_some, ancOne] at hq
    rcases fold_bit acc q (direct o) 0 (by simpa [List.getD_eq_getElem?_getD] using hq) with h0 | ⟨p, hp, h⟩
    · simp at h0
    · refine ⟨p, hp, h.imp id fun h => ?_⟩
      have hlt : p < acc.length := by
        rcases Nat.lt_or_ge p acc.length with h' | h'
        · exact h'
        · rw [List.getD_eq_getElem?_getD, List.getElem?_eq_none h'] at h; simp at h
      refine ⟨by omega, ?_⟩
      rw [ancGo_pre os _ p (by simp; omega)]
      simp only [List.getD_eq_getElem?_getD] at h ⊢
      rw [List.getElem?_append_left hlt]; exact h
  | o :: os, acc, k + 1, o', h, q, hq => by
    simp only [ancGo] at hq ⊢
    have := ancGo_spec os (acc ++ [ancOne acc o]) k o' (by simpa using h) q (by simpa [Nat.add_assoc, Nat.add_comm 1 k] using hq)
    simpa [Nat.add_assoc, Nat.add_comm 1 k] using this
theorem ancs_spec {ops : Array Oper} {i : Nat} {o : Oper} (ho : ops[i]? = some o) {q : Nat} (h : ((ancs ops).getD i 0).testBit q = true) : ∃ p ∈ direct o, p = q ∨ (p < i ∧ ((ancs ops).getD p 0).testBit q = true) := by
  have := ancGo_spec ops.toList [] i o (by simpa using ho) q (by simpa [ancs] using h)
  simpa [ancs] using this
/-- Who is listed has all he waits for listed. -/
def Closed (ops : Array Oper) (l : Nat → Bool) : Prop := ∀ i o, ops[i]? = some o → l i = true → ∀ p ∈ direct o, l p = true
theorem closed_anc {ops : Array Oper} {l : Nat → Bool} (hc : Closed ops l) : ∀ (i : Nat) (o : Oper), ops[i]? = some o → (∀ p ∈ direct o, l p = true) → ∀ q, ((ancs ops).getD i 0).testBit q = true → l q = true := by
  intro i
  induction i using Nat.strongRecOn with
  | _ i ih =>
    intro o ho hd q hq
    obtain ⟨p, hp, h⟩ := ancs_spec ho hq
    rcases h with rfl | ⟨hlt, h⟩
    · exact hd _ hp
    · cases hop : ops[p]? with
      | none =>
        have hge : ops.size ≤ p := by
          rcases Nat.lt_or_ge p ops.size with h' | h'
          · rw [Array.getElem?_eq_getElem h'] at hop; cases hop
          · exact h'
        have hi : i < ops.size := (Array.getElem?_eq_some_iff.1 ho).1
        omega
      | some o' => exact ih p hlt o' hop (hc p o' hop (hd p hp)) q h
end Go.Proofs.YtndlpbheifalhaaGreatDoor.E
end
section
namespace Go.Proofs.YtndlpbheifalhaaGreatDoor.E
set_option linter.unusedVariables false
set_option linter.unusedSimpArgs false
variable {K : Kinds} {P : Program} {S : Nat → Prop} {w0 w : World} {r : Nat → Ref} {H : VH K}
def isAllocB (o : Oper) : Bool := match o.op, o.guard, o.dst with
  | .alloc _, none, some _ => true
  | _, _, _ => false
def isRdB (o : Oper) : Bool := isReader o.op && o.dst.isSome
def isEffB (o : Oper) : Bool := !isAllocB o && !isRdB o
def softB (o : Oper) : Bool := isAllocB o || isRdB o
def memB (o : Oper) : Bool := match o.op with
  | .load .. => true
  | .indexAddr .. => true
  | .slice .. => true
  | .convert .. => true
  | _ => false
def idxs (ops : Array Oper) (p : Oper → Bool) : List Nat := (List.range ops.size).filter fun i => match ops[i]? with | some o => p o | none => false
def uses (ops : Array Oper) (o : Oper) : List Nat := (o.op.operands.toList.filterMap fun | .tmp t => some t | _ => none) ++ (gslot ops o).toList
def hasB (A : List Nat) (i q : Nat) : Bool := (A.getD i 0).testBit q
def allB (n : Nat) (p : Nat → Bool) : Bool := (List.range n).all p
def opB (ops : Array Oper) (i : Nat) (p : Oper → Bool) : Bool := match ops[i]? with | some o => p o | none => true
def chkB (ops : Array Oper) (A : List Nat) (eff : List Nat) : Bool :=
  allB ops.size (fun i => opB ops i fun o =>
    (direct o).all (fun p => Nat.blt p i) &&
    ((uses ops o).all (fun t => allB ops.size fun k => opB ops k fun o' => !(softB o' && o'.dst == some t) || hasB A i k) &&
    ((!softB o || allB ops.size fun k => opB ops k fun o' => k == i || !(o'.dst == o.dst)) &&
    (!(isRdB o && !memB o) || eff.all fun e => opB ops e fun o' => !(match o'.dst with | some t => (uses ops o).contains t | none => false) || (hasB A e i || hasB A i e)))))
def chainB (A : List Nat) : List Nat → Bool
  | [] => true
  | e :: es => es.all (fun e' => hasB A e' e) && chainB A es
def Uof (al : List Nat) (N0 : Nat) (p : Nat → Bool) (n : Nat) : Bool := match al[n - N0]? with
  | some q => Nat.ble N0 n && p q
  | none => false
def C.nmAll (f : Nat → Bool) : C → Bool
  | .ptr n _ _ => f n
  | .slc n _ _ _ => f n
  | _ => true
def V1.nmAll (f : Nat → Bool) : V1 → Bool
  | .c x => x.nmAll f
  | .agg l => l.all (C.nmAll f)
def VV.nmAll (f : Nat → Bool) : VV → Bool
  | .one x => x.nmAll f
  | .tup l => l.all (V1.nmAll f)
  | .any => true
def Atom.nmAll (f : Nat → Bool) : Atom K → Bool
  | .cells _ cs => cs.all (C.nmAll f)
  | _ => true
theorem C.nmAll_av {f : Nat → Bool} {c : C} (h : c.nmAll f = true) : c.av fun n => f n = true := by
  intro n hn
  cases c <;> simp_all [C.nm, C.nmAll]
theorem VV.nmAll_av {f : Nat → Bool} {v : VV} (h : v.nmAll f = true) : v.av fun n => f n = true := by
  have h1 : ∀ x : V1, x.nmAll f = true → x.av fun n => f n = true := fun x hx => by
    cases x with
    | c x => exact C.nmAll_av hx
    | agg l => exact fun c hc => C.nmAll_av (List.all_eq_true.1 hx c hc)
  cases v with
  | one x => exact h1 x h
  | tup l => exact fun c hc => h1 c (List.all_eq_true.1 h c hc)
  | any => trivial
theorem Atom.nmAll_av {f : Nat → Bool} {a : Atom K} (h : a.nmAll f = true) : a.av fun n => f n = true := by
  cases a with
  | cells T cs => exact fun c hc => C.nmAll_av (List.all_eq_true.1 h c hc)
  | _ => trivial
theorem V1.av_mono {V W : Nat → Prop} (hw : ∀ n, V n → W n) {x : V1} (h : x.av V) : x.av W := by
  cases x with
  | c x => exact fun n hn => hw n (h n hn)
  | agg l => exact fun c hc n hn => hw n (h c hc n hn)
theorem VV.av_mono {V W : Nat → Prop} (hw : ∀ n, V n → W n) {v : VV} (h : v.av V) : v.av W := by
  cases v with
  | one x => exact V1.av_mono hw h
  | tup l => exact fun c hc => V1.av_mono hw (h c hc)
  | any => trivial
theorem Atom.av_mono {V W : Nat → Prop} (hw : ∀ n, V n → W n) {a : Atom K} (h : a.av V) : a.av W := by
  cases a with
  | cells T cs => exact fun c hc n hn => hw n (h c hc n hn)
  | _ => trivial
def bindB (v : VV) (k : VV → Prop) : Prop := match v with
  | .one (.c (.bool b)) => ite2 b (k (.c (.bool true))) (k (.c (.bool false)))
  | v => k v
theorem bindB_at {v : VV} {k : VV → Prop} (h : bindB v k) : k v := by
  unfold bindB at h
  split at h
  · rcases ite2_of h with ⟨rfl, h⟩ | ⟨rfl, h⟩ <;> exact h
  · exact h
structure DPlan where
  A : List Nat
  eff : List Nat
  al : List Nat
  rd : List Nat
  N0 : Nat
def planOf (ops : Array Oper) (N0 : Nat) : DPlan := ⟨ancs ops, idxs ops isEffB, idxs ops isAllocB, idxs ops isRdB, N0⟩
def DPlan.U (D : DPlan) (i : Nat) : Nat → Bool := Uof D.al D.N0 fun q => !hasB D.A i q
/-- All effects that j waits for are done. -/
def DPlan.bound (D : DPlan) (done : List Nat) (j : Nat) : Bool := D.eff.all fun e => !hasB D.A j e || done.contains e
def DPlan.boundO (D : DPlan) (prev : Option (List Nat)) (j : Nat) : Bool := match prev with
  | some p => D.bound p j
  | none => false
def DPlan.fresh (D : DPlan) (prev : Option (List Nat)) (done : List Nat) : List Nat := D.rd.filter fun j => D.bound done j && !D.boundO prev j
def DPlan.again (D : DPlan) (ops : Array Oper) (prev : Option (List Nat)) (done : List Nat) : List Nat := D.rd.filter fun j => D.boundO prev j && (opB ops j memB && !done.any fun e => hasB D.A e j)
def bindAll (tab : Tab P K) (ops : Array Oper) (D : DPlan) (H : VH K) : List Nat → List VV → (List VV → Prop) → Prop
  | [], fr, c => c fr
  | j :: js, fr, c => match ops[j]? with
    | some o => evVal tab ops fr o (maskH (D.U j) H) fun v _ => guardP (v.nmAll fun n => !D.U j n) (bindB v fun v => bindAll tab ops D H js (putF fr o.dst v) c)
    | none => False
def recheck (tab : Tab P K) (ops : Array Oper) (D : DPlan) (H : VH K) (fr : List VV) : List Nat → Prop
  | [] => True
  | j :: js => (match ops[j]? with
    | some o => evVal tab ops fr o (maskH (D.U j) H) fun v _ => v = (match o.dst with | some t => fr.getD t .any | none => .any)
    | none => False) ∧ recheck tab ops D H fr js
/-- What is still to be shown behind a stage's readers. -/
def stageD (tab : Tab P K) (ops : Array Oper) (D : DPlan) (κ : List VV → VH K → Prop) : List Nat → Option (List Nat) → List Nat → List VV → VH K → Prop
  | [], prev, done, fr, H => bindAll tab ops D H (D.fresh prev done) fr fun fr' => recheck tab ops D H fr' (D.again ops prev done) ∧ κ fr' H
  | e :: es, prev, done, fr, H => bindAll tab ops D H (D.fresh prev done) fr fun fr' => recheck tab ops D H fr' (D.again ops prev done) ∧
    match ops[e]? with
    | some o => evVal tab ops fr' o (maskH (D.U e) H) fun v Hm => guardP ((v.nmAll fun n => !D.U e n) && Hm.all (Atom.nmAll fun n => !D.U e n))
        (stageD tab ops D κ es (some done) (done ++ [e]) (putF fr' o.dst v) (restore (fun n => D.U e n && Nat.blt n H.length) H Hm))
    | none => False
def zeroOf (P : Program) (T : TypeId) : Option (List C) := ((P.info? T).bind (·.zero)).map fun z => z.cells.toList.map ofConstC
def allocAll (P : Program) (ops : Array Oper) : List Nat → List VV → VH K → (List VV → VH K → Prop) → Prop
  | [], fr, H, c => c fr H
  | q :: qs, fr, H, c => match ops[q]? with
    | some o => match o.op with
      | .alloc T => match zeroOf P T with
        | some cs => guardP (cs.all C.one) (allocAll P ops qs (putF fr o.dst (.c (.ptr H.length 0 0))) (H ++ [.cells T cs]) c)
        | none => False
      | _ => False
    | none => False
def slotsB (ops : Array Oper) (n : Nat) : Bool := allB ops.size fun i => opB ops i fun o => match o.dst with
  | some t => Nat.blt t n
  | none => true
/-- A region that draws its order. -/
def evDraw (tab : Tab P K) (ops : Array Oper) (fr : List VV) (H : VH K) (κ : List VV → VH K → Prop) : Prop :=
  guardP (chkB ops (ancs ops) (idxs ops isEffB) && (chainB (ancs ops) (idxs ops isEffB) && slotsB ops fr.length))
    (allocAll P ops (idxs ops isAllocB) fr H fun fr1 H1 => stageD tab ops (planOf ops H.length) κ (idxs ops isEffB) none [] fr1 H1)
theorem mem_idxs {ops : Array Oper} {p : Oper → Bool} {i : Nat} : i ∈ idxs ops p ↔ ∃ o, ops[i]? = some o ∧ p o = true := by
  unfold idxs
  rw [List.mem_filter, List.mem_range]
  constructor
  · rintro ⟨h1, h2⟩
    cases ho : ops[i]? with
    | none => simp [ho] at h2
    | some o => exact ⟨o, rfl, by simpa [ho] using h2⟩
  · rintro ⟨o, ho, hp⟩
    exact ⟨(Array.getElem?_eq_some_iff.1 ho).1, by simp [ho, hp]⟩
theorem allB_get {n : Nat} {p : Nat → Bool} (h : allB n p = true) {i : Nat} (hi : i < n) : p i = true := List.all_eq_true.1 h i (List.mem_range.2 hi)
theorem lt_of_op {ops : Array Oper} {i : Nat} {o : Oper} (h : ops[i]? = some o) : i < ops.size := (Array.getElem?_eq_some_iff.1 h).1
theorem opB_get {ops : Array Oper} {i : Nat} {o : Oper} {p : Oper → Bool} (h : opB ops i p = true) (ho : ops[i]? = some o) : p o = true := by simpa [opB, ho] using h
structure Chk (ops : Array Oper) : Prop where
  lt : ∀ (i : Nat) (o : Oper), ops[i]? = some o → ∀ p ∈ direct o, p < i
  use : ∀ (i : Nat) (o : Oper), ops[i]? = some o → ∀ t ∈ uses ops o, ∀ (k : Nat) (o' : Oper), ops[k]? = some o' → softB o' = true → o'.dst = some t → hasB (ancs ops) i k = true
  uniq : ∀ (i : Nat) (o : Oper), ops[i]? = some o → softB o = true → ∀ (k : Nat) (o' : Oper), ops[k]? = some o' → k ≠ i → o'.dst ≠ o.dst
  pure : ∀ (i : Nat) (o : Oper), ops[i]? = some o → isRdB o = true → memB o = false → ∀ (e : Nat) (o' : Oper), ops[e]? = some o' → isEffB o' = true → ∀ t, o'.dst = some t → t ∈ uses ops o → hasB (ancs ops) e i = true ∨ hasB (ancs ops) i e = true
theorem chk_of {ops : Array Oper} (h : chkB ops (ancs ops) (idxs ops isEffB) = true) : Chk ops := by
  have key := fun (i : Nat) (o : Oper) (ho : ops[i]? = some o) => opB_get (allB_get h (lt_of_op ho)) ho
  refine ⟨fun i o ho p hp => ?_, fun i o ho t ht k o' hk hs hd => ?_, fun i o ho hs k o' hk hne hd => ?_, fun i o ho hr hm e o' he hef t hd ht => ?_⟩
  · have := key i o ho
    simp only [Bool.and_eq_true] at this
    simpa using List.all_eq_true.1 this.1 p hp
  · have := key i o ho
    simp only [Bool.and_eq_true] at this
    have := opB_get (allB_get (List.all_eq_true.1 this.2.1 t ht) (lt_of_op hk)) hk
    simpa [hs, hd] using this
  · have := key i o ho
    simp only [Bool.and_eq_true] at this
    have h2 := this.2.2.1
    rw [hs] at h2
    have := opB_get (allB_get (by simpa using h2) (lt_of_op hk)) hk
    simp [hne, hd] at this
  · have := key i o ho
    simp only [Bool.and_eq_true] at this
    have h2 := this.2.2.2
    rw [hr, hm] at h2
    have := opB_get (List.all_eq_true.1 (by simpa using h2) e (mem_idxs.2 ⟨o', he, hef⟩)) he
    have hc : (uses ops o).contains t = true := by simpa using ht
    simp only [hd, hc] at this
    simp at this
    exact this.resolve_left (fun hn => hn ht)
theorem anc_lt {ops : Array Oper} (hc : Chk ops) : ∀ (i : Nat) (o : Oper), ops[i]? = some o → ∀ q, hasB (ancs ops) i q = true → q < i := by
  intro i
  induction i using Nat.strongRecOn with
  | _ i ih =>
    intro o ho q hq
    obtain ⟨p, hp, h⟩ := ancs_spec ho hq
    have hpi := hc.lt i o ho p hp
    rcases h with rfl | ⟨_, h⟩
    · exact hpi
    · cases hop : ops[p]? with
      | none => exact absurd (Array.getElem?_eq_none_iff.1 hop) (by have := lt_of_op ho; omega)
      | some o' => exact Nat.lt_trans (ih p hpi o' hop q h) hpi
theorem fold_bit_mk (acc : List Nat) : ∀ (l : List Nat) (s q : Nat), (s.testBit q = true ∨ ∃ p ∈ l, p = q ∨ (acc.getD p 0).testBit q = true) → (l.foldl (fun s p => s ||| 2 ^ p ||| acc.getD p 0) s).testBit q = true
  | [], s, q, h => by
    rcases h with h | ⟨p, hp, _⟩
    · exact h
    · cases hp
  | p :: l, s, q, h => by
    refine fold_bit_mk acc l _ q ?_
    simp only [Nat.testBit_or, Nat.testBit_two_pow, Bool.or_eq_true, decide_eq_true_eq]
    rcases h with h | ⟨x, hx, h⟩
    · exact .inl (.inl (.inl h))
    · rcases List.mem_cons.1 hx with rfl | hx
      · exact .inl (h.elim (fun h => .inl (.inr h)) .inr)
      · exact .inr ⟨x, hx, h⟩
theorem ancGo_mk : ∀ (os : List Oper) (acc : List Nat) (k : Nat) (o : Oper), os[k]? = some o → ∀ p ∈ direct o, p < acc.length + k → ∀ q, (p = q ∨ ((ancGo os acc).getD p 0).testBit q = true) → ((ancGo os acc).getD (acc.length + k) 0).testBit q = true
  | [], _, k, _, h, _, _, _, _, _ => by simp at h
  | o :: os, acc, 0, o', h, p, hp, hlt, q, hq => by
    simp at h; subst h
    simp only [ancGo] at hq ⊢
    rw [Nat.add_zero, ancGo_pre os _ acc.length (by simp)]
    simp only [List.getD_eq_getElem?_getD, List.getElem?_concat_length, Option.getD_some, ancOne]
    have hlt' : p < acc.length := by omega
    refine fold_bit_mk acc (direct o) 0 q (.inr ⟨p, hp, hq.imp id fun h => ?_⟩)
    rw [ancGo_pre os _ p (by simp; omega)] at h
    simp only [List.getD_eq_getElem?_getD] at h ⊢
    rw [List.getElem?_append_left hlt'] at h; exact h
  | o :: os, acc, k + 1, o', h, p, hp, hlt, q, hq => by
    simp only [ancGo] at hq ⊢
    have := ancGo_mk os (acc ++ [ancOne acc o]) k o' (by simpa using h) p hp (by simp; omega) q hq
    simpa [Nat.add_assoc, Nat.add_comm 1 k] using this
theorem anc_mk {ops : Array Oper} (hc : Chk ops) {i : Nat} {o : Oper} (ho : ops[i]? = some o) {p : Nat} (hp : p ∈ direct o) {q : Nat} (h : p = q ∨ hasB (ancs ops) p q = true) : hasB (ancs ops) i q = true := by
  have := ancGo_mk ops.toList [] i o (by simpa using ho) p hp (by have := hc.lt i o ho p hp; simpa using this) q (by simpa [ancs, hasB] using h)
  simpa [ancs, hasB] using this
theorem anc_trans {ops : Array Oper} (hc : Chk ops) : ∀ (i : Nat) (o : Oper), ops[i]? = some o → ∀ k q, hasB (ancs ops) i k = true → hasB (ancs ops) k q = true → hasB (ancs ops) i q = true := by
  intro i
  induction i using Nat.strongRecOn with
  | _ i ih =>
    intro o ho k q hk hq
    obtain ⟨p, hp, h⟩ := ancs_spec ho hk
    have hpi := hc.lt i o ho p hp
    rcases h with rfl | ⟨_, h⟩
    · exact anc_mk hc ho hp (.inr hq)
    · cases hop : ops[p]? with
      | none => exact absurd (Array.getElem?_eq_none_iff.1 hop) (by have := lt_of_op ho; omega)
      | some o' => exact anc_mk hc ho hp (.inr (ih p hpi o' hop k q h hq))
theorem evVal_uses (tab : Tab P K) {ops : Array Oper} {fr fr' : List VV} {o : Oper} {k : VV → VH K → Prop} (h : ∀ t ∈ uses ops o, fr.getD t .any = fr'.getD t .any) : evVal tab ops fr o H k = evVal tab ops fr' o H k := by
  refine evVal_congr tab (fun x hx => ?_) (fun t ht => h t (List.mem_append.2 (.inr (by simp [ht]))))
  cases x with
  | tmp t => exact h t (List.mem_append.2 (.inl (List.mem_filterMap.2 ⟨.tmp t, by simpa using hx, rfl⟩)))
  | _ => rfl
theorem maskH_sub {U V : Nat → Bool} (h : ∀ n, U n = true → V n = true) : maskH V (maskH U H) = maskH V H := by
  have e : ∀ (n : Nat) (H : VH K), maskFrom V n (maskFrom U n H) = maskFrom V n H := by
    intro n H
    induction H generalizing n with
    | nil => rfl
    | cons a l ih =>
      simp only [maskFrom, ih]
      cases hU : U n with
      | false => rfl
      | true => simp [h n hU]
  exact e 0 H
theorem VH_ext {H H' : VH K} (hl : H.length = H'.length) (h : ∀ n, n < H.length → at_ H n = at_ H' n) : H = H' := by
  apply List.ext_getElem hl
  intro n h1 h2
  have := h n h1
  simpa [at_, List.getD_eq_getElem?_getD, h1, h2] using this
theorem restore_mask {U : Nat → Bool} : restore (fun n => U n && Nat.blt n H.length) H (maskH U H) = H := by
  refine VH_ext (by rw [restore_len, maskH_len]) fun n hn => ?_
  rw [restore_len, maskH_len] at hn
  rw [restore_at n (by rw [maskH_len]; exact hn), maskH_at]
  have : Nat.blt n H.length = true := by simp [hn]
  cases U n <;> simp [this]
/-- An operation that reads no memory comes to the same beside any. -/
theorem pure_op (tab : Tab P K) {fr : List VV} {o : Oper} (hr : isRdB o = true) (hm : memB o = false) {H H' : VH K} {v : VV} (h : evOp tab fr o H (Same H v)) : evOp tab fr o H' (Same H' v) := by
  obtain ⟨dst, op, type, pos, after, guard⟩ := o
  simp only [isRdB, Bool.and_eq_true] at hr
  obtain ⟨hr, hd⟩ := hr
  clear hd
  cases op <;> simp only [evOp, Same, and_true] at h ⊢ <;> first | exact h | (cases hr; done) | (cases hm; done) | skip
  case fieldAddr t x f =>
    unfold evFieldAddr at h ⊢
    simpa only [Same, and_true] using h
  case call cc =>
    obtain ⟨callee, args, ats⟩ := cc
    cases callee with
    | builtin b =>
      simp only at h ⊢
      unfold evBuiltin at h ⊢
      split at h
      · simpa only [Same, and_true] using h
      · simpa only [Same, and_true] using h
      · simpa only [Same, and_true] using h
      · cases hr
      · cases hr
      · exact h.elim
    | value f => cases hr
    | invoke x m => cases hr
/-- The same under its guard. -/
theorem pure_val (tab : Tab P K) {ops : Array Oper} {fr : List VV} {o : Oper} (hr : isRdB o = true) (hm : memB o = false) {H H' : VH K} {v : VV} (h : evVal tab ops fr o H (Same H v)) : evVal tab ops fr o H' (Same H' v) := by
  have op : evOp tab fr o H (Same H v) → evOp tab fr o H' (Same H' v) := fun h => pure_op tab hr hm h
  unfold evVal at h ⊢
  split at h
  · exact op h
  · split at h
    · split at h
      · rename_i b _
        rcases ite2_of h with ⟨rfl, h⟩ | ⟨rfl, h⟩ <;> simp only [ite2] <;> split at h <;> first | exact op h | exact ⟨h.1, rfl⟩
      · exact ⟨h.1, rfl⟩
      · exact h.elim
    · exact h.elim
end Go.Proofs.YtndlpbheifalhaaGreatDoor.E
end
section
namespace Go.Proofs.YtndlpbheifalhaaGreatDoor.E
set_option linter.unusedVariables false
set_option linter.unusedSimpArgs false
variable {K : Kinds} {P : Program} {S : Nat → Prop} {w0 w : World} {r : Nat → Ref} {H : VH K}
def Ul (D : DPlan) (l : Nat → Bool) : Nat → Bool := Uof D.al D.N0 fun q => !l q
def Wl (ops : Array Oper) (l : Nat → Bool) (t : Nat) : Bool := (List.range ops.size).any fun k => opB ops k fun o => softB o && (o.dst == some t && !l k)
theorem Wl_true {ops : Array Oper} {l : Nat → Bool} {t k : Nat} {o : Oper} (ho : ops[k]? = some o) (hs : softB o = true) (hd : o.dst = some t) (hl : l k = false) : Wl ops l t = true :=
  List.any_eq_true.2 ⟨k, List.mem_range.2 (lt_of_op ho), by simp [opB, ho, hs, hd, hl]⟩
theorem Wl_of {ops : Array Oper} {l : Nat → Bool} {t : Nat} (h : Wl ops l t = true) : ∃ k o, ops[k]? = some o ∧ softB o = true ∧ o.dst = some t ∧ l k = false := by
  obtain ⟨k, hk, h⟩ := List.any_eq_true.1 h
  have hk' := List.mem_range.1 hk
  refine ⟨k, ops[k], by simp [hk'], ?_⟩
  have := opB_get h (show ops[k]? = some ops[k] by simp [hk'])
  simpa [and_assoc] using this
def maskFrFrom (W : Nat → Bool) : Nat → List VV → List VV
  | _, [] => []
  | n, a :: l => (if W n then .any else a) :: maskFrFrom W (n + 1) l
def maskFr (W : Nat → Bool) (fr : List VV) : List VV := maskFrFrom W 0 fr
theorem maskFrFrom_get {W : Nat → Bool} : ∀ {n : Nat} {fr : List VV} (m : Nat), (maskFrFrom W n fr)[m]? = (fr[m]?).map fun x => if W (n + m) then .any else x
  | n, [], m => by simp [maskFrFrom]
  | n, a :: l, 0 => by simp [maskFrFrom]
  | n, a :: l, m + 1 => by
    have := maskFrFrom_get (W := W) (n := n + 1) (fr := l) m
    simp only [maskFrFrom, List.getElem?_cons_succ]
    rw [this, show n + (m + 1) = n + 1 + m by omega]
theorem maskFr_get {W : Nat → Bool} {fr : List VV} (m : Nat) : (maskFr W fr)[m]? = (fr[m]?).map fun x => if W m then .any else x := by
  have := maskFrFrom_get (W := W) (n := 0) (fr := fr) m
  rwa [Nat.zero_add] at this
theorem maskFr_getD {W : Nat → Bool} {fr : List VV} (m : Nat) : (maskFr W fr).getD m .any = if W m then .any else fr.getD m .any := by
  rw [List.getD_eq_getElem?_getD, List.getD_eq_getElem?_getD, maskFr_get]
  cases fr[m]? with
  | none => simp
  | some x => simp
theorem maskFr_len {W : Nat → Bool} {fr : List VV} : (maskFr W fr).length = fr.length := by
  apply Nat.le_antisymm
  · rcases Nat.lt_or_ge fr.length (maskFr W fr).length with h | h
    · have := maskFr_get (W := W) (fr := fr) fr.length
      simp [h] at this
    · exact h
  · rcases Nat.lt_or_ge (maskFr W fr).length fr.length with h | h
    · have := maskFr_get (W := W) (fr := fr) (maskFr W fr).length
      simp [h] at this
    · exact h
theorem maskFr_ext {W W' : Nat → Bool} {fr fr' : List VV} (hl : fr'.length = fr.length) (h : ∀ t, t < fr.length → W' t = W t ∧ (W t = false → fr'.getD t .any = fr.getD t .any)) : maskFr W' fr' = maskFr W fr := by
  apply List.ext_getElem?
  intro t
  rw [maskFr_get, maskFr_get]
  rcases Nat.lt_or_ge t fr.length with hlt | hge
  · obtain ⟨h1, h2⟩ := h t hlt
    rw [h1]
    simp only [List.getD_eq_getElem?_getD] at h2
    rw [List.getElem?_eq_getElem hlt, List.getElem?_eq_getElem (by omega)] at h2 ⊢
    cases hW : W t with
    | true => simp
    | false => simpa [hW] using h2 hW
  · rw [List.getElem?_eq_none hge, List.getElem?_eq_none (by omega)]
    rfl
theorem getD_set {fr : List VV} {t : Nat} {v : VV} (h : t < fr.length) (m : Nat) : (fr.set t v).getD m .any = if m = t then v else fr.getD m .any := by
  simp only [List.getD_eq_getElem?_getD, List.getElem?_set]
  by_cases e : t = m
  · subst e; simp [h]
  · rw [if_neg e, if_neg (Ne.symm e)]
section inv
variable (tab : Tab P K) (ops : Array Oper) (D : DPlan)
/-- A reader's value stands, whenever it is read. -/
def Stands (fr : List VV) (H : VH K) (j : Nat) : Prop := ∃ o t, ops[j]? = some o ∧ o.dst = some t ∧ evVal tab ops fr o (maskH (D.U j) H) (Same (maskH (D.U j) H) (fr.getD t .any)) ∧ (fr.getD t .any).av fun n => D.U j n = false
structure DOk : Prop where
  chk : Chk ops
  A : D.A = ancs ops
  eff : D.eff = idxs ops isEffB
  al : D.al = idxs ops isAllocB
  rd : D.rd = idxs ops isRdB
theorem bindAll_ex {tab : Tab P K} {ops : Array Oper} {D : DPlan} (hD : DOk ops D) {H : VH K} {c : List VV → Prop} : ∀ (js : List Nat) (fr : List VV), js.Pairwise (· < ·) → (∀ j ∈ js, ∃ o t, ops[j]? = some o ∧ isRdB o = true ∧ o.dst = some t ∧ t < fr.length) → bindAll tab ops D H js fr c →
    ∃ fr', c fr' ∧ fr'.length = fr.length ∧ (∀ t, (∀ j ∈ js, ∀ o, ops[j]? = some o → o.dst ≠ some t) → fr'.getD t .any = fr.getD t .any) ∧ ∀ j ∈ js, Stands tab ops D fr' H j
  | [], fr, _, _, h => ⟨fr, h, rfl, fun _ _ => rfl, fun j hj => by cases hj⟩
  | j :: js, fr, hp, hj, h => by
    obtain ⟨o, t, ho, hr, hd, ht⟩ := hj j (by simp)
    simp only [bindAll, ho] at h
    have hrd : isReader o.op = true := by simp only [isRdB, Bool.and_eq_true] at hr; exact hr.1
    obtain ⟨v, hk, hs⟩ := reads_val tab hrd _ h
    obtain ⟨hav, hb⟩ := guardP_iff.1 hk
    have hb := bindB_at hb
    simp only [hd, putF] at hb
    obtain ⟨hlt, hpw⟩ := List.pairwise_cons.1 hp
    obtain ⟨fr', hc, hl, hkeep, hst⟩ := bindAll_ex hD js (fr.set t v) hpw (fun k hk => by
      obtain ⟨o', t', h1, h2, h3, h4⟩ := hj k (by simp [hk])
      exact ⟨o', t', h1, h2, h3, by simpa using h4⟩) hb
    have hsoft : softB o = true := by simp [softB, hr]
    have nodst : ∀ k ∈ js, ∀ o', ops[k]? = some o' → o'.dst ≠ some t := fun k hk o' hk' e => by
      have := hD.chk.uniq j o ho hsoft k o' hk' (by have := hlt k hk; omega)
      exact this (e.trans hd.symm)
    have hslot : fr'.getD t .any = v := by rw [hkeep t nodst, getD_set ht, if_pos rfl]
    have huse : ∀ t' ∈ uses ops o, fr'.getD t' .any = fr.getD t' .any := fun t' ht' => by
      have hne : t' ≠ t := fun e => by
        subst e
        have := hD.chk.use j o ho t' ht' j o ho hsoft hd
        have := anc_lt hD.chk j o ho j this
        omega
      rw [hkeep t' (fun k hk o' hk' e => ?_), getD_set ht, if_neg hne]
      obtain ⟨o'', t'', h1, h2, h3, h4⟩ := hj k (by simp [hk])
      rw [h1] at hk'; injection hk' with hk'; subst hk'
      have := hD.chk.use j o ho t' ht' k o'' h1 (by simp [softB, h2]) e
      have h5 := anc_lt hD.chk j o ho k this
      have := hlt k hk
      omega
    refine ⟨fr', hc, by simpa using hl, fun t' h' => ?_, fun k hk => ?_⟩
    · rw [hkeep t' (fun k hk => h' k (by simp [hk])), getD_set ht, if_neg (fun e => h' j (by simp) o ho (by rw [hd, e]))]
    · rcases List.mem_cons.1 hk with rfl | hk
      · refine ⟨o, t, ho, hd, ?_, ?_⟩
        · rw [hslot, evVal_uses tab huse]; exact hs
        · rw [hslot]; exact VV.av_mono (fun n hn => by simpa using hn) (VV.nmAll_av hav)
      · exact hst k hk
/-- What is still to be shown behind what has been done. -/
def Rest (κ : List VV → VH K → Prop) (es done : List Nat) (fr : List VV) (H : VH K) : Prop :=
  match es with
  | [] => κ fr H
  | e :: es' => match ops[e]? with
    | some o => evVal tab ops fr o (maskH (D.U e) H) fun v Hm => guardP ((v.nmAll fun n => !D.U e n) && Hm.all (Atom.nmAll fun n => !D.U e n))
        (stageD tab ops D κ es' (some done) (done ++ [e]) (putF fr o.dst v) (restore (fun n => D.U e n && Nat.blt n H.length) H Hm))
    | none => False
theorem recheck_get {tab : Tab P K} {ops : Array Oper} {D : DPlan} {H : VH K} {fr : List VV} : ∀ {js : List Nat}, recheck tab ops D H fr js → ∀ j ∈ js, ∃ o, ops[j]? = some o ∧ evVal tab ops fr o (maskH (D.U j) H) fun v _ => v = (match o.dst with | some t => fr.getD t .any | none => .any)
  | [], _, j, hj => by cases hj
  | k :: js, h, j, hj => by
    rcases List.mem_cons.1 hj with rfl | hj
    · have h1 := h.1
      split at h1
      · rename_i o ho; exact ⟨o, ho, h1⟩
      · exact h1.elim
    · exact recheck_get h.2 j hj
theorem enter_stage {tab : Tab P K} {ops : Array Oper} {D : DPlan} (hD : DOk ops D) {κ : List VV → VH K → Prop} {es : List Nat} {prev : Option (List Nat)} {done : List Nat} {fr : List VV} {H : VH K} (hslots : slotsB ops fr.length = true)
    (h : stageD tab ops D κ es prev done fr H) {l : Nat → Bool} (hnew : ∀ j ∈ D.fresh prev done, l j = false) (hdone : ∀ e ∈ done, ∀ j, hasB D.A e j = true → l j = true)
    (hold : ∀ j ∈ D.rd, l j = false → D.boundO prev j = true → ∃ o t, ops[j]? = some o ∧ o.dst = some t ∧ (memB o = false → evVal tab ops fr o (maskH (D.U j) H) (Same (maskH (D.U j) H) (fr.getD t .any))) ∧ (fr.getD t .any).av fun n => D.U j n = false) :
    ∃ fr', fr'.length = fr.length ∧ maskFr (Wl ops l) fr' = maskFr (Wl ops l) fr ∧ (∀ q ∈ D.al, ∀ o, ops[q]? = some o → ∀ t, o.dst = some t → fr'.getD t .any = fr.getD t .any) ∧
      (∀ j ∈ D.rd, l j = false → D.bound done j = true → Stands tab ops D fr' H j) ∧ Rest tab ops D κ es done fr' H := by
  have fresh_rd : ∀ j ∈ D.fresh prev done, j ∈ D.rd ∧ D.bound done j = true ∧ D.boundO prev j = false := fun j hj => by
    obtain ⟨h1, h2⟩ := List.mem_filter.1 hj
    simp only [Bool.and_eq_true, Bool.not_eq_true'] at h2
    exact ⟨h1, h2.1, h2.2⟩
  have rd_op : ∀ j ∈ D.rd, ∃ o t, ops[j]? = some o ∧ isRdB o = true ∧ o.dst = some t ∧ t < fr.length := fun j hj => by
    rw [hD.rd] at hj
    obtain ⟨o, ho, hr⟩ := mem_idxs.1 hj
    have hr' := hr
    simp only [isRdB, Bool.and_eq_true] at hr'
    obtain ⟨t, ht⟩ := Option.isSome_iff_exists.1 hr'.2
    have := opB_get (allB_get hslots (lt_of_op ho)) ho
    simp only [ht] at this
    exact ⟨o, t, ho, hr, ht, by simpa using this⟩
  have sorted : (D.fresh prev done).Pairwise (· < ·) := by
    unfold DPlan.fresh
    rw [hD.rd]
    exact (List.pairwise_lt_range.filter _).filter _
  have hb : ∃ c, bindAll tab ops D H (D.fresh prev done) fr c ∧ ∀ fr', c fr' → recheck tab ops D H fr' (D.again ops prev done) ∧ Rest tab ops D κ es done fr' H := by
    cases es with
    | nil => exact ⟨_, h, fun fr' h => h⟩
    | cons e es => exact ⟨_, h, fun fr' h => h⟩
  obtain ⟨c, hb, hcr⟩ := hb
  obtain ⟨fr', hc, hl, hkeep, hst⟩ := bindAll_ex hD _ fr sorted (fun j hj => rd_op j (fresh_rd j hj).1) hb
  obtain ⟨hre, hrest⟩ := hcr fr' hc
  have soft_rd : ∀ {o}, isRdB o = true → softB o = true := fun h => by simp [softB, h]
  refine ⟨fr', hl, maskFr_ext hl fun t ht => ⟨rfl, fun hW => hkeep t fun j hj o ho e => ?_⟩, fun q hq o ho t ht => hkeep t fun j hj o' ho' e => ?_, fun j hj hlj hbj => ?_, hrest⟩
  · obtain ⟨o', t', h1, h2, h3, h4⟩ := rd_op j (fresh_rd j hj).1
    rw [h1] at ho; injection ho with ho; subst ho
    rw [Wl_true h1 (soft_rd h2) e (hnew j hj)] at hW; cases hW
  · obtain ⟨o'', t', h1, h2, h3, h4⟩ := rd_op j (fresh_rd j hj).1
    rw [h1] at ho'; injection ho' with ho'; subst ho'
    rw [hD.al] at hq
    obtain ⟨oq, hoq, hqa⟩ := mem_idxs.1 hq
    rw [ho] at hoq; injection hoq with hoq; subst hoq
    have hne : j ≠ q := fun e' => by
      subst e'
      rw [ho] at h1; injection h1 with h1; subst h1
      simp only [isRdB, Bool.and_eq_true] at h2
      unfold isAllocB at hqa
      split at hqa
      · rename_i hop _ _; rw [hop] at h2; cases h2.1
      · cases hqa
    exact hD.chk.uniq q o ho (by simp [softB, hqa]) j o'' h1 hne (e.trans ht.symm)
  · cases hbp : D.boundO prev j with
    | false => exact hst j (List.mem_filter.2 ⟨hj, by simp [hbj, hbp]⟩)
    | true =>
      obtain ⟨o, t, ho, hd, hpure, hav⟩ := hold j hj hlj hbp
      obtain ⟨o', t', h1, h2, h3, h4⟩ := rd_op j hj
      rw [h1] at ho; injection ho with ho; subst ho
      have notfresh : ∀ k ∈ D.fresh prev done, k ≠ j := fun k hk e => by
        subst e; rw [(fresh_rd k hk).2.2] at hbp; cases hbp
      have hslot : fr'.getD t .any = fr.getD t .any := hkeep t fun k hk o'' hk' e =>
        hD.chk.uniq j o' h1 (soft_rd h2) k o'' hk' (notfresh k hk) (e.trans hd.symm)
      refine ⟨o', t, h1, hd, ?_, by rw [hslot]; exact hav⟩
      cases hm : memB o' with
      | false =>
        have huse : ∀ t' ∈ uses ops o', fr'.getD t' .any = fr.getD t' .any := fun t' ht' => hkeep t' fun k hk o'' hk' e => by
          obtain ⟨ok, tk, g1, g2, g3, g4⟩ := rd_op k (fresh_rd k hk).1
          rw [g1] at hk'; injection hk' with hk'; subst hk'
          have hjk := hD.chk.use j o' h1 t' ht' k ok g1 (soft_rd g2) e
          -- what j waits for, k waits for: so k was bound
          have hkb : D.boundO prev k = true := by
            cases prev with
            | none => cases hbp
            | some p =>
              simp only [DPlan.boundO, DPlan.bound, List.all_eq_true, Bool.or_eq_true, Bool.not_eq_true'] at hbp ⊢
              intro e' he'
              rcases hbp e' he' with h0 | h0
              · left
                cases hke : hasB D.A k e' with
                | false => rfl
                | true =>
                  rw [hD.A] at hke h0
                  rw [anc_trans hD.chk j o' h1 k e' hjk hke] at h0; cases h0
              · exact .inr h0
          rw [(fresh_rd k hk).2.2] at hkb; cases hkb
        rw [hslot, evVal_uses tab huse]
        exact hpure hm
      | true =>
        have hin : j ∈ D.again ops prev done := by
          refine List.mem_filter.2 ⟨hj, ?_⟩
          have hnot : (done.any fun e => hasB D.A e j) = false := by
            cases hh : done.any fun e => hasB D.A e j with
            | false => rfl
            | true =>
              obtain ⟨e, he, hej⟩ := List.any_eq_true.1 hh
              rw [hdone e he j hej] at hlj; cases hlj
          simp [hbp, opB, h1, hm, hnot]
        obtain ⟨o'', ho'', hev⟩ := recheck_get hre j hin
        rw [h1] at ho''; injection ho'' with ho''; subst ho''
        have hrd : isReader o'.op = true := by simp only [isRdB, Bool.and_eq_true] at h2; exact h2.1
        obtain ⟨v, hv, hs⟩ := reads_val tab hrd _ hev
        rw [hd] at hv
        have hv' : v = fr'.getD t .any := hv
        rw [← hv']
        exact hs
end inv
end Go.Proofs.YtndlpbheifalhaaGreatDoor.E
end
section
namespace Go.Proofs.YtndlpbheifalhaaGreatDoor.E
set_option linter.unusedVariables false
set_option linter.unusedSimpArgs false
variable {K : Kinds} {P : Program} {S : Nat → Prop} {w0 w : World} {r : Nat → Ref} {H : VH K} {Ds : List Deferred}
/-- A block that is still to be made, as it will be. -/
def Waits (P : Program) (ops : Array Oper) (D : DPlan) (fr : List VV) (H : VH K) (idx q : Nat) : Prop :=
  ∃ o T cs t, ops[q]? = some o ∧ o.op = .alloc T ∧ o.dst = some t ∧ zeroOf P T = some cs ∧ cs.all C.one = true ∧ at_ H (D.N0 + idx) = .cells T cs ∧ fr.getD t .any = .c (.ptr (D.N0 + idx) 0 0)
structure DInv (Ds : List Deferred) (tab : Tab P K) (ops : Array Oper) (D : DPlan) (κ : List VV → VH K → Prop) (S : Nat → Prop) (w0 : World) (r0 : Nat → Ref) (N0 : Nat) (l : Nat → Bool) (es done : List Nat) (r : Nat → Ref) (fr : List VV) (H : VH K) (a : Act) (w : World) : Prop where
  split : D.eff = done ++ es
  hd : ∀ e ∈ done, l e = true
  he : ∀ e ∈ es, l e = false
  closed : Closed ops l
  slots : slotsB ops fr.length = true
  heap : HeapOK S w0 r (maskH (Ul D l) H) w
  frame : FrOK Ds r H.length (maskFr (Wl ops l) fr) a
  len : N0 ≤ H.length
  keep : ∀ n, n < N0 → r n = r0 n
  lenN : N0 ≤ D.N0
  alen : D.N0 + D.al.length ≤ H.length
  st : ∀ j ∈ D.rd, l j = false → D.bound done j = true → Stands tab ops D fr H j
  al : ∀ idx q, D.al[idx]? = some q → l q = false → Waits P ops D fr H idx q
  nf : ∀ x ∈ maskFr (Wl ops l) fr, x.av fun n => Ul D l n = false
  nh : ∀ n, (at_ (maskH (Ul D l) H) n).av fun m => Ul D l m = false
  rest : Rest tab ops D κ es done fr H
theorem Uof_of {al : List Nat} {N0 : Nat} {p : Nat → Bool} {n : Nat} (h : Uof al N0 p n = true) : ∃ idx q, al[idx]? = some q ∧ n = N0 + idx ∧ p q = true := by
  unfold Uof at h
  split at h
  · rename_i q hq
    simp only [Bool.and_eq_true, Nat.ble_eq] at h
    exact ⟨n - N0, q, hq, by omega, h.2⟩
  · cases h
theorem Uof_mk {al : List Nat} {N0 : Nat} {p : Nat → Bool} {idx q : Nat} (h : al[idx]? = some q) (hp : p q = true) : Uof al N0 p (N0 + idx) = true := by
  unfold Uof
  simp [h, hp]
theorem Uof_at {al : List Nat} {N0 : Nat} {p : Nat → Bool} {idx q : Nat} (h : al[idx]? = some q) : Uof al N0 p (N0 + idx) = p q := by
  unfold Uof
  simp [h]
section step
variable {tab : Tab P K} {ops : Array Oper} {D : DPlan} {κ : List VV → VH K → Prop} {r0 : Nat → Ref} {N0 : Nat} {l l' : Nat → Bool} {es done : List Nat} {fr : List VV} {a : Act}
/-- Whatever is not made yet isn't seen by one who is ready. -/
theorem U_sub (hD : DOk ops D) (hc : Closed ops l) {i : Nat} {o : Oper} (ho : ops[i]? = some o) (hr : ∀ p ∈ direct o, l p = true) : ∀ n, Ul D l n = true → D.U i n = true := by
  intro n hn
  obtain ⟨idx, q, hq, rfl, hp⟩ := Uof_of hn
  refine Uof_mk hq ?_
  cases hh : hasB D.A i q with
  | false => rfl
  | true =>
    rw [hD.A] at hh
    have := closed_anc hc i o ho hr q hh
    simp [this] at hp
theorem W_uses (hD : DOk ops D) (hc : Closed ops l) {i : Nat} {o : Oper} (ho : ops[i]? = some o) (hr : ∀ p ∈ direct o, l p = true) : ∀ t ∈ uses ops o, Wl ops l t = false := by
  intro t ht
  cases hW : Wl ops l t with
  | false => rfl
  | true =>
    obtain ⟨k, o', hk, hs, hd, hl⟩ := Wl_of hW
    have h1 := hD.chk.use i o ho t ht k o' hk hs hd
    have := closed_anc hc i o ho hr k h1
    rw [this] at hl; cases hl
theorem closed_step (hc : Closed ops l) {i : Nat} {o : Oper} (ho : ops[i]? = some o) (hr : ∀ p ∈ direct o, l p = true) (hl' : ∀ k, l' k = (decide (k = i) || l k)) : Closed ops l' := by
  intro k o' hk hlk p hp
  rw [hl'] at hlk ⊢
  simp only [Bool.or_eq_true, decide_eq_true_eq] at hlk ⊢
  rcases hlk with rfl | hlk
  · rw [ho] at hk; injection hk with hk; subst hk
    exact .inr (hr p hp)
  · exact .inr (hc k o' hk hlk p hp)
theorem maskFr_put {W W' : Nat → Bool} {fr : List VV} {t : Nat} (ht : t < fr.length) (hW : W' t = false) (h : ∀ m, m ≠ t → W' m = W m) (v : VV) : maskFr W' (fr.set t v) = (maskFr W fr).set t v := by
  apply List.ext_getElem?
  intro m
  rw [maskFr_get, List.getElem?_set, List.getElem?_set, maskFr_get, maskFr_len]
  by_cases e : t = m
  · subst e; simp [ht, hW]
  · rw [if_neg e, if_neg e, h m (Ne.symm e)]
theorem mem_set_av {l : List VV} {t : Nat} {v x : VV} {V : Nat → Prop} (h : ∀ x ∈ l, x.av V) (hv : v.av V) (hx : x ∈ l.set t v) : x.av V := by
  rcases List.mem_or_eq_of_mem_set hx with hx | rfl
  · exact h x hx
  · exact hv
/-- A reader runs. -/
theorem step_reader (hK : K.Ok) (hD : DOk ops D) (hI : DInv Ds tab ops D κ S w0 r0 N0 l es done r fr H a w) {i : Nat} {o : Oper} (ho : ops[i]? = some o) (hr : ∀ p ∈ direct o, l p = true) (hli : l i = false) (hl' : ∀ k, l' k = (decide (k = i) || l k)) (hk : isRdB o = true)
    {next : Act → World → Prop} {Q : Exit → Act → World → Prop} (hn : ∀ r' a' w', DInv Ds tab ops D κ S w0 r0 N0 l' es done r' fr H a' w' → next a' w') :
    if Region.wanted o (yielded ops a.tmps) then o.wp P a w next Q ∨ (o.asks P a w ∧ LetsOut Q) else next (a.put o.dst undef) w := by
  have hin : i ∈ D.rd := by rw [hD.rd]; exact mem_idxs.2 ⟨o, ho, hk⟩
  have hbound : D.bound done i = true := by
    unfold DPlan.bound
    rw [List.all_eq_true]
    intro e he
    simp only [Bool.or_eq_true, Bool.not_eq_true']
    cases hh : hasB D.A i e with
    | false => exact .inl rfl
    | true =>
      right
      rw [hD.A] at hh
      have hle := closed_anc hI.closed i o ho hr e hh
      rw [hI.split] at he
      rcases List.mem_append.1 he with he | he
      · simpa using he
      · rw [hI.he e he] at hle; cases hle
  obtain ⟨o', t, ho', hd, hev, hav⟩ := hI.st i hin hli hbound
  rw [ho] at ho'; injection ho' with ho'; subst ho'
  have hsoft : softB o = true := by simp [softB, hk]
  have hsub := U_sub hD hI.closed ho hr
  have hWu := W_uses hD hI.closed ho hr
  rw [← maskH_sub hsub] at hev
  have hev' : evVal tab ops (maskFr (Wl ops l) fr) o (maskH (D.U i) (maskH (Ul D l) H)) (Same (maskH (D.U i) (maskH (Ul D l) H)) (fr.getD t .any)) := by
    rw [evVal_uses tab (fr' := fr) (fun t ht => by rw [maskFr_getD, hWu t ht]; simp)]
    exact hev
  have hlenm : (maskH (D.U i) (maskH (Ul D l) H)).length = H.length := by rw [maskH_len, maskH_len]
  refine evVal_sound hK tab (hI.heap.mask (D.U i)) (by rw [hlenm]; exact hI.frame) hev' fun v' w' ha => hn ?_ _ _ ?_
  · exact (After.unmask hI.heap ha).choose
  · obtain ⟨vv, Hm, ⟨hvv, hHm⟩, hv, hvl, hle, hrr, hh⟩ := (After.unmask hI.heap ha).choose_spec
    generalize (After.unmask hI.heap ha).choose = r' at *
    subst hvv hHm
    rw [restore_mask] at hh
    rw [maskH_len] at hrr
    rw [hlenm] at hvl
    have ht : t < fr.length := by
      have := opB_get (allB_get hI.slots (lt_of_op ho)) ho
      simpa [hd] using this
    have hW't : Wl ops l' t = false := by
      cases hW : Wl ops l' t with
      | false => rfl
      | true =>
        obtain ⟨k, ok, hk', hs', hd', hlk⟩ := Wl_of hW
        by_cases e : k = i
        · subst e; rw [hl'] at hlk; simp at hlk
        · exact absurd (hd'.trans hd.symm) (hD.chk.uniq i o ho hsoft k ok hk' e)
    have hWo : ∀ m, m ≠ t → Wl ops l' m = Wl ops l m := fun m hm => by
      rw [Bool.eq_iff_iff]
      constructor
      · intro h
        obtain ⟨k, ok, hk', hs', hd', hlk⟩ := Wl_of h
        rw [hl'] at hlk
        simp only [Bool.or_eq_false_iff, decide_eq_false_iff_not] at hlk
        exact Wl_true hk' hs' hd' hlk.2
      · intro h
        obtain ⟨k, ok, hk', hs', hd', hlk⟩ := Wl_of h
        refine Wl_true hk' hs' hd' ?_
        rw [hl']
        have : k ≠ i := fun e => by
          subst e
          rw [ho] at hk'; injection hk' with hk'; subst hk'
          exact hm (by rw [hd] at hd'; injection hd' with hd'; exact hd'.symm)
        simp [this, hlk]
    have hUeq : Ul D l' = Ul D l := by
      funext n
      unfold Ul Uof
      split
      · rename_i q hq
        have : q ≠ i := fun e => by
          subst e
          have hqa : q ∈ D.al := List.mem_of_getElem? hq
          rw [hD.al] at hqa
          obtain ⟨oq, hoq, hqq⟩ := mem_idxs.1 hqa
          rw [ho] at hoq; injection hoq with hoq; subst hoq
          simp only [isRdB, Bool.and_eq_true] at hk
          unfold isAllocB at hqq
          split at hqq
          · rename_i hop _ _; rw [hop] at hk; cases hk.1
          · cases hqq
        simp [hl', this]
      · rfl
    have hfr : maskFr (Wl ops l') fr = (maskFr (Wl ops l) fr).set t (fr.getD t .any) := by
      rw [← maskFr_put ht hW't hWo]
      congr 1
      apply List.ext_getElem?
      intro m
      rw [List.getElem?_set]
      by_cases e : t = m
      · subst e; simp [ht]
      · rw [if_neg e]
    refine ⟨hI.split, fun e he => by rw [hl', hI.hd e he]; simp, fun e he => ?_, closed_step hI.closed ho hr hl', hI.slots, by rw [hUeq]; exact hh, ?_, hI.len, fun n hn => ?_, hI.lenN, hI.alen, fun j hj hlj => hI.st j hj (by rw [hl'] at hlj; simp at hlj; exact hlj.2), fun idx q hq hlq => hI.al idx q hq (by rw [hl'] at hlq; simp at hlq; exact hlq.2), ?_, by rw [hUeq]; exact hI.nh, hI.rest⟩
    · rw [hl', hI.he e he]
      have : e ≠ i := fun e' => by
        subst e'
        have hee : e ∈ D.eff := by rw [hI.split]; simp [he]
        rw [hD.eff] at hee
        obtain ⟨oe, hoe, hee⟩ := mem_idxs.1 hee
        rw [ho] at hoe; injection hoe with hoe; subst hoe
        simp [isEffB, hk] at hee
      simp [this]
    · rw [hfr, hd]
      exact hI.frame.put (dst := some t) hrr (Nat.le_refl _) hv hvl
    · rw [hrr n (Nat.lt_of_lt_of_le hn hI.len)]; exact hI.keep n hn
    · rw [hUeq, hfr]
      intro x hx
      refine mem_set_av hI.nf (VV.av_mono (fun n hn => ?_) hav) hx
      cases hh : Ul D l n with
      | false => rfl
      | true => rw [hsub n hh] at hn; cases hn
/-- A block is made. -/
theorem step_alloc (hD : DOk ops D) (hI : DInv Ds tab ops D κ S w0 r0 N0 l es done r fr H a w) {i : Nat} {o : Oper} (ho : ops[i]? = some o) (hr : ∀ p ∈ direct o, l p = true) (hli : l i = false) (hl' : ∀ k, l' k = (decide (k = i) || l k)) (hk : isAllocB o = true)
    (hnd : D.al.Pairwise (· < ·)) {next : Act → World → Prop} {Q : Exit → Act → World → Prop} (hn : ∀ r' a' w', DInv Ds tab ops D κ S w0 r0 N0 l' es done r' fr H a' w' → next a' w') :
    if Region.wanted o (yielded ops a.tmps) then o.wp P a w next Q ∨ (o.asks P a w ∧ LetsOut Q) else next (a.put o.dst undef) w := by
  have hin : i ∈ D.al := by rw [hD.al]; exact mem_idxs.2 ⟨o, ho, hk⟩
  obtain ⟨idx, hidx, hget⟩ := List.mem_iff_getElem.1 hin
  have hidx' : D.al[idx]? = some i := by rw [List.getElem?_eq_getElem hidx, hget]
  obtain ⟨o', T, cs, t, ho', hop, hd, hz, hone, hat, hslot⟩ := hI.al idx i hidx' hli
  rw [ho] at ho'; injection ho' with ho'; subst ho'
  have hg : o.guard = none := by
    unfold isAllocB at hk; split at hk
    · rename_i hgd _; exact hgd
    · cases hk
  have hsoft : softB o = true := by simp [softB, hk]
  have hlt : D.N0 + idx < H.length := by have := hI.alen; omega
  have ht : t < fr.length := by
    have := opB_get (allB_get hI.slots (lt_of_op ho)) ho
    simpa [hd] using this
  obtain ⟨z, hz1, hz2⟩ := Option.map_eq_some_iff.1 hz
  obtain ⟨inf, hi1, hi2⟩ := Option.bind_eq_some_iff.1 hz1
  subst hz2
  simp only [Region.wanted, hg, if_true]
  left
  have hrun : (execOp a.eval o).run P w = .ok (.value (.pointer (some ⟨w.heap.size, 0, none⟩))) (w.alloc (.cells z.cells.toList.toArray T)) := by
    simp [execOp, hop, Instr.alloc, zeroValue, typeInfo, hi1, hi2, newVar, newRow]
  refine wp_value hrun (hn (upd r (D.N0 + idx) ⟨w.heap.size, 0, 0, false, 0⟩) _ _ ?_)
  have hUp : Ul D l (D.N0 + idx) = true := by rw [Ul, Uof_at hidx']; simp [hli]
  have hU'p : Ul D l' (D.N0 + idx) = false := by rw [Ul, Uof_at hidx', hl']; simp
  have hUne : ∀ n, n ≠ D.N0 + idx → Ul D l' n = Ul D l n := fun n hn => by
    unfold Ul Uof
    split
    · rename_i q hq
      by_cases hle : Nat.ble D.N0 n = true
      · have : q ≠ i := fun e => by
          subst e
          obtain ⟨h1, e1⟩ := List.getElem?_eq_some_iff.1 hq
          obtain ⟨h2, e2⟩ := List.getElem?_eq_some_iff.1 hidx'
          have hle' : D.N0 ≤ n := by simpa [Nat.ble_eq] using hle
          rcases Nat.lt_trichotomy (n - D.N0) idx with h | h | h
          · have := List.pairwise_iff_getElem.1 hnd _ _ h1 h2 h; omega
          · omega
          · have := List.pairwise_iff_getElem.1 hnd _ _ h2 h1 h; omega
        simp [hl', this]
      · have hf : Nat.ble D.N0 n = false := Bool.eq_false_iff.2 hle
        simp only [hf, Bool.false_and]
    · rfl
  have hlenm : ∀ U : Nat → Bool, (maskH U H).length = H.length := fun U => maskH_len
  have hplain : ∀ c ∈ z.cells.toList.map ofConstC, c.nm = none ∧ c.one = true := fun c hc => by
    refine ⟨?_, List.all_eq_true.1 hone c hc⟩
    obtain ⟨u, _, rfl⟩ := List.mem_map.1 hc
    exact ofConstC_nm u
  have hheap := hI.heap.place (p := D.N0 + idx) (T := T) (cs := z.cells.toList.map ofConstC) (vs := z.cells.toList) (H' := maskH (Ul D l') H) (by rw [hlenm]; exact hlt) (by rw [maskH_at, hUp]; simp) hplain (ofConstL_rel _) (by rw [hlenm, hlenm])
    (by rw [maskH_at, hU'p]; simpa using hat) (fun n hn => by rw [maskH_at, maskH_at, hUne n hn]) (fun n => Atom.av_mono (fun m hm => fun e => by rw [e, hUp] at hm; cases hm) (hI.nh n))
  have rne : ∀ n, n ≠ D.N0 + idx → upd r (D.N0 + idx) ⟨w.heap.size, 0, 0, false, 0⟩ n = r n := fun n hn => if_neg hn
  have hW't : Wl ops l' t = false := by
    cases hW : Wl ops l' t with
    | false => rfl
    | true =>
      obtain ⟨k, ok, hk', hs', hd', hlk⟩ := Wl_of hW
      by_cases e : k = i
      · subst e; rw [hl'] at hlk; simp at hlk
      · exact absurd (hd'.trans hd.symm) (hD.chk.uniq i o ho hsoft k ok hk' e)
  have hWo : ∀ m, m ≠ t → Wl ops l' m = Wl ops l m := fun m hm => by
    rw [Bool.eq_iff_iff]
    constructor
    · intro h
      obtain ⟨k, ok, hk', hs', hd', hlk⟩ := Wl_of h
      rw [hl'] at hlk
      simp only [Bool.or_eq_false_iff, decide_eq_false_iff_not] at hlk
      exact Wl_true hk' hs' hd' hlk.2
    · intro h
      obtain ⟨k, ok, hk', hs', hd', hlk⟩ := Wl_of h
      refine Wl_true hk' hs' hd' ?_
      rw [hl']
      have : k ≠ i := fun e => by
        subst e
        rw [ho] at hk'; injection hk' with hk'; subst hk'
        exact hm (by rw [hd] at hd'; injection hd' with hd'; exact hd'.symm)
      simp [this, hlk]
  have hfr : maskFr (Wl ops l') fr = (maskFr (Wl ops l) fr).set t (.c (.ptr (D.N0 + idx) 0 0)) := by
    rw [← maskFr_put ht hW't hWo]
    congr 1
    apply List.ext_getElem?
    intro m
    rw [List.getElem?_set]
    by_cases e : t = m
    · subst e
      rw [List.getD_eq_getElem?_getD, List.getElem?_eq_getElem ht] at hslot
      simp [ht]
      simpa using hslot
    · rw [if_neg e]
  have hmask : ∀ n, Ul D l' n = true → Ul D l n = true := fun n hn => by
    by_cases e : n = D.N0 + idx
    · rw [e]; exact hUp
    · rw [← hUne n e]; exact hn
  refine ⟨hI.split, fun e he => by rw [hl', hI.hd e he]; simp, fun e he => ?_, closed_step hI.closed ho hr hl', hI.slots, hheap, ?_, hI.len, fun n hn => ?_, hI.lenN, hI.alen, fun j hj hlj => hI.st j hj (by rw [hl'] at hlj; simp at hlj; exact hlj.2), fun idx q hq hlq => hI.al idx q hq (by rw [hl'] at hlq; simp at hlq; exact hlq.2), fun x hx => ?_, fun n => ?_, hI.rest⟩
  · rw [hl', hI.he e he]
    have : e ≠ i := fun e' => by
      subst e'
      have hee : e ∈ D.eff := by rw [hI.split]; simp [he]
      rw [hD.eff] at hee
      obtain ⟨oe, hoe, hee⟩ := mem_idxs.1 hee
      rw [ho] at hoe; injection hoe with hoe; subst hoe
      simp [isEffB, hk] at hee
    simp [this]
  · rw [hfr, hd]
    have hf := hI.frame
    have h1 : FrOK Ds (upd r (D.N0 + idx) ⟨w.heap.size, 0, 0, false, 0⟩) H.length (maskFr (Wl ops l) fr) a :=
      ⟨Are.av (V := fun n => Ul D l n = false) (fun n hn => rne n (fun e => by rw [e, hUp] at hn; cases hn)) hI.nf hf.is, hf.lt, hf.defers⟩
    exact h1.put (dst := some t) (v := .c (.ptr (D.N0 + idx) 0 0)) (fun _ _ => rfl) (Nat.le_refl _) (by simp [VV.is, V1.is, C.is, upd_new]) (fun n hn => by simp [C.nm] at hn; subst hn; exact hlt)
  · rw [rne n (by have := hI.lenN; omega)]; exact hI.keep n hn
  · rw [hfr] at hx
    have hptr : (VV.c (.ptr (D.N0 + idx) 0 0)).av fun n => Ul D l' n = false := fun n hn => by simp [C.nm] at hn; subst hn; exact hU'p
    refine mem_set_av (fun x hx => VV.av_mono (fun n hn => ?_) (hI.nf x hx)) hptr hx
    cases hh : Ul D l' n with
    | false => rfl
    | true => rw [hmask n hh] at hn; cases hn
  · rw [maskH_at]
    by_cases e : n = D.N0 + idx
    · subst e
      rw [hU'p]
      simp only [Bool.false_eq_true, if_false, hat]
      exact fun c hc m hm => by rw [(hplain c hc).1] at hm; cases hm
    · rw [hUne n e]
      have := hI.nh n
      rw [maskH_at] at this
      exact Atom.av_mono (fun m hm => by
        cases hh : Ul D l' m with
        | false => rfl
        | true => rw [hmask m hh] at hm; cases hm) this
end step
end Go.Proofs.YtndlpbheifalhaaGreatDoor.E
end
section
namespace Go.Proofs.YtndlpbheifalhaaGreatDoor.E
set_option linter.unusedVariables false
set_option linter.unusedSimpArgs false
variable {K : Kinds} {P : Program} {S : Nat → Prop} {w0 w : World} {r : Nat → Ref} {H : VH K} {Ds : List Deferred}
theorem chainB_head {A : List Nat} : ∀ {done es : List Nat} {e0 : Nat}, chainB A (done ++ e0 :: es) = true → ∀ e ∈ es, hasB A e e0 = true
  | [], es, e0, h, e, he => by
    simp only [List.nil_append, chainB, Bool.and_eq_true] at h
    exact List.all_eq_true.1 h.1 e he
  | d :: done, es, e0, h, e, he => by
    simp only [List.cons_append, chainB, Bool.and_eq_true] at h
    exact chainB_head h.2 e he
section step
variable {tab : Tab P K} {ops : Array Oper} {D : DPlan} {κ : List VV → VH K → Prop} {r0 : Nat → Ref} {N0 : Nat} {l l' : Nat → Bool} {es done : List Nat} {fr : List VV} {a : Act}
/-- An operation that acts runs. -/
theorem step_effect (hK : K.Ok) (hD : DOk ops D) (hch : chainB D.A D.eff = true) (hI : DInv Ds tab ops D κ S w0 r0 N0 l es done r fr H a w) {i : Nat} {o : Oper} (ho : ops[i]? = some o) (hr : ∀ p ∈ direct o, l p = true) (hli : l i = false) (hl' : ∀ k, l' k = (decide (k = i) || l k)) (hk : isEffB o = true)
    {next : Act → World → Prop} {Q : Exit → Act → World → Prop} (hn : ∀ es' done' r' fr' H' a' w', DInv Ds tab ops D κ S w0 r0 N0 l' es' done' r' fr' H' a' w' → next a' w') :
    if Region.wanted o (yielded ops a.tmps) then o.wp P a w next Q ∨ (o.asks P a w ∧ LetsOut Q) else next (a.put o.dst undef) w := by
  have hie : i ∈ D.eff := by rw [hD.eff]; exact mem_idxs.2 ⟨o, ho, hk⟩
  have hies : i ∈ es := by
    rw [hI.split] at hie
    rcases List.mem_append.1 hie with h | h
    · rw [hI.hd i h] at hli; cases hli
    · exact h
  obtain ⟨es', rfl⟩ : ∃ es', es = i :: es' := by
    cases es with
    | nil => cases hies
    | cons e0 es' =>
      rcases List.mem_cons.1 hies with rfl | h
      · exact ⟨es', rfl⟩
      · have := chainB_head (by rw [← hI.split]; exact hch) i h
        rw [hD.A] at this
        have h1 := closed_anc hI.closed i o ho hr e0 this
        rw [hI.he e0 (by simp)] at h1; cases h1
  have hns : softB o = false := by
    simp only [isEffB, Bool.and_eq_true, Bool.not_eq_true'] at hk
    simp [softB, hk.1, hk.2]
  have hrest := hI.rest
  simp only [Rest, ho] at hrest
  have hsub := U_sub hD hI.closed ho hr
  have hWu := W_uses hD hI.closed ho hr
  rw [← maskH_sub hsub, evVal_uses tab (fr' := maskFr (Wl ops l) fr) (fun t ht => by rw [maskFr_getD, hWu t ht]; simp)] at hrest
  have hlenm : (maskH (D.U i) (maskH (Ul D l) H)).length = H.length := by rw [maskH_len, maskH_len]
  refine evVal_sound hK tab (hI.heap.mask (D.U i)) (by rw [hlenm]; exact hI.frame) hrest fun v' w' ha => ?_
  obtain ⟨r', vv, Hm, hkk, hv, hvl, hle, hrr, hh⟩ := After.unmask hI.heap ha
  obtain ⟨hg, hstage⟩ := guardP_iff.1 hkk
  simp only [Bool.and_eq_true] at hg
  obtain ⟨hgv, hgH⟩ := hg
  rw [maskH_len] at hle hrr
  -- nothing that is told anew
  have hWeq : Wl ops l' = Wl ops l := by
    funext t
    rw [Bool.eq_iff_iff]
    constructor
    · intro h
      obtain ⟨k, ok, hk', hs', hd', hlk⟩ := Wl_of h
      rw [hl'] at hlk
      simp only [Bool.or_eq_false_iff, decide_eq_false_iff_not] at hlk
      exact Wl_true hk' hs' hd' hlk.2
    · intro h
      obtain ⟨k, ok, hk', hs', hd', hlk⟩ := Wl_of h
      refine Wl_true hk' hs' hd' ?_
      rw [hl']
      have : k ≠ i := fun e => by
        subst e
        rw [ho] at hk'; injection hk' with hk'; subst hk'
        rw [hns] at hs'; cases hs'
      simp [this, hlk]
  have notal : ∀ q ∈ D.al, q ≠ i := fun q hq e => by
    subst e
    rw [hD.al] at hq
    obtain ⟨oq, hoq, hqq⟩ := mem_idxs.1 hq
    rw [ho] at hoq; injection hoq with hoq; subst hoq
    simp [softB, hqq] at hns
  have notrd : ∀ j ∈ D.rd, j ≠ i := fun q hq e => by
    subst e
    rw [hD.rd] at hq
    obtain ⟨oq, hoq, hqq⟩ := mem_idxs.1 hq
    rw [ho] at hoq; injection hoq with hoq; subst hoq
    simp [softB, hqq] at hns
  have hUeq : Ul D l' = Ul D l := by
    funext n
    unfold Ul Uof
    split
    · rename_i q hq
      simp [hl', notal q (List.mem_of_getElem? hq)]
    · rfl
  have idone : i ∉ done := fun h => by rw [hI.hd i h] at hli; cases hli
  have ipw : D.eff.Pairwise (· < ·) := by rw [hD.eff]; exact List.pairwise_lt_range.filter _
  have ines : i ∉ es' := fun h => by
    rw [hI.split] at ipw
    have := (List.pairwise_append.1 ipw).2.1
    have := (List.pairwise_cons.1 this).1 i h
    omega
  have hdone' : ∀ e ∈ done ++ [i], ∀ j, hasB D.A e j = true → l' j = true := fun e he j hj => by
    rw [hD.A] at hj
    rw [hl']
    simp only [Bool.or_eq_true]
    right
    rcases List.mem_append.1 he with he | he
    · have hel := hI.hd e he
      have hee : e ∈ D.eff := by rw [hI.split]; simp [he]
      rw [hD.eff] at hee
      obtain ⟨oe, hoe, _⟩ := mem_idxs.1 hee
      exact closed_anc hI.closed e oe hoe (fun p hp => hI.closed e oe hoe hel p hp) j hj
    · simp at he; subst he
      exact closed_anc hI.closed e o ho hr j hj
  have hnew : ∀ j ∈ D.fresh (some done) (done ++ [i]), l' j = false := fun j hj => by
    obtain ⟨hjr, h2⟩ := List.mem_filter.1 hj
    simp only [Bool.and_eq_true, Bool.not_eq_true', DPlan.boundO] at h2
    obtain ⟨hb1, hb2⟩ := h2
    have hji : hasB D.A j i = true := by
      unfold DPlan.bound at hb1 hb2
      obtain ⟨e, he, hne⟩ := List.all_eq_false.1 hb2
      simp only [Bool.or_eq_true, Bool.not_eq_true', not_or, Bool.not_eq_false] at hne
      have := List.all_eq_true.1 hb1 e he
      simp only [Bool.or_eq_true, Bool.not_eq_true', List.contains_eq_mem, decide_eq_true_eq, List.mem_append] at this hne
      rcases this with h | h | h
      · rw [h] at hne; cases hne.1
      · exact absurd h hne.2
      · simp at h; subst h; exact hne.1
    cases hh : l' j with
    | false => rfl
    | true =>
      rw [hl'] at hh
      simp only [Bool.or_eq_true, decide_eq_true_eq] at hh
      rcases hh with h | h
      · exact absurd h (notrd j hjr)
      · rw [hD.A] at hji
        rw [hD.rd] at hjr
        obtain ⟨oj, hoj, _⟩ := mem_idxs.1 hjr
        have := closed_anc hI.closed j oj hoj (fun p hp => hI.closed j oj hoj h p hp) i hji
        rw [this] at hli; cases hli
  have hput_len : (putF fr o.dst vv).length = fr.length := by unfold putF; split <;> simp
  have hput : ∀ t, o.dst ≠ some t → (putF fr o.dst vv).getD t .any = fr.getD t .any := fun t ht => by
    unfold putF
    split
    · rename_i d hd
      simp only [List.getD_eq_getElem?_getD, List.getElem?_set]
      rw [if_neg (fun e => ht (by rw [hd, e]))]
    · rfl
  have dst_ne : ∀ k ok, ops[k]? = some ok → softB ok = true → ∀ t, ok.dst = some t → o.dst ≠ some t := fun k ok hk' hs' t ht e => by
    have hne : i ≠ k := fun e' => by
      subst e'
      rw [ho] at hk'; injection hk' with hk'; subst hk'
      rw [hns] at hs'; cases hs'
    exact hD.chk.uniq k ok hk' hs' i o ho hne (e.trans ht.symm)
  obtain ⟨fr2, hl2, hm2, ha2, hst2, hr2⟩ := enter_stage hD (fr := putF fr o.dst vv) (by rw [hput_len]; exact hI.slots) hstage (l := l') hnew hdone' (fun j hj hlj hbj => by
    have hlj' : l j = false := by rw [hl'] at hlj; simp at hlj; exact hlj.2
    obtain ⟨oj, tj, hoj, hdj, hevj, havj⟩ := hI.st j hj hlj' hbj
    have hjr := hj
    rw [hD.rd] at hjr
    obtain ⟨oj', hoj', hrdj⟩ := mem_idxs.1 hjr
    rw [hoj] at hoj'; injection hoj' with hoj'; subst hoj'
    have hsj : softB oj = true := by simp [softB, hrdj]
    have hslot : (putF fr o.dst vv).getD tj .any = fr.getD tj .any := hput tj (dst_ne j oj hoj hsj tj hdj)
    refine ⟨oj, tj, hoj, hdj, fun hm => ?_, by rw [hslot]; exact havj⟩
    rw [hslot, evVal_uses tab (fr' := fr) (fun t ht => hput t fun e => ?_)]
    · exact pure_val tab hrdj hm hevj
    · rcases hD.chk.pure j oj hoj hrdj hm i o ho hk t e ht with h | h
      · have := closed_anc hI.closed i o ho hr j h
        rw [this] at hlj'; cases hlj'
      · simp only [DPlan.boundO, DPlan.bound] at hbj
        have := List.all_eq_true.1 hbj i hie
        rw [hD.A, h] at this
        simp at this
        exact idone this)
  have hWdst : ∀ t, o.dst = some t → Wl ops l t = false := fun t ht => by
    cases hW : Wl ops l t with
    | false => rfl
    | true =>
      obtain ⟨k, ok, hk', hs', hd', _⟩ := Wl_of hW
      exact absurd ht (dst_ne k ok hk' hs' t hd')
  have hfr1 : maskFr (Wl ops l) (putF fr o.dst vv) = putF (maskFr (Wl ops l) fr) o.dst vv := by
    cases hd : o.dst with
    | none => rfl
    | some t =>
      have ht : t < fr.length := by
        have := opB_get (allB_get hI.slots (lt_of_op ho)) ho
        simpa [hd] using this
      exact maskFr_put ht (hWdst t hd) (fun _ _ => rfl) vv
  have hvav : vv.av fun n => Ul D l n = false := VV.av_mono (fun n hn => by
    cases hh : Ul D l n with
    | false => rfl
    | true => rw [hsub n hh] at hn; cases hn) (VV.nmAll_av hgv)
  have hH2 : restore (fun n => D.U i n && Nat.blt n (maskH (Ul D l) H).length) (maskH (Ul D l) H) Hm = maskH (Ul D l) (restore (fun n => D.U i n && Nat.blt n H.length) H Hm) := by
    refine VH_ext (by rw [restore_len, maskH_len, restore_len]) fun n hn => ?_
    rw [restore_len] at hn
    rw [restore_at n hn, maskH_at, maskH_at, restore_at n hn, maskH_len]
    cases hU : D.U i n with
    | true =>
      cases hb : Nat.blt n H.length with
      | true => simp
      | false =>
        simp only [Bool.and_false, Bool.false_eq_true, if_false]
        have : Ul D l n = false := by
          cases hh : Ul D l n with
          | false => rfl
          | true =>
            obtain ⟨idx, q, hq, rfl, _⟩ := Uof_of hh
            have h1 := (List.getElem?_eq_some_iff.1 hq).1
            have := hI.alen
            rw [show Nat.blt (D.N0 + idx) H.length = true by rw [Nat.blt_eq]; omega] at hb; cases hb
        simp [this]
    | false =>
      simp only [Bool.false_and, Bool.false_eq_true, if_false]
      have : Ul D l n = false := by
        cases hh : Ul D l n with
        | false => rfl
        | true => rw [hsub n hh] at hU; cases hU
      simp [this]
  rw [hH2] at hh
  refine hn es' (done ++ [i]) r' fr2 (restore (fun n => D.U i n && Nat.blt n H.length) H Hm) _ _ ⟨by rw [hI.split]; simp, fun e he => ?_, fun e he => ?_, closed_step hI.closed ho hr hl', by rw [hl2, hput_len]; exact hI.slots, by rw [hUeq]; exact hh, ?_, by rw [restore_len]; have := hI.len; omega, fun n hn' => ?_, hI.lenN, by rw [restore_len]; have := hI.alen; omega, hst2, fun idx q hq hlq => ?_, ?_, fun n => ?_, hr2⟩
  · rw [hl']
    rcases List.mem_append.1 he with he | he
    · rw [hI.hd e he]; simp
    · simp at he; simp [he]
  · rw [hl', hI.he e (by simp [he])]
    have : e ≠ i := fun e' => by subst e'; exact ines he
    simp [this]
  · rw [hm2, hWeq, hfr1, restore_len]
    exact hI.frame.put hrr hle hv hvl o.dst
  · rw [hrr n (Nat.lt_of_lt_of_le hn' hI.len)]; exact hI.keep n hn'
  · have hlq' : l q = false := by rw [hl'] at hlq; simp at hlq; exact hlq.2
    obtain ⟨oq, T, cs, t, hoq, hop, hd, hz, hone, hat, hslot⟩ := hI.al idx q hq hlq'
    have hqm : q ∈ D.al := List.mem_of_getElem? hq
    have hqs : softB oq = true := by
      have := hqm
      rw [hD.al] at this
      obtain ⟨oq', hoq', hqq⟩ := mem_idxs.1 this
      rw [hoq] at hoq'; injection hoq' with hoq'; subst hoq'
      simp [softB, hqq]
    have hlt : D.N0 + idx < H.length := by
      have := (List.getElem?_eq_some_iff.1 hq).1
      have := hI.alen
      omega
    refine ⟨oq, T, cs, t, hoq, hop, hd, hz, hone, ?_, ?_⟩
    · rw [restore_at _ (by omega)]
      have hU : D.U i (D.N0 + idx) = true := hsub _ (by rw [Ul, Uof_at hq]; simp [hlq'])
      have hb : Nat.blt (D.N0 + idx) H.length = true := by rw [Nat.blt_eq]; exact hlt
      simp [hU, hb, hat]
    · rw [ha2 q hqm oq hoq t hd, hput t (dst_ne q oq hoq hqs t hd)]; exact hslot
  · rw [hm2, hWeq, hUeq, hfr1]
    intro x hx
    cases hd : o.dst with
    | none => rw [hd] at hx; exact hI.nf x hx
    | some t => rw [hd] at hx; exact mem_set_av hI.nf hvav hx
  · rw [hUeq, maskH_at]
    split
    · trivial
    · rename_i hUn
      rcases Nat.lt_or_ge n Hm.length with hlt | hge
      · rw [restore_at n hlt]
        split
        · have := hI.nh n
          rw [maskH_at, if_neg hUn] at this
          exact this
        · have hmem : at_ Hm n ∈ Hm := by
            simp only [at_, List.getD_eq_getElem?_getD, List.getElem?_eq_getElem hlt, Option.getD_some]; exact List.getElem_mem hlt
          refine Atom.av_mono (fun m hm => ?_) (Atom.nmAll_av (List.all_eq_true.1 hgH _ hmem))
          cases hh' : Ul D l m with
          | false => rfl
          | true => rw [hsub m hh'] at hm; cases hm
      · rw [at_ge (by rw [restore_len]; exact hge)]; trivial
end step
theorem allocAll_ex {ops : Array Oper} {c : List VV → VH K → Prop} : ∀ (qs : List Nat) (fr : List VV) (H : VH K), (∀ q ∈ qs, ∃ o t, ops[q]? = some o ∧ o.dst = some t ∧ t < fr.length) → (∀ q ∈ qs, ∀ q' ∈ qs, q ≠ q' → ∀ o o', ops[q]? = some o → ops[q']? = some o' → o.dst ≠ o'.dst) → qs.Nodup → allocAll P ops qs fr H c →
    ∃ fr1 H1, c fr1 H1 ∧ fr1.length = fr.length ∧ H1.length = H.length + qs.length ∧ (∀ n, n < H.length → at_ H1 n = at_ H n) ∧ (∀ t, (∀ q ∈ qs, ∀ o, ops[q]? = some o → o.dst ≠ some t) → fr1.getD t .any = fr.getD t .any) ∧
      ∀ idx q, qs[idx]? = some q → ∃ o T cs t, ops[q]? = some o ∧ o.op = .alloc T ∧ o.dst = some t ∧ zeroOf P T = some cs ∧ cs.all C.one = true ∧ at_ H1 (H.length + idx) = .cells T cs ∧ fr1.getD t .any = .c (.ptr (H.length + idx) 0 0)
  | [], fr, H, _, _, _, h => ⟨fr, H, h, rfl, rfl, fun _ _ => rfl, fun _ _ => rfl, fun idx q h => by simp at h⟩
  | q :: qs, fr, H, hq, hu, hnd, h => by
    obtain ⟨o, t, ho, hd, ht⟩ := hq q (by simp)
    obtain ⟨hnq, hnd'⟩ := List.nodup_cons.1 hnd
    simp only [allocAll, ho] at h
    split at h
    · rename_i T hop
      split at h
      · rename_i cs hz
        obtain ⟨hone, h⟩ := guardP_iff.1 h
        simp only [hd, putF] at h
        obtain ⟨fr1, H1, hc, hl1, hL1, hkeep, hkf, hw⟩ := allocAll_ex qs (fr.set t (.c (.ptr H.length 0 0))) (H ++ [.cells T cs]) (fun q' hq' => by
          obtain ⟨o', t', h1, h2, h3⟩ := hq q' (by simp [hq'])
          exact ⟨o', t', h1, h2, by simpa using h3⟩) (fun a ha b hb => hu a (by simp [ha]) b (by simp [hb])) hnd' h
        have nod : ∀ q' ∈ qs, ∀ o', ops[q']? = some o' → o'.dst ≠ some t := fun q' hq' o' ho' e => by
          have hne : q' ≠ q := fun e' => hnq (e' ▸ hq')
          exact hu q' (by simp [hq']) q (by simp) hne o' o ho' ho (e.trans hd.symm)
        refine ⟨fr1, H1, hc, by simpa using hl1, by rw [hL1]; simp; omega, fun n hn => ?_, fun t' ht' => ?_, fun idx q' hq' => ?_⟩
        · rw [hkeep n (by simp; omega), at_append_old hn]
        · rw [hkf t' (fun q' hq' => ht' q' (by simp [hq'])), getD_set ht, if_neg (fun e => ht' q (by simp) o ho (by rw [hd, e]))]
        · cases idx with
          | zero =>
            simp at hq'; subst hq'
            refine ⟨o, T, cs, t, ho, hop, hd, hz, hone, ?_, ?_⟩
            · rw [Nat.add_zero, hkeep _ (by simp), at_append_new]
            · rw [hkf t nod, getD_set ht, if_pos rfl]; rfl
          | succ idx =>
            have := hw idx q' (by simpa using hq')
            simpa [Nat.add_assoc, Nat.add_comm 1 idx] using this
      · exact h.elim
    · exact h.elim
theorem HeapOK.goneExt (st : HeapOK S w0 r H w) {H' : VH K} (hl : H.length ≤ H'.length) (h : ∀ n, at_ H' n = at_ H n) : HeapOK S w0 r H' w := by
  have hb : ∀ n, blkOf r H' n = blkOf r H n := fun n => by unfold blkOf; rw [h]
  exact ⟨fun n => by rw [h]; exact st.ok n, fun n => by rw [h]; exact Atom.lt_mono (st.lt n) hl, fun n m b hne h1 h2 => st.inj n m b hne (by rw [← hb]; exact h1) (by rw [← hb]; exact h2), fun n b h1 => st.own n b (by rw [← hb]; exact h1), fun n m b h1 h2 => st.ro n m b (by unfold rbOf at h1 ⊢; rw [← h]; exact h1) (by rw [← hb]; exact h2), st.out⟩
theorem kind_cases (o : Oper) : isAllocB o = true ∨ isRdB o = true ∨ isEffB o = true := by
  unfold isEffB
  cases isAllocB o <;> cases isRdB o <;> simp
/-- A region that draws its order comes to what its evaluation says. -/
theorem evDraw_sound (hK : K.Ok) (tab : Tab P K) (hm : P.follows .mixedOrders = true) {id : Nat} {ops : Array Oper} {r0 : Nat → Ref} {N0 : Nat} {fr : List VV} {a : Act} (st : StOK Ds S w0 r0 N0 r fr H a w) {κ : List VV → VH K → Prop} (h : evDraw tab ops fr H κ)
    {Q : Exit → Act → World → Prop} (hq : ∀ r fr H a w, κ fr H → StOK Ds S w0 r0 N0 r fr H a w → Q .normal a w) : (Code.region id ops true).wp P Q a w := by
  obtain ⟨hg, h⟩ := guardP_iff.1 h
  simp only [Bool.and_eq_true] at hg
  obtain ⟨hchk, hchain, hslots⟩ := hg
  have hC := chk_of hchk
  have hD : DOk ops (planOf ops H.length) := ⟨hC, rfl, rfl, rfl, rfl⟩
  have alp : (idxs ops isAllocB).Pairwise (· < ·) := List.pairwise_lt_range.filter _
  have aln : (idxs ops isAllocB).Nodup := alp.imp (fun h => Nat.ne_of_lt h)
  have aldst : ∀ q ∈ idxs ops isAllocB, ∃ o t, ops[q]? = some o ∧ isAllocB o = true ∧ o.dst = some t ∧ t < fr.length := fun q hq => by
    obtain ⟨o, ho, hk⟩ := mem_idxs.1 hq
    have hds : ∃ t, o.dst = some t := by
      unfold isAllocB at hk; split at hk
      · rename_i t _ _ hd; exact ⟨_, hd⟩
      · cases hk
    obtain ⟨t, ht⟩ := hds
    have := opB_get (allB_get hslots (lt_of_op ho)) ho
    simp only [ht] at this
    exact ⟨o, t, ho, hk, ht, by simpa using this⟩
  obtain ⟨fr1, H1, hst, hl1, hL1, hk1, hf1, hw1⟩ := allocAll_ex (idxs ops isAllocB) fr H (fun q hq => by
    obtain ⟨o, t, h1, _, h2, h3⟩ := aldst q hq; exact ⟨o, t, h1, h2, h3⟩) (fun q hq q' hq' hne o o' ho ho' => by
    obtain ⟨_, _, h1, hk, _⟩ := aldst q' hq'
    rw [ho'] at h1; injection h1 with h1; subst h1
    exact hC.uniq q' o' ho' (by simp [softB, hk]) q o ho hne) aln h
  let l0 : Nat → Bool := fun _ => false
  obtain ⟨fr2, hl2, hm2, ha2, hst2, hr2⟩ := enter_stage hD (by rw [hl1]; exact hslots) hst (l := l0) (fun _ _ => rfl) (fun e he => by cases he) (fun j hj _ hb => by cases hb)
  have hU0 : ∀ n, Ul (planOf ops H.length) l0 n = true ↔ H.length ≤ n ∧ n < H1.length := fun n => by
    constructor
    · intro hn
      obtain ⟨idx, q, hq, rfl, _⟩ := Uof_of hn
      have := (List.getElem?_eq_some_iff.1 hq).1
      have h2 : (planOf ops H.length).al = idxs ops isAllocB := rfl
      rw [h2] at this
      have h3 : (planOf ops H.length).N0 = H.length := rfl
      rw [h3]; omega
    · rintro ⟨h1, h2⟩
      have hlt : n - H.length < (idxs ops isAllocB).length := by omega
      have := Uof_mk (N0 := H.length) (p := fun q => !l0 q) (List.getElem?_eq_getElem hlt) rfl
      rw [show H.length + (n - H.length) = n by omega] at this
      exact this
  have hmask : ∀ n, at_ (maskH (Ul (planOf ops H.length) l0) H1) n = at_ H n := fun n => by
    rw [maskH_at]
    rcases Nat.lt_or_ge n H.length with h' | h'
    · rw [if_neg (fun e => by have := (hU0 n).1 e; omega), hk1 n h']
    · rw [at_ge h']
      split
      · rfl
      · rename_i hne
        exact at_ge (Nat.not_lt.1 fun hlt => hne ((hU0 n).2 ⟨h', hlt⟩))
  have hfrm : ∀ t, ((maskFr (Wl ops l0) fr2).getD t .any) = .any ∨ ((maskFr (Wl ops l0) fr2).getD t .any) = fr.getD t .any := fun t => by
    rw [hm2, maskFr_getD]
    cases hW : Wl ops l0 t with
    | true => exact .inl rfl
    | false =>
      right
      simp only [Bool.false_eq_true, if_false]
      refine hf1 t fun q hq o ho e => ?_
      obtain ⟨o', _, h1, hk, _⟩ := aldst q hq
      rw [ho] at h1; injection h1 with h1; subst h1
      rw [Wl_true ho (by simp [softB, hk]) e rfl] at hW; cases hW
  have hmem : ∀ x ∈ maskFr (Wl ops l0) fr2, x = .any ∨ x ∈ fr ∨ x = .any := fun x hx => by
    obtain ⟨t, ht, hxt⟩ := List.mem_iff_getElem.1 hx
    have := hfrm t
    rw [List.getD_eq_getElem?_getD, List.getElem?_eq_getElem ht, Option.getD_some, hxt] at this
    rcases this with h | h
    · exact .inl h
    · rw [List.getD_eq_getElem?_getD] at h
      rcases Nat.lt_or_ge t fr.length with h' | h'
      · rw [List.getElem?_eq_getElem h'] at h
        exact .inr (.inl (h ▸ List.getElem_mem h'))
      · rw [List.getElem?_eq_none h'] at h; exact .inl h
  have hlen2 : (maskFr (Wl ops l0) fr2).length = fr.length := by rw [maskFr_len, hl2, hl1]
  have hinit : DInv Ds tab ops (planOf ops H.length) κ S w0 r0 N0 l0 (idxs ops isEffB) [] r fr2 H1 a { w with drawn := w.drawn + 1 } := by
    refine ⟨rfl, fun e he => (by cases he), fun _ _ => rfl, fun _ _ _ h => (by cases h), (by rw [hl2, hl1]; exact hslots), (st.heap.drew).goneExt (by rw [maskH_len, hL1]; omega) hmask, ⟨?_, fun x hx => ?_, st.frame.defers⟩, by rw [hL1]; have := st.len; omega, st.keep, st.len, by show H.length + (idxs ops isAllocB).length ≤ _; omega, fun j hj hlj hb => hst2 j hj hlj hb, fun idx q hq _ => ?_, fun x hx => ?_, fun n => ?_, hr2⟩
    · have hla := st.frame.is.length
      refine Are.of_get (by rw [hlen2]; exact hla) fun t ht => ?_
      rcases hfrm t with h | h
      · rw [h]; trivial
      · rw [h]; exact st.frame.is.get t
    · rcases hmem x hx with rfl | h | rfl
      · trivial
      · exact VV.lt_mono (st.frame.lt x h) (by omega)
      · trivial
    · obtain ⟨o, T, cs, t, h1, h2, h3, h4, h5, h6, h7⟩ := hw1 idx q hq
      exact ⟨o, T, cs, t, h1, h2, h3, h4, h5, h6, by rw [ha2 q (List.mem_of_getElem? hq) o h1 t h3]; exact h7⟩
    · have hlt : ∀ n, n < H.length → Ul (planOf ops H.length) l0 n = false := fun n hn => by
        cases hh : Ul (planOf ops H.length) l0 n with
        | false => rfl
        | true => have := (hU0 n).1 hh; omega
      rcases hmem x hx with rfl | h | rfl
      · trivial
      · have := st.frame.lt x h
        cases x with
        | any => trivial
        | one x =>
          cases x with
          | c x => exact fun n hn => hlt n (this n hn)
          | agg l => exact fun c hc n hn => hlt n (this c hc n hn)
        | tup l =>
          intro c hc
          have := this c hc
          cases c with
          | c x => exact fun n hn => hlt n (this n hn)
          | agg l => exact fun c hc n hn => hlt n (this c hc n hn)
      · trivial
    · rw [hmask]
      have hlt : ∀ n, n < H.length → Ul (planOf ops H.length) l0 n = false := fun n hn => by
        cases hh : Ul (planOf ops H.length) l0 n with
        | false => rfl
        | true => have := (hU0 n).1 hh; omega
      have := st.heap.lt n
      cases hh : at_ H n with
      | cells T cs => rw [hh] at this; exact fun c hc m hm => hlt m ((this c hc).1 m hm)
      | _ => trivial
  refine region_inv (n := ops.size) (fun la a w => ∃ es done r fr H', DInv Ds tab ops (planOf ops H.length) κ S w0 r0 N0 (fun i => la.getD i false) es done r fr H' a w) hm rfl ⟨idxs ops isEffB, [], r, fr2, H1, ?_⟩ ?_ ?_
  · have : (fun i => (Array.replicate ops.size false).getD i false) = l0 := by
      funext i
      rw [Array.getD_eq_getD_getElem?, Array.getElem?_replicate]
      split <;> rfl
    rw [this]; exact hinit
  · rintro la a w i hsz ⟨es, done, r, fr, H', hI⟩ hi
    obtain ⟨h0, o, ho, hall⟩ := mem_ready.1 hi
    have hi' := lt_of_op ho
    have hli : la.getD i false = false := by
      rw [Array.getD_eq_getD_getElem?, Array.getElem?_eq_getElem (by omega)] at h0 ⊢
      simpa using h0
    have hdir : ∀ p ∈ direct o, (fun i => la.getD i false) p = true := fun p hp => by
      obtain ⟨e, he, rfl⟩ := List.mem_map.1 hp
      obtain ⟨he1, he2⟩ := List.mem_filter.1 he
      exact hall e (by simpa using he1) he2
    have hl' : ∀ k, (la.setIfInBounds i true).getD k false = (decide (k = i) || la.getD k false) := fun k => by
      rw [Array.getD_eq_getD_getElem?, Array.getD_eq_getD_getElem?, Array.getElem?_setIfInBounds]
      by_cases e : i = k
      · subst e; simp [show i < la.size by omega]
      · rw [if_neg e]; simp [Ne.symm e]
    unfold wpOp
    simp only [ho]
    rcases kind_cases o with hk | hk | hk
    · exact step_alloc hD hI ho hdir hli hl' hk alp (fun r' a' w' hI' => ⟨_, _, _, _, _, hI'⟩)
    · exact step_reader hK hD hI ho hdir hli hl' hk (fun r' a' w' hI' => ⟨_, _, _, _, _, hI'⟩)
    · exact step_effect hK hD hchain hI ho hdir hli hl' hk (fun es' done' r' fr' H'' a' w' hI' => ⟨_, _, _, _, _, hI'⟩)
  · rintro la a w hsz ⟨es, done, r, fr, H', hI⟩ hready
    have all : ∀ i, i < ops.size → la.getD i false = true := by
      intro i
      induction i using Nat.strongRecOn with
      | _ i ih =>
        intro hi
        cases hl : la.getD i false with
        | true => rfl
        | false =>
          have ho : ops[i]? = some ops[i] := by simp [hi]
          have : i ∈ Region.ready .any ops la := mem_ready.2 ⟨by
            rw [Array.getD_eq_getD_getElem?, Array.getElem?_eq_getElem (by omega)] at hl ⊢
            simpa using hl, ops[i], ho, fun e he hb => ih e.on (hC.lt i ops[i] ho e.on (List.mem_map.2 ⟨e, List.mem_filter.2 ⟨by simpa using he, hb⟩, rfl⟩)) (by
              have := hC.lt i ops[i] ho e.on (List.mem_map.2 ⟨e, List.mem_filter.2 ⟨by simpa using he, hb⟩, rfl⟩)
              omega)⟩
          rw [hready] at this; cases this
    have hes : es = [] := by
      cases es with
      | nil => rfl
      | cons e es =>
        have hee : e ∈ (planOf ops H.length).eff := by rw [hI.split]; simp
        obtain ⟨oe, hoe, _⟩ := mem_idxs.1 (show e ∈ idxs ops isEffB from hee)
        have := hI.he e (by simp)
        rw [all e (lt_of_op hoe)] at this; cases this
    subst hes
    have hU : ∀ n, Ul (planOf ops H.length) (fun i => la.getD i false) n = false := fun n => by
      cases hh : Ul (planOf ops H.length) (fun i => la.getD i false) n with
      | false => rfl
      | true =>
        obtain ⟨idx, q, hq, _, hp⟩ := Uof_of hh
        obtain ⟨oq, hoq, _⟩ := mem_idxs.1 (show q ∈ idxs ops isAllocB from List.mem_of_getElem? hq)
        simp only [all q (lt_of_op hoq)] at hp
        cases hp
    have hW : ∀ t, Wl ops (fun i => la.getD i false) t = false := fun t => by
      cases hh : Wl ops (fun i => la.getD i false) t with
      | false => rfl
      | true =>
        obtain ⟨k, o, hk, _, _, hl⟩ := Wl_of hh
        have := all k (lt_of_op hk)
        simp only [this] at hl; cases hl
    have e1 : maskH (Ul (planOf ops H.length) (fun i => la.getD i false)) H' = H' := VH_ext maskH_len fun n hn => by rw [maskH_at, hU n]; simp
    have e2 : maskFr (Wl ops (fun i => la.getD i false)) fr = fr := by
      apply List.ext_getElem?
      intro t
      rw [maskFr_get, hW t]
      cases fr[t]? <;> simp
    have hheap := hI.heap
    have hframe := hI.frame
    rw [e1] at hheap
    rw [e2] at hframe
    exact hq _ _ _ _ _ hI.rest ⟨hheap, hframe, hI.len, hI.keep⟩
end Go.Proofs.YtndlpbheifalhaaGreatDoor.E
end
