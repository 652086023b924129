/- Regions that draw their order, third part: the evaluation, and why it stands for every order. -/
import Derived.Test.YtndlpbheifalhaaGreatDoorEc
namespace Go.Proofs.YtndlpbheifalhaaGreatDoor.E
set_option linter.unusedVariables false
set_option linter.unusedSimpArgs false
variable {K : Kinds} {P : Program} {S : Nat → Prop} {w0 w : World} {r : Nat → Ref} {H : VH K}
def isAllocB (o : Oper) : Bool := match o.op, o.guard, o.dst with
  | .alloc _, none, some _ => true
  | _, _, _ => false
def isRdB (o : Oper) : Bool := isReader o.op && o.dst.isSome
def isEffB (o : Oper) : Bool := !isAllocB o && !isRdB o
def softB (o : Oper) : Bool := isAllocB o || isRdB o
def memB (o : Oper) : Bool := match o.op with
  | .load .. => true
  | .indexAddr .. => true
  | .slice .. => true
  | _ => false
def idxs (ops : Array Oper) (p : Oper → Bool) : List Nat := (List.range ops.size).filter fun i => match ops[i]? with | some o => p o | none => false
def uses (ops : Array Oper) (o : Oper) : List Nat := (o.op.operands.toList.filterMap fun | .tmp t => some t | _ => none) ++ (gslot ops o).toList
def hasB (A : List Nat) (i q : Nat) : Bool := (A.getD i 0).testBit q
def allB (n : Nat) (p : Nat → Bool) : Bool := (List.range n).all p
def opB (ops : Array Oper) (i : Nat) (p : Oper → Bool) : Bool := match ops[i]? with | some o => p o | none => true
def chkB (ops : Array Oper) (A : List Nat) (eff : List Nat) : Bool :=
  allB ops.size (fun i => opB ops i fun o =>
    (direct o).all (fun p => Nat.blt p i) &&
    ((uses ops o).all (fun t => allB ops.size fun k => opB ops k fun o' => !(softB o' && o'.dst == some t) || hasB A i k) &&
    ((!softB o || allB ops.size fun k => opB ops k fun o' => k == i || !(o'.dst == o.dst)) &&
    (!(isRdB o && !memB o) || eff.all fun e => opB ops e fun o' => !(match o'.dst with | some t => (uses ops o).contains t | none => false) || (hasB A e i || hasB A i e)))))
def chainB (A : List Nat) : List Nat → Bool
  | [] => true
  | e :: es => es.all (fun e' => hasB A e' e) && chainB A es
def Uof (al : List Nat) (N0 : Nat) (p : Nat → Bool) (n : Nat) : Bool := match al[n - N0]? with
  | some q => Nat.ble N0 n && p q
  | none => false
def C.nmAll (f : Nat → Bool) : C → Bool
  | .ptr n _ _ => f n
  | .slc n _ _ _ => f n
  | _ => true
def V1.nmAll (f : Nat → Bool) : V1 → Bool
  | .c x => x.nmAll f
  | .agg l => l.all (C.nmAll f)
def VV.nmAll (f : Nat → Bool) : VV → Bool
  | .one x => x.nmAll f
  | .tup l => l.all (V1.nmAll f)
  | .any => true
def Atom.nmAll (f : Nat → Bool) : Atom K → Bool
  | .cells _ cs => cs.all (C.nmAll f)
  | _ => true
theorem C.nmAll_av {f : Nat → Bool} {c : C} (h : c.nmAll f = true) : c.av fun n => f n = true := by
  intro n hn
  cases c <;> simp_all [C.nm, C.nmAll]
theorem VV.nmAll_av {f : Nat → Bool} {v : VV} (h : v.nmAll f = true) : v.av fun n => f n = true := by
  have h1 : ∀ x : V1, x.nmAll f = true → x.av fun n => f n = true := fun x hx => by
    cases x with
    | c x => exact C.nmAll_av hx
    | agg l => exact fun c hc => C.nmAll_av (List.all_eq_true.1 hx c hc)
  cases v with
  | one x => exact h1 x h
  | tup l => exact fun c hc => h1 c (List.all_eq_true.1 h c hc)
  | any => trivial
theorem Atom.nmAll_av {f : Nat → Bool} {a : Atom K} (h : a.nmAll f = true) : a.av fun n => f n = true := by
  cases a with
  | cells T cs => exact fun c hc => C.nmAll_av (List.all_eq_true.1 h c hc)
  | _ => trivial
theorem V1.av_mono {V W : Nat → Prop} (hw : ∀ n, V n → W n) {x : V1} (h : x.av V) : x.av W := by
  cases x with
  | c x => exact fun n hn => hw n (h n hn)
  | agg l => exact fun c hc n hn => hw n (h c hc n hn)
theorem VV.av_mono {V W : Nat → Prop} (hw : ∀ n, V n → W n) {v : VV} (h : v.av V) : v.av W := by
  cases v with
  | one x => exact V1.av_mono hw h
  | tup l => exact fun c hc => V1.av_mono hw (h c hc)
  | any => trivial
theorem Atom.av_mono {V W : Nat → Prop} (hw : ∀ n, V n → W n) {a : Atom K} (h : a.av V) : a.av W := by
  cases a with
  | cells T cs => exact fun c hc n hn => hw n (h c hc n hn)
  | _ => trivial
def bindB (v : VV) (k : VV → Prop) : Prop := match v with
  | .one (.c (.bool b)) => ite2 b (k (.c (.bool true))) (k (.c (.bool false)))
  | v => k v
theorem bindB_at {v : VV} {k : VV → Prop} (h : bindB v k) : k v := by
  unfold bindB at h
  split at h
  · rcases ite2_of h with ⟨rfl, h⟩ | ⟨rfl, h⟩ <;> exact h
  · exact h
structure DPlan where
  A : List Nat
  eff : List Nat
  al : List Nat
  rd : List Nat
  N0 : Nat
def planOf (ops : Array Oper) (N0 : Nat) : DPlan := ⟨ancs ops, idxs ops isEffB, idxs ops isAllocB, idxs ops isRdB, N0⟩
def DPlan.U (D : DPlan) (i : Nat) : Nat → Bool := Uof D.al D.N0 fun q => !hasB D.A i q
/-- All effects that j waits for are done. -/
def DPlan.bound (D : DPlan) (done : List Nat) (j : Nat) : Bool := D.eff.all fun e => !hasB D.A j e || done.contains e
def DPlan.boundO (D : DPlan) (prev : Option (List Nat)) (j : Nat) : Bool := match prev with
  | some p => D.bound p j
  | none => false
def DPlan.fresh (D : DPlan) (prev : Option (List Nat)) (done : List Nat) : List Nat := D.rd.filter fun j => D.bound done j && !D.boundO prev j
def DPlan.again (D : DPlan) (ops : Array Oper) (prev : Option (List Nat)) (done : List Nat) : List Nat := D.rd.filter fun j => D.boundO prev j && (opB ops j memB && !done.any fun e => hasB D.A e j)
def bindAll (tab : Tab P K) (ops : Array Oper) (D : DPlan) (H : VH K) : List Nat → List VV → (List VV → Prop) → Prop
  | [], fr, c => c fr
  | j :: js, fr, c => match ops[j]? with
    | some o => evVal tab ops fr o (maskH (D.U j) H) fun v _ => guardP (v.nmAll fun n => !D.U j n) (bindB v fun v => bindAll tab ops D H js (putF fr o.dst v) c)
    | none => False
def recheck (tab : Tab P K) (ops : Array Oper) (D : DPlan) (H : VH K) (fr : List VV) : List Nat → Prop
  | [] => True
  | j :: js => (match ops[j]? with
    | some o => evVal tab ops fr o (maskH (D.U j) H) fun v _ => v = (match o.dst with | some t => fr.getD t .any | none => .any)
    | none => False) ∧ recheck tab ops D H fr js
/-- What is still to be shown behind a stage's readers. -/
def stageD (tab : Tab P K) (ops : Array Oper) (D : DPlan) (κ : List VV → VH K → Prop) : List Nat → Option (List Nat) → List Nat → List VV → VH K → Prop
  | [], prev, done, fr, H => bindAll tab ops D H (D.fresh prev done) fr fun fr' => recheck tab ops D H fr' (D.again ops prev done) ∧ κ fr' H
  | e :: es, prev, done, fr, H => bindAll tab ops D H (D.fresh prev done) fr fun fr' => recheck tab ops D H fr' (D.again ops prev done) ∧
    match ops[e]? with
    | some o => evVal tab ops fr' o (maskH (D.U e) H) fun v Hm => guardP ((v.nmAll fun n => !D.U e n) && Hm.all (Atom.nmAll fun n => !D.U e n))
        (stageD tab ops D κ es (some done) (done ++ [e]) (putF fr' o.dst v) (restore (fun n => D.U e n && Nat.blt n H.length) H Hm))
    | none => False
def zeroOf (P : Program) (T : TypeId) : Option (List C) := ((P.info? T).bind (·.zero)).map fun z => z.cells.toList.map ofConstC
def allocAll (P : Program) (ops : Array Oper) : List Nat → List VV → VH K → (List VV → VH K → Prop) → Prop
  | [], fr, H, c => c fr H
  | q :: qs, fr, H, c => match ops[q]? with
    | some o => match o.op with
      | .alloc T => match zeroOf P T with
        | some cs => guardP (cs.all C.one) (allocAll P ops qs (putF fr o.dst (.c (.ptr H.length 0 0))) (H ++ [.cells T cs]) c)
        | none => False
      | _ => False
    | none => False
def slotsB (ops : Array Oper) (n : Nat) : Bool := allB ops.size fun i => opB ops i fun o => match o.dst with
  | some t => Nat.blt t n
  | none => true
/-- A region that draws its order. -/
def evDraw (tab : Tab P K) (ops : Array Oper) (fr : List VV) (H : VH K) (κ : List VV → VH K → Prop) : Prop :=
  guardP (chkB ops (ancs ops) (idxs ops isEffB) && (chainB (ancs ops) (idxs ops isEffB) && slotsB ops fr.length))
    (allocAll P ops (idxs ops isAllocB) fr H fun fr1 H1 => stageD tab ops (planOf ops H.length) κ (idxs ops isEffB) none [] fr1 H1)
/-! ### what the checks say -/
theorem mem_idxs {ops : Array Oper} {p : Oper → Bool} {i : Nat} : i ∈ idxs ops p ↔ ∃ o, ops[i]? = some o ∧ p o = true := by
  unfold idxs
  rw [List.mem_filter, List.mem_range]
  constructor
  · rintro ⟨h1, h2⟩
    cases ho : ops[i]? with
    | none => simp [ho] at h2
    | some o => exact ⟨o, rfl, by simpa [ho] using h2⟩
  · rintro ⟨o, ho, hp⟩
    exact ⟨(Array.getElem?_eq_some_iff.1 ho).1, by simp [ho, hp]⟩
theorem allB_get {n : Nat} {p : Nat → Bool} (h : allB n p = true) {i : Nat} (hi : i < n) : p i = true := List.all_eq_true.1 h i (List.mem_range.2 hi)
theorem lt_of_op {ops : Array Oper} {i : Nat} {o : Oper} (h : ops[i]? = some o) : i < ops.size := (Array.getElem?_eq_some_iff.1 h).1
theorem opB_get {ops : Array Oper} {i : Nat} {o : Oper} {p : Oper → Bool} (h : opB ops i p = true) (ho : ops[i]? = some o) : p o = true := by simpa [opB, ho] using h
structure Chk (ops : Array Oper) : Prop where
  lt : ∀ (i : Nat) (o : Oper), ops[i]? = some o → ∀ p ∈ direct o, p < i
  use : ∀ (i : Nat) (o : Oper), ops[i]? = some o → ∀ t ∈ uses ops o, ∀ (k : Nat) (o' : Oper), ops[k]? = some o' → softB o' = true → o'.dst = some t → hasB (ancs ops) i k = true
  uniq : ∀ (i : Nat) (o : Oper), ops[i]? = some o → softB o = true → ∀ (k : Nat) (o' : Oper), ops[k]? = some o' → k ≠ i → o'.dst ≠ o.dst
  pure : ∀ (i : Nat) (o : Oper), ops[i]? = some o → isRdB o = true → memB o = false → ∀ (e : Nat) (o' : Oper), ops[e]? = some o' → isEffB o' = true → ∀ t, o'.dst = some t → t ∈ uses ops o → hasB (ancs ops) e i = true ∨ hasB (ancs ops) i e = true
theorem chk_of {ops : Array Oper} (h : chkB ops (ancs ops) (idxs ops isEffB) = true) : Chk ops := by
  have key := fun (i : Nat) (o : Oper) (ho : ops[i]? = some o) => opB_get (allB_get h (lt_of_op ho)) ho
  refine ⟨fun i o ho p hp => ?_, fun i o ho t ht k o' hk hs hd => ?_, fun i o ho hs k o' hk hne hd => ?_, fun i o ho hr hm e o' he hef t hd ht => ?_⟩
  · have := key i o ho
    simp only [Bool.and_eq_true] at this
    simpa using List.all_eq_true.1 this.1 p hp
  · have := key i o ho
    simp only [Bool.and_eq_true] at this
    have := opB_get (allB_get (List.all_eq_true.1 this.2.1 t ht) (lt_of_op hk)) hk
    simpa [hs, hd] using this
  · have := key i o ho
    simp only [Bool.and_eq_true] at this
    have h2 := this.2.2.1
    rw [hs] at h2
    have := opB_get (allB_get (by simpa using h2) (lt_of_op hk)) hk
    simp [hne, hd] at this
  · have := key i o ho
    simp only [Bool.and_eq_true] at this
    have h2 := this.2.2.2
    rw [hr, hm] at h2
    have := opB_get (List.all_eq_true.1 (by simpa using h2) e (mem_idxs.2 ⟨o', he, hef⟩)) he
    have hc : (uses ops o).contains t = true := by simpa using ht
    simp only [hd, hc] at this
    simp at this
    exact this.resolve_left (fun hn => hn ht)
theorem anc_lt {ops : Array Oper} (hc : Chk ops) : ∀ (i : Nat) (o : Oper), ops[i]? = some o → ∀ q, hasB (ancs ops) i q = true → q < i := by
  intro i
  induction i using Nat.strongRecOn with
  | _ i ih =>
    intro o ho q hq
    obtain ⟨p, hp, h⟩ := ancs_spec ho hq
    have hpi := hc.lt i o ho p hp
    rcases h with rfl | ⟨_, h⟩
    · exact hpi
    · cases hop : ops[p]? with
      | none => exact absurd (Array.getElem?_eq_none_iff.1 hop) (by have := lt_of_op ho; omega)
      | some o' => exact Nat.lt_trans (ih p hpi o' hop q h) hpi
theorem fold_bit_mk (acc : List Nat) : ∀ (l : List Nat) (s q : Nat), (s.testBit q = true ∨ ∃ p ∈ l, p = q ∨ (acc.getD p 0).testBit q = true) → (l.foldl (fun s p => s ||| 2 ^ p ||| acc.getD p 0) s).testBit q = true
  | [], s, q, h => by
    rcases h with h | ⟨p, hp, _⟩
    · exact h
    · cases hp
  | p :: l, s, q, h => by
    refine fold_bit_mk acc l _ q ?_
    simp only [Nat.testBit_or, Nat.testBit_two_pow, Bool.or_eq_true, decide_eq_true_eq]
    rcases h with h | ⟨x, hx, h⟩
    · exact .inl (.inl (.inl h))
    · rcases List.mem_cons.1 hx with rfl | hx
      · exact .inl (h.elim (fun h => .inl (.inr h)) .inr)
      · exact .inr ⟨x, hx, h⟩
theorem ancGo_mk : ∀ (os : List Oper) (acc : List Nat) (k : Nat) (o : Oper), os[k]? = some o → ∀ p ∈ direct o, p < acc.length + k → ∀ q, (p = q ∨ ((ancGo os acc).getD p 0).testBit q = true) → ((ancGo os acc).getD (acc.length + k) 0).testBit q = true
  | [], _, k, _, h, _, _, _, _, _ => by simp at h
  | o :: os, acc, 0, o', h, p, hp, hlt, q, hq => by
    simp at h; subst h
    simp only [ancGo] at hq ⊢
    rw [Nat.add_zero, ancGo_pre os _ acc.length (by simp)]
    simp only [List.getD_eq_getElem?_getD, List.getElem?_concat_length, Option.getD_some, ancOne]
    have hlt' : p < acc.length := by omega
    refine fold_bit_mk acc (direct o) 0 q (.inr ⟨p, hp, hq.imp id fun h => ?_⟩)
    rw [ancGo_pre os _ p (by simp; omega)] at h
    simp only [List.getD_eq_getElem?_getD] at h ⊢
    rw [List.getElem?_append_left hlt'] at h; exact h
  | o :: os, acc, k + 1, o', h, p, hp, hlt, q, hq => by
    simp only [ancGo] at hq ⊢
    have := ancGo_mk os (acc ++ [ancOne acc o]) k o' (by simpa using h) p hp (by simp; omega) q hq
    simpa [Nat.add_assoc, Nat.add_comm 1 k] using this
theorem anc_mk {ops : Array Oper} (hc : Chk ops) {i : Nat} {o : Oper} (ho : ops[i]? = some o) {p : Nat} (hp : p ∈ direct o) {q : Nat} (h : p = q ∨ hasB (ancs ops) p q = true) : hasB (ancs ops) i q = true := by
  have := ancGo_mk ops.toList [] i o (by simpa using ho) p hp (by have := hc.lt i o ho p hp; simpa using this) q (by simpa [ancs, hasB] using h)
  simpa [ancs, hasB] using this
theorem anc_trans {ops : Array Oper} (hc : Chk ops) : ∀ (i : Nat) (o : Oper), ops[i]? = some o → ∀ k q, hasB (ancs ops) i k = true → hasB (ancs ops) k q = true → hasB (ancs ops) i q = true := by
  intro i
  induction i using Nat.strongRecOn with
  | _ i ih =>
    intro o ho k q hk hq
    obtain ⟨p, hp, h⟩ := ancs_spec ho hk
    have hpi := hc.lt i o ho p hp
    rcases h with rfl | ⟨_, h⟩
    · exact anc_mk hc ho hp (.inr hq)
    · cases hop : ops[p]? with
      | none => exact absurd (Array.getElem?_eq_none_iff.1 hop) (by have := lt_of_op ho; omega)
      | some o' => exact anc_mk hc ho hp (.inr (ih p hpi o' hop k q h hq))
theorem evVal_uses (tab : Tab P K) {ops : Array Oper} {fr fr' : List VV} {o : Oper} {k : VV → VH K → Prop} (h : ∀ t ∈ uses ops o, fr.getD t .any = fr'.getD t .any) : evVal tab ops fr o H k = evVal tab ops fr' o H k := by
  refine evVal_congr tab (fun x hx => ?_) (fun t ht => h t (List.mem_append.2 (.inr (by simp [ht]))))
  cases x with
  | tmp t => exact h t (List.mem_append.2 (.inl (List.mem_filterMap.2 ⟨.tmp t, by simpa using hx, rfl⟩)))
  | _ => rfl
theorem maskH_sub {U V : Nat → Bool} (h : ∀ n, U n = true → V n = true) : maskH V (maskH U H) = maskH V H := by
  have e : ∀ (n : Nat) (H : VH K), maskFrom V n (maskFrom U n H) = maskFrom V n H := by
    intro n H
    induction H generalizing n with
    | nil => rfl
    | cons a l ih =>
      simp only [maskFrom, ih]
      cases hU : U n with
      | false => rfl
      | true => simp [h n hU]
  exact e 0 H
theorem VH_ext {H H' : VH K} (hl : H.length = H'.length) (h : ∀ n, n < H.length → at_ H n = at_ H' n) : H = H' := by
  apply List.ext_getElem hl
  intro n h1 h2
  have := h n h1
  simpa [at_, List.getD_eq_getElem?_getD, h1, h2] using this
theorem restore_mask {U : Nat → Bool} : restore (fun n => U n && Nat.blt n H.length) H (maskH U H) = H := by
  refine VH_ext (by rw [restore_len, maskH_len]) fun n hn => ?_
  rw [restore_len, maskH_len] at hn
  rw [restore_at n (by rw [maskH_len]; exact hn), maskH_at]
  have : Nat.blt n H.length = true := by simp [hn]
  cases U n <;> simp [this]
/-- An operation that reads no memory comes to the same beside any. -/
theorem pure_op (tab : Tab P K) {fr : List VV} {o : Oper} (hr : isRdB o = true) (hm : memB o = false) {H H' : VH K} {v : VV} (h : evOp tab fr o H (Same H v)) : evOp tab fr o H' (Same H' v) := by
  obtain ⟨dst, op, type, pos, after, guard⟩ := o
  simp only [isRdB, Bool.and_eq_true] at hr
  obtain ⟨hr, hd⟩ := hr
  clear hd
  cases op <;> simp only [evOp, Same, and_true] at h ⊢ <;> first | exact h | (cases hr; done) | (cases hm; done) | skip
  case fieldAddr t x f =>
    unfold evFieldAddr at h ⊢
    simpa only [Same, and_true] using h
  case call cc =>
    obtain ⟨callee, args, ats⟩ := cc
    cases callee with
    | builtin b =>
      simp only at h ⊢
      unfold evBuiltin at h ⊢
      split at h
      · simpa only [Same, and_true] using h
      · simpa only [Same, and_true] using h
      · simpa only [Same, and_true] using h
      · cases hr
      · cases hr
      · exact h.elim
    | value f => cases hr
    | invoke x m => cases hr
/-- The same under its guard. -/
theorem pure_val (tab : Tab P K) {ops : Array Oper} {fr : List VV} {o : Oper} (hr : isRdB o = true) (hm : memB o = false) {H H' : VH K} {v : VV} (h : evVal tab ops fr o H (Same H v)) : evVal tab ops fr o H' (Same H' v) := by
  have op : evOp tab fr o H (Same H v) → evOp tab fr o H' (Same H' v) := fun h => pure_op tab hr hm h
  unfold evVal at h ⊢
  split at h
  · exact op h
  · split at h
    · split at h
      · rename_i b _
        rcases ite2_of h with ⟨rfl, h⟩ | ⟨rfl, h⟩ <;> simp only [ite2] <;> split at h <;> first | exact op h | exact ⟨h.1, rfl⟩
      · exact ⟨h.1, rfl⟩
      · exact h.elim
    · exact h.elim
end Go.Proofs.YtndlpbheifalhaaGreatDoor.E
