/- The evaluation of whole code: statements, branches, loops with what holds at their heads; and of a function. -/
import Derived.Test.YtndlpbheifalhaaGreatDoorEg
import Derived.Scope
import Derived.Deep.LoopGhost
namespace Go.Proofs.YtndlpbheifalhaaGreatDoor.E
set_option linter.unusedVariables false
set_option linter.unusedSimpArgs false
variable {K : Kinds} {P : Program} {S : Nat → Prop} {w0 w : World} {r : Nat → Ref} {H : VH K}
/-- What holds at a loop's head, or at a place where ways meet: slots and memory as they hang on some data. -/
structure Inv (K : Kinds) where
  X : Type
  fr : X → List VV
  H : X → VH K
  ok : X → Prop
  meas : X → Nat
structure Ann (K : Kinds) where
  loop : Nat → List VV → VH K → Option (Inv K)
  cut : Nat → List VV → VH K → Option (Inv K)
  frz : Nat → List (Nat × TypeId) := fun _ => []
  keep : Option Nat := none
/-- Lists of one's own, in these slots, are known by their places from here on. -/
def evFrzs : List (Nat × TypeId) → List VV → VH K → (List VV → VH K → Prop) → Prop
  | [], fr, H, κ => κ fr H
  | (s, e2) :: t, fr, H, κ => match fr.getD s .any, K.ofType e2 with
    | .one (.c (.slc n 0 len none)), some k2 => evFrz e2 n len H fun x H' => evFrzs t (fr.set s (.c (.rs e2 (K.size k2) x))) H' κ
    | .one (.c (.ptr n 0 0)), _ => match at_ H n with
      | .cells T cs => guardP (T == e2 && cs.all fun c => c.nm.isNone && c.one) (anyBag H fun m φ => ∀ b, φ b = none → evFrzs t (fr.set s (.c (.rp e2 0 b 0 0))) ((H.set n .gone).set m (.bag (bput φ b (.box e2 cs)))) κ)
      | _ => False
    | _, _ => False
theorem evFrzs_sound {r0 : Nat → Ref} {N0 : Nat} : ∀ {l : List (Nat × TypeId)} {fr : List VV} {H : VH K} {a : Act} {κ : List VV → VH K → Prop}, StOK S w0 r0 N0 r fr H a w → evFrzs l fr H κ →
    ∃ fr' H', κ fr' H' ∧ StOK S w0 r0 N0 r fr' H' a w
  | [], fr, H, a, κ, st, h => ⟨fr, H, h, st⟩
  | (s, e2) :: t, fr, H, a, κ, st, h => by
    unfold evFrzs at h
    split at h
    · rename_i n len k2 hs hk2
      have hlen := st.frame.is.length
      have hslot := st.frame.is.get s
      rw [hs] at hslot
      obtain ⟨x, H', hk, hv, hl, hro, st'⟩ := evFrz_sound st.heap h hslot hk2
      have hare : Are r (fr.set s (.c (.rs e2 (K.size k2) x))) a.tmps.toList := by
        have := st.frame.is.set s (x := .c (.rs e2 (K.size k2) x)) (v := a.tmps.toList.getD s undef) hv
        rcases Nat.lt_or_ge s a.tmps.toList.length with hlt | hge
        · have e : a.tmps.toList.set s (a.tmps.toList.getD s undef) = a.tmps.toList := by
            rw [List.getD_eq_getElem?_getD, List.getElem?_eq_getElem hlt, Option.getD_some, List.set_getElem_self]
          rwa [e] at this
        · rwa [List.set_eq_of_length_le hge] at this
      exact evFrzs_sound ⟨st', ⟨hare, fun y hy => by
        rw [hl]
        rcases List.mem_or_eq_of_mem_set hy with hy | rfl
        · exact st.frame.lt y hy
        · exact lt_of_nm rfl, st.frame.defers⟩, by rw [hl]; exact st.len, st.keep⟩ hk
    · rename_i n hs
      split at h
      · rename_i T cs hn
        obtain ⟨hg, h⟩ := guardP_iff.1 h
        simp only [Bool.and_eq_true, beq_iff_eq, List.all_eq_true, Option.isNone_iff_eq_none] at hg
        obtain ⟨rfl, hcs⟩ := hg
        obtain ⟨m, φ, hm, h⟩ := anyBag_at h
        have hslot := st.frame.is.get s
        rw [hs] at hslot
        obtain ⟨hoff, hfree, st'⟩ := st.heap.frzBox hn hm hcs
        have hslot : a.tmps.toList.getD s undef = .pointer (some ⟨(r n).blk, (r n).off + (0 * (r n).sz + 0), none⟩) := hslot
        have hv : (VV.c (.rp T 0 (r n).blk 0 0)).is r (a.tmps.toList.getD s undef) := by
          rw [hslot, hoff]
          show _ = Value.pointer (some ⟨(r n).blk, 0 * 0 + 0, none⟩)
          simp
        have hare : Are r (fr.set s (.c (.rp T 0 (r n).blk 0 0))) a.tmps.toList := by
          have := st.frame.is.set s (x := .c (.rp T 0 (r n).blk 0 0)) (v := a.tmps.toList.getD s undef) hv
          rcases Nat.lt_or_ge s a.tmps.toList.length with hlt | hge
          · have e : a.tmps.toList.set s (a.tmps.toList.getD s undef) = a.tmps.toList := by
              rw [List.getD_eq_getElem?_getD, List.getElem?_eq_getElem hlt, Option.getD_some, List.set_getElem_self]
            rwa [e] at this
          · rwa [List.set_eq_of_length_le hge] at this
        exact evFrzs_sound ⟨st', ⟨hare, fun y hy => by
          simp only [List.length_set]
          rcases List.mem_or_eq_of_mem_set hy with hy | rfl
          · exact st.frame.lt y hy
          · exact lt_of_nm rfl, st.frame.defers⟩, by simpa using st.len, st.keep⟩ (h _ hfree)
      · exact h.elim
    · exact h.elim
def evStep (tab : Tab P K) (ops : Array Oper) (fr : List VV) (o : Oper) (H : VH K) (κ : List VV → VH K → Prop) : Prop :=
  match o.guard with
  | none => evOp tab fr o H fun v H' => κ (putF fr o.dst v) H'
  | some (j, want) => match (ops[j]?).bind (·.dst) with
    | some t => match fr.getD t .any with
      | .one (.c (.bool b)) => ite2 b
          (match want with
            | true => evOp tab (fr.set t (.c (.bool true))) o H fun v H' => κ (putF (fr.set t (.c (.bool true))) o.dst v) H'
            | false => κ (putF (fr.set t (.c (.bool true))) o.dst (.tup [])) H)
          (match want with
            | false => evOp tab (fr.set t (.c (.bool false))) o H fun v H' => κ (putF (fr.set t (.c (.bool false))) o.dst v) H'
            | true => κ (putF (fr.set t (.c (.bool false))) o.dst (.tup [])) H)
      | .tup [] => κ (putF fr o.dst (.tup [])) H
      | _ => False
    | none => False
theorem after_st {r0 : Nat → Ref} {N0 : Nat} {fr : List VV} {a : Act} (st : StOK S w0 r0 N0 r fr H a w) {κ : List VV → VH K → Prop} {dst : Option Tmp} {v' : Value} {w' : World} (h : After S w0 r H (fun v H' => κ (putF fr dst v) H') v' w') :
    ∃ r' fr' H', κ fr' H' ∧ StOK S w0 r0 N0 r' fr' H' (a.put dst v') w' := by
  obtain ⟨r', vv, H', hk, hv, hl, hle, hr, _, hh⟩ := h
  exact ⟨r', _, H', hk, hh, st.frame.put hr hle hv hl dst, Nat.le_trans st.len hle, fun n hn => (hr n (Nat.lt_of_lt_of_le hn st.len)).trans (st.keep n hn)⟩
theorem FrOK.refine_ {N : Nat} {fr : List VV} {a : Act} (h : FrOK r N fr a) {t : Nat} {b : Bool} (ht : fr.getD t .any = .c (.bool b)) : FrOK r N (fr.set t (.c (.bool b))) a := by
  have : fr.set t (.c (.bool b)) = fr := by
    apply List.ext_getElem?
    intro i
    rw [List.getElem?_set]
    by_cases e : t = i
    · subst e
      rw [List.getD_eq_getElem?_getD] at ht
      cases hi : fr[t]? with
      | none => rw [hi] at ht; simp at ht
      | some x =>
        rw [hi] at ht
        have hlt := (List.getElem?_eq_some_iff.1 hi).1
        simp at ht; subst ht; simp [hlt]
    · rw [if_neg e]
  rw [this]; exact h
theorem evStep_sound (hK : K.Ok) (tab : Tab P K) {r0 : Nat → Ref} {N0 : Nat} {fr : List VV} {a : Act} (st : StOK S w0 r0 N0 r fr H a w) {ops : Array Oper} {o : Oper} {κ : List VV → VH K → Prop} (h : evStep tab ops fr o H κ)
    {next : Act → World → Prop} {Q : Exit → Act → World → Prop} (hn : ∀ r' fr' H' a' w', κ fr' H' → StOK S w0 r0 N0 r' fr' H' a' w' → next a' w') :
    if Region.wanted o (yielded ops a.tmps) then o.wp P a w next Q ∨ (o.asks P a w ∧ LetsOut Q) else next (a.put o.dst undef) w := by
  unfold evStep at h
  cases hg : o.guard with
  | none =>
    simp only [hg] at h
    simp only [Region.wanted, hg, if_true]
    refine .inl (evOp_sound hK tab st h fun v' w' ha => ?_)
    obtain ⟨r', fr', H', hk, hs⟩ := after_st st ha
    exact hn _ _ _ _ _ hk hs
  | some jw =>
    obtain ⟨j, want⟩ := jw
    simp only [hg] at h
    split at h
    · rename_i t ht
      split at h
      · rename_i b hb
        have hval : yielded ops a.tmps j = some b := by
          have h1 := st.frame.is.get t
          rw [hb] at h1
          have h2 : a.tmps.toList.getD t undef = .bool b := h1
          have h3 : a.tmps[t]? = some (.bool b) := by
            rw [List.getD_eq_getElem?_getD] at h2
            cases hx : a.tmps.toList[t]? with
            | none => rw [hx] at h2; simp [undef] at h2
            | some x => rw [hx] at h2; simp at h2; subst h2; simpa using hx
          simp [yielded, ht, h3]
        have hw : Region.wanted o (yielded ops a.tmps) = (b == want) := by
          simp only [Region.wanted, hg, hval]
          cases b <;> cases want <;> rfl
        have go : ∀ (q : Bool), b = q → StOK S w0 r0 N0 r (fr.set t (.c (.bool q))) H a w := fun q e => by
          subst e; exact ⟨st.heap, st.frame.refine_ hb, st.len, st.keep⟩
        have skip : ∀ (q : Bool), b = q → κ (putF (fr.set t (.c (.bool q))) o.dst (.tup [])) H → next (a.put o.dst undef) w := fun q e hk => by
          have hs := go q e
          exact hn r _ H _ w hk ⟨hs.heap, hs.frame.put (v := .tup []) (u := undef) (fun _ _ => rfl) (Nat.le_refl _) ⟨[], rfl, trivial⟩ (fun c hc => by cases hc) o.dst, hs.len, hs.keep⟩
        have run : ∀ (q : Bool), b = q → (evOp tab (fr.set t (.c (.bool q))) o H fun v H' => κ (putF (fr.set t (.c (.bool q))) o.dst v) H') → o.wp P a w next Q := fun q e hk =>
          evOp_sound hK tab (go q e) hk fun v' w' ha => by
            obtain ⟨r', fr', H', hk, hs⟩ := after_st (go q e) ha
            exact hn _ _ _ _ _ hk hs
        rw [hw]
        rcases ite2_of h with ⟨rfl, h⟩ | ⟨rfl, h⟩ <;> cases want <;> simp only [beq_self_eq_true, if_true] at h ⊢
        · exact skip true rfl h
        · exact .inl (run true rfl h)
        · exact .inl (run false rfl h)
        · exact skip false rfl h
      · rename_i hb
        have hval : yielded ops a.tmps j = none := by
          have h1 := st.frame.is.get t
          rw [hb] at h1
          obtain ⟨vs, h2, h3⟩ := h1
          have hvs : vs = [] := by cases vs with | nil => rfl | cons => exact h3.elim
          subst hvs
          unfold yielded
          rw [ht]
          simp only [Option.bind_some]
          rw [List.getD_eq_getElem?_getD] at h2
          cases hx : a.tmps[t]? with
          | none => rfl
          | some x =>
            have hx' : a.tmps.toList[t]? = some x := by simpa using hx
            rw [hx'] at h2
            simp only [Option.getD_some] at h2
            subst h2
            rfl
        have hw : Region.wanted o (yielded ops a.tmps) = false := by
          simp only [Region.wanted, hg, hval]
          cases want <;> rfl
        rw [hw]
        exact hn r _ H _ w h ⟨st.heap, st.frame.put (v := .tup []) (u := undef) (fun _ _ => rfl) (Nat.le_refl _) ⟨[], rfl, trivial⟩ (fun c hc => by cases hc) o.dst, st.len, st.keep⟩
      · exact h.elim
    · exact h.elim
def evOps (tab : Tab P K) (ops : Array Oper) : List Nat → List VV → VH K → (List VV → VH K → Prop) → Prop
  | [], fr, H, κ => κ fr H
  | i :: rest, fr, H, κ => match ops[i]? with
    | some o => evStep tab ops fr o H fun fr' H' => evOps tab ops rest fr' H' κ
    | none => evOps tab ops rest fr H κ
/-- What a code's end owes. -/
def QOf (S : Nat → Prop) (w0 : World) (r0 : Nat → Ref) (N0 : Nat) (κ : Exit → List VV → VH K → Prop) (e : Exit) (a : Act) (w : World) : Prop :=
  ∃ r fr H, κ e fr H ∧ StOK S w0 r0 N0 r fr H a w
theorem evOps_sound (hK : K.Ok) (tab : Tab P K) {r0 : Nat → Ref} {N0 : Nat} {ops : Array Oper} {Q : Exit → Act → World → Prop} {κ : List VV → VH K → Prop} (hq : ∀ r fr H a w, κ fr H → StOK S w0 r0 N0 r fr H a w → Q .normal a w) :
    ∀ (l : List Nat) {r : Nat → Ref} {fr : List VV} {H : VH K} {a : Act} {w : World}, StOK S w0 r0 N0 r fr H a w → evOps tab ops l fr H κ → wpOps P ops Q l a w
  | [], r, fr, H, a, w, st, h => hq r fr H a w h st
  | i :: rest, r, fr, H, a, w, st, h => by
    rw [wpOps_cons]
    unfold wpOp
    simp only [evOps] at h
    cases ho : ops[i]? with
    | none => simp only [ho] at h ⊢; exact evOps_sound hK tab hq rest st h
    | some o =>
      simp only [ho] at h ⊢
      exact evStep_sound hK tab st h fun r' fr' H' a' w' hk hs => evOps_sound hK tab hq rest hs hk
def firstId : Code → Nat
  | .region id _ _ => id
  | .seq a _ => firstId a
  | .block _ c => firstId c
  | .loop c => firstId c
  | .scope c => firstId c
  | _ => 1000000
/-- The first slots; what the others hold is let go. -/
def cutAt : Nat → List VV → List VV
  | k + 1, x :: xs => x :: cutAt k xs
  | 0, xs => xs.map fun _ => .any
  | _, [] => []
def cutFr : Option Nat → List VV → List VV
  | none, fr => fr
  | some k, fr => cutAt k fr
theorem cutAt_are {r : Nat → Ref} : ∀ (k : Nat) {fr : List VV} {vs : List Value}, Are r fr vs → Are r (cutAt k fr) vs
  | k + 1, x :: xs, v :: vs, h => ⟨h.1, cutAt_are k h.2⟩
  | 0, [], [], _ => trivial
  | 0, x :: xs, v :: vs, h => ⟨trivial, cutAt_are 0 h.2⟩
  | k + 1, [], [], _ => trivial
  | _, [], _ :: _, h => h.elim
  | _, _ :: _, [], h => h.elim
theorem cutAt_lt {N : Nat} : ∀ (k : Nat) {fr : List VV}, (∀ x ∈ fr, x.lt N) → ∀ x ∈ cutAt k fr, x.lt N
  | k + 1, y :: ys, h, x, hx => by
    rcases List.mem_cons.1 hx with rfl | hx
    · exact h _ (by simp)
    · exact cutAt_lt k (fun z hz => h z (by simp [hz])) x hx
  | 0, ys, h, x, hx => by
    cases ys <;> simp only [cutAt] at hx
    all_goals (obtain ⟨_, _, rfl⟩ := List.mem_map.1 hx; trivial)
  | k + 1, [], h, x, hx => by simp [cutAt] at hx
theorem StOK.cut {r0 : Nat → Ref} {N0 : Nat} {fr : List VV} {a : Act} (st : StOK S w0 r0 N0 r fr H a w) : ∀ k, StOK S w0 r0 N0 r (cutFr k fr) H a w
  | none => st
  | some k => ⟨st.heap, ⟨cutAt_are k st.frame.is, cutAt_lt k st.frame.lt, st.frame.defers⟩, st.len, st.keep⟩
def Enter (N0 : Nat) (inv : Inv K) (more : inv.X → Prop) (fr : List VV) (H : VH K) : Prop :=
  ∃ (x : inv.X) (ks : List K.Kd) (τ : List Nat), inv.ok x ∧ more x ∧ Into N0 ks τ fr H (inv.fr x) (inv.H x)
def thenK (next : List VV → VH K → Prop) (κ : Exit → List VV → VH K → Prop) : Exit → List VV → VH K → Prop
  | .normal => next
  | e => κ e
def blockK (id : Nat) (κ : Exit → List VV → VH K → Prop) : Exit → List VV → VH K → Prop
  | .exit id' => match id' == id with | true => κ .normal | false => κ (.exit id')
  | e => κ e
def scopeK (κ : Exit → List VV → VH K → Prop) : Exit → List VV → VH K → Prop
  | .goto _ => fun _ _ => False
  | e => κ e
def evCode (tab : Tab P K) (ann : Ann K) (N0 : Nat) : Code → List VV → VH K → (Exit → List VV → VH K → Prop) → Prop
  | .skip, fr, H, κ => κ .normal fr H
  | .label _, fr, H, κ => κ .normal fr H
  | .region id ops draw, fr, H, κ => evFrzs (ann.frz id) fr H fun fr H => match draw with
    | false => evOps tab ops (List.range ops.size) fr H (κ .normal)
    | true => evDraw tab ops fr H (κ .normal)
  | .seq x y, fr, H, κ => match ann.cut (firstId y) fr H with
    | some inv => match ann.cut (500 + firstId y) fr H with
      | some inv' => evCode tab ann N0 x fr H (thenK (fun fr' H' => Enter N0 inv (fun _ => True) (cutFr ann.keep fr') H' ∨ Enter N0 inv' (fun _ => True) (cutFr ann.keep fr') H') κ) ∧ (∀ z, inv.ok z → evCode tab ann N0 y (inv.fr z) (inv.H z) κ) ∧ ∀ z, inv'.ok z → evCode tab ann N0 y (inv'.fr z) (inv'.H z) κ
      | none => evCode tab ann N0 x fr H (thenK (fun fr' H' => Enter N0 inv (fun _ => True) (cutFr ann.keep fr') H') κ) ∧ ∀ z, inv.ok z → evCode tab ann N0 y (inv.fr z) (inv.H z) κ
    | none => evCode tab ann N0 x fr H (thenK (fun fr' H' => evCode tab ann N0 y fr' H' κ) κ)
  | .cond c x y, fr, H, κ => match getO fr c with
    | .one (.c (.bool b)) => ite2 b (evCode tab ann N0 x fr H κ) (evCode tab ann N0 y fr H κ)
    | _ => False
  | .block id c, fr, H, κ => evCode tab ann N0 c fr H (blockK id κ)
  | .loop c, fr, H, κ => match ann.loop (firstId c) fr H with
    | some inv => Enter N0 inv (fun _ => True) (cutFr ann.keep fr) H ∧ ∀ z, inv.ok z → evCode tab ann N0 c (inv.fr z) (inv.H z) (thenK (fun fr' H' => Enter N0 inv (fun z' => inv.meas z' < inv.meas z) (cutFr ann.keep fr') H') κ)
    | none => False
  | .exit id, fr, H, κ => κ (.exit id) fr H
  | .ret, fr, H, κ => κ .ret fr H
  | .scope c, fr, H, κ => evCode tab ann N0 c fr H (scopeK κ)
  | _, _, _, _ => False
theorem Enter_sound (hK : K.Ok) {r0 : Nat → Ref} {N0 : Nat} {inv : Inv K} {more : inv.X → Prop} {fr : List VV} {a : Act} (st : StOK S w0 r0 N0 r fr H a w) (h : Enter N0 inv more fr H) :
    ∃ z r', inv.ok z ∧ more z ∧ StOK S w0 r0 N0 r' (inv.fr z) (inv.H z) a w := by
  obtain ⟨z, ks, τ, hok, hm, hi⟩ := h
  obtain ⟨r', hh, hN, hr, har, hlt⟩ := Into_sound hK st.heap st.frame.is st.frame.lt hi
  exact ⟨z, r', hok, hm, hh, ⟨har, hlt, st.frame.defers⟩, hN, fun n hn => (hr n hn (Nat.lt_of_lt_of_le hn st.len)).trans (st.keep n hn)⟩
theorem evCode_sound (hK : K.Ok) (tab : Tab P K) (ann : Ann K) {r0 : Nat → Ref} {N0 : Nat} : ∀ (c : Code) {r : Nat → Ref} {fr : List VV} {H : VH K} {a : Act} {w : World} {κ : Exit → List VV → VH K → Prop},
    StOK S w0 r0 N0 r fr H a w → evCode tab ann N0 c fr H κ → c.wp P (QOf S w0 r0 N0 κ) a w
  | .skip, r, fr, H, a, w, κ, st, h => wp_skip ⟨r, fr, H, h, st⟩
  | .label _, r, fr, H, a, w, κ, st, h => wp_label ⟨r, fr, H, h, st⟩
  | .exit id, r, fr, H, a, w, κ, st, h => wp_exit ⟨r, fr, H, h, st⟩
  | .ret, r, fr, H, a, w, κ, st, h => wp_ret ⟨r, fr, H, h, st⟩
  | .region id ops draw, r, fr0, H0, a, w, κ, st0, h0 => by
    obtain ⟨fr, H, h, st⟩ := evFrzs_sound st0 h0
    cases draw with
    | false => exact wp_region (evOps_sound hK tab (fun r fr H a w hk hs => ⟨r, fr, H, hk, hs⟩) _ st h)
    | true => exact evDraw_sound hK tab tab.mixed st h (fun r fr H a w hk hs => ⟨r, fr, H, hk, hs⟩)
  | .cond c x y, r, fr, H, a, w, κ, st, h => by
    simp only [evCode] at h
    split at h
    · rename_i b hb
      have hc := (st.frame.get c).1
      rw [hb] at hc
      have hc' : a.eval c = .bool b := hc
      rcases ite2_of h with ⟨rfl, h⟩ | ⟨rfl, h⟩
      · exact wp_cond_true hc' (evCode_sound hK tab ann x st h)
      · exact wp_cond_false hc' (evCode_sound hK tab ann y st h)
    · exact h.elim
  | .seq x y, r, fr, H, a, w, κ, st, h => by
    simp only [evCode] at h
    split at h
    · rename_i inv _
      split at h
      · rename_i inv' _
        obtain ⟨h1, h2, h3⟩ := h
        refine wp_seq (wp_mono (evCode_sound hK tab ann x st h1) fun e a' w' hq => ?_)
        obtain ⟨r', fr', H', hk, hs⟩ := hq
        cases e with
        | normal =>
          rcases hk with hk | hk
          · obtain ⟨z, r2, hok, _, hs2⟩ := Enter_sound hK (hs.cut _) hk
            exact evCode_sound hK tab ann y hs2 (h2 z hok)
          · obtain ⟨z, r2, hok, _, hs2⟩ := Enter_sound hK (hs.cut _) hk
            exact evCode_sound hK tab ann y hs2 (h3 z hok)
        | _ => exact ⟨r', fr', H', hk, hs⟩
      · obtain ⟨h1, h2⟩ := h
        refine wp_seq (wp_mono (evCode_sound hK tab ann x st h1) fun e a' w' hq => ?_)
        obtain ⟨r', fr', H', hk, hs⟩ := hq
        cases e with
        | normal =>
          obtain ⟨z, r2, hok, _, hs2⟩ := Enter_sound hK (hs.cut _) hk
          exact evCode_sound hK tab ann y hs2 (h2 z hok)
        | _ => exact ⟨r', fr', H', hk, hs⟩
    · refine wp_seq (wp_mono (evCode_sound hK tab ann x st h) fun e a' w' hq => ?_)
      obtain ⟨r', fr', H', hk, hs⟩ := hq
      cases e with
      | normal => exact evCode_sound hK tab ann y hs hk
      | _ => exact ⟨r', fr', H', hk, hs⟩
  | .block id c, r, fr, H, a, w, κ, st, h => by
    refine wp_block (wp_mono (evCode_sound hK tab ann c st h) fun e a' w' hq => ?_)
    obtain ⟨r', fr', H', hk, hs⟩ := hq
    cases e with
    | exit id' =>
      simp only [Exit.inBlock]
      simp only [blockK] at hk
      by_cases e : id' = id
      · subst e
        simp only [beq_self_eq_true] at hk
        rw [if_pos rfl]
        exact ⟨r', fr', H', hk, hs⟩
      · have : (id' == id) = false := by simpa using e
        simp only [this] at hk
        rw [if_neg e]
        exact ⟨r', fr', H', hk, hs⟩
    | _ => exact ⟨r', fr', H', hk, hs⟩
  | .loop c, r, fr, H, a, w, κ, st, h => by
    simp only [evCode] at h
    split at h
    · rename_i inv _
      obtain ⟨h1, h2⟩ := h
      obtain ⟨z, r', hok, _, hs⟩ := Enter_sound hK (st.cut _) h1
      refine wp_loop_ghost (fun n a w => ∃ z r, inv.meas z = n ∧ inv.ok z ∧ StOK S w0 r0 N0 r (inv.fr z) (inv.H z) a w) (inv.meas z) ⟨z, r', rfl, hok, hs⟩ ?_
      rintro n a' w' ⟨z, r, rfl, hok, hs⟩
      refine wp_mono (evCode_sound hK tab ann c hs (h2 z hok)) fun e a' w' hq => ?_
      obtain ⟨r', fr', H', hk, hs⟩ := hq
      cases e with
      | normal =>
        obtain ⟨z', r2, hok', hlt, hs2⟩ := Enter_sound hK (hs.cut _) hk
        exact ⟨inv.meas z', hlt, z', r2, rfl, hok', hs2⟩
      | _ => exact ⟨r', fr', H', hk, hs⟩
    · exact h.elim
  | .scope c, r, fr, H, a, w, κ, st, h => by
    refine wp_scope_straight (wp_mono (evCode_sound hK tab ann c st h) fun e a' w' hq => ?_)
    obtain ⟨r', fr', H', hk, hs⟩ := hq
    cases e with
    | goto l => exact hk
    | _ => exact ⟨r', fr', H', hk, hs⟩
  | .goto _, _, _, _, _, _, _, _, h => h.elim
  | .refuse _, _, _, _, _, _, _, _, h => h.elim
  | .rangeFunc _ _ _ _, _, _, _, _, _, _, _, h => h.elim
/-! ### a function -/
/-- What a function's end owes: its results, read off. -/
def resOf (P : Program) (H : VH K) (fr : List VV) : ResultVar → (V1 → Prop) → Prop
  | .tmp t, k => match fr.getD t .any with
    | .one x => k x
    | _ => False
  | .cell t T, k => evLoad P T (fr.getD t .any) H fun v _ => match v with
    | .one x => k x
    | _ => False
def resAll (P : Program) (H : VH K) (fr : List VV) : List ResultVar → (List V1 → Prop) → Prop
  | [], k => k []
  | x :: xs, k => resOf P H fr x fun v => resAll P H fr xs fun vs => k (v :: vs)
def retV : List V1 → VV
  | [x] => .one x
  | l => .tup l
def EndsAs (N0 : Nat) (ct : Ct K) (v : VV) (H : VH K) : Prop :=
  ∃ (y : ct.Y) (ks : List K.Kd) (τ : List Nat), ct.ok y ∧ guardP ((ct.post y).all fun a => !a.isRo) (Into N0 ks τ [v] H [ct.ret y] (ct.post y))
def fnEnd (P : Program) (N0 : Nat) (rs : List ResultVar) (ct : Ct K) : Exit → List VV → VH K → Prop
  | .normal, fr, H => resAll P H fr rs fun vs => EndsAs N0 ct (retV vs) H
  | .ret, fr, H => resAll P H fr rs fun vs => EndsAs N0 ct (retV vs) H
  | _, _, _ => False
/-- The whole of what is to be shown of a function. -/
def evFn (tab : Tab P K) (ann : Ann K) (fn : Func) (ct : Ct K) : Prop :=
  match fn.body with
  | some c => evCode tab ann ct.pre.length c (ct.args ++ List.replicate (fn.ntmps - ct.args.length) .any) ct.pre (fnEnd P ct.pre.length fn.results.toList ct)
  | none => False
def readRes (P : Program) (tmps : Array Value) (x : ResultVar) : Sem Value :=
  match x with
  | .tmp t => pure (tmps.getD t undef)
  | .cell p t => do loadVar t (← asAddr (tmps.getD p undef))
theorem resOf_sound (hK : K.Ok) {r0 : Nat → Ref} {N0 : Nat} {fr : List VV} {a : Act} (st : StOK S w0 r0 N0 r fr H a w) {x : ResultVar} {k : V1 → Prop} (h : resOf P H fr x k) :
    ∃ v u, (readRes P a.tmps x).run P w = .ok u w ∧ k v ∧ v.is r u ∧ v.lt H.length := by
  cases x with
  | tmp t =>
    simp only [resOf] at h
    split at h
    · rename_i x hx
      have h1 := st.frame.is.get t
      have h2 := getD_lt st.frame.lt t
      rw [hx] at h1 h2
      refine ⟨x, a.tmps.getD t undef, by simp [readRes], h, ?_, h2⟩
      have h3 : x.is r (a.tmps.toList.getD t undef) := h1
      simpa using h3
    · exact h.elim
  | cell p T =>
    simp only [resOf] at h
    have hp := st.frame.is.get p
    obtain ⟨v', vv, hr, ⟨hk, hv, hl⟩, ad, had⟩ := evLoad_exact' hK st.heap h hp
    cases vv with
    | one x =>
      refine ⟨x, v', ?_, hk, hv, hl⟩
      rw [had] at hr
      have had' : a.tmps.getD p undef = .pointer (some ad) := by simpa using had
      simp only [readRes, had', asAddr, Sem.run_bind, Sem.run_pure, Result.andThen_ok]
      simpa [Instr.loadAt, Instr.sureAddr] using hr
    | _ => exact hk.elim
theorem resAll_sound (hK : K.Ok) {r0 : Nat → Ref} {N0 : Nat} {fr : List VV} {a : Act} (st : StOK S w0 r0 N0 r fr H a w) : ∀ {rs : List ResultVar} {k : List V1 → Prop}, resAll P H fr rs k →
    ∃ vs us, (rs.mapM (readRes P a.tmps)).run P w = .ok us w ∧ k vs ∧ RelV r vs us ∧ ∀ v ∈ vs, v.lt H.length
  | [], k, h => ⟨[], [], by simp, h, trivial, by simp⟩
  | x :: xs, k, h => by
    obtain ⟨v, u, hr, hk, hv, hl⟩ := resOf_sound hK st h
    obtain ⟨vs, us, hrs, hks, hvs, hls⟩ := resAll_sound hK st hk
    exact ⟨v :: vs, u :: us, by simp [List.mapM_cons, hr, hrs], hks, ⟨hv, hvs⟩, fun y hy => by
      rcases List.mem_cons.1 hy with rfl | hy
      · exact hl
      · exact hls y hy⟩
theorem RelV.length {r : Nat → Ref} : ∀ {cs : List V1} {vs : List Value}, RelV r cs vs → vs.length = cs.length
  | [], [], _ => rfl
  | c :: cs, v :: vs, h => by simp [RelV.length h.2]
  | [], _ :: _, h => h.elim
  | _ :: _, [], h => h.elim
theorem results_sound (hK : K.Ok) {r0 : Nat → Ref} {N0 : Nat} {fr : List VV} {a : Act} (st : StOK S w0 r0 N0 r fr H a w) {fn : Func} {k : List V1 → Prop} (h : resAll P H fr fn.results.toList k) :
    ∃ vs u, (results fn a.tmps).run P w = .ok u w ∧ k vs ∧ (retV vs).is r u ∧ (retV vs).lt H.length := by
  obtain ⟨vs, us, hr, hk, hv, hl⟩ := resAll_sound hK st h
  have hlen := hv.length
  refine ⟨vs, if us.length = 1 then us.getD 0 undef else .tuple us.toArray, ?_, hk, ?_, ?_⟩
  · have e : results fn a.tmps = (do
        let vs ← fn.results.mapM (readRes P a.tmps)
        pure (if h : vs.size = 1 then vs[0] else .tuple vs)) := rfl
    rw [e, Array.mapM_eq_mapM_toList]
    simp [hr]
    by_cases e1 : us.length = 1
    · simp only [e1, if_true]
      match us, e1 with
      | [u], _ => simp
    · simp [e1]
  · match vs, us, hv with
    | [], [], _ => exact ⟨[], by simp, trivial⟩
    | [x], [u], hv => exact (show x.is r u from hv.1)
    | x :: y :: vs, u :: u' :: us, hv => exact ⟨_, by simp, hv⟩
    | [], _ :: _, h => exact h.elim
    | _ :: _, [], h => exact h.elim
    | [_], _ :: _ :: _, h => exact h.2.elim
    | _ :: _ :: _, [_], h => exact h.2.elim
  · match vs, hl with
    | [], _ => intro c hc; cases hc
    | [x], hl => exact hl x (by simp)
    | x :: y :: vs, hl => exact hl
theorem Are_append {r : Nat → Ref} : ∀ {xs : List VV} {vs : List Value} (n m : Nat), Are r xs vs → n = m → Are r (xs ++ List.replicate n .any) (vs ++ List.replicate m undef)
  | [], [], 0, _, _, h => by subst h; trivial
  | [], [], n + 1, _, h0, h => by subst h; simp only [List.replicate_succ, List.nil_append]; exact ⟨trivial, by simpa using Are_append (xs := []) (vs := []) n n h0 rfl⟩
  | x :: xs, v :: vs, n, m, h, e => ⟨h.1, Are_append n m h.2 e⟩
  | [], _ :: _, _, _, h, _ => h.elim
  | _ :: _, [], _, _, h, _ => h.elim
theorem RoKeep.none {H H' : VH K} (h : (H'.all fun a => !a.isRo) = true) : RoKeep H H' := fun n hn => by
  exfalso
  have hl : n < H'.length := at_lt fun e => by rw [e] at hn; cases hn
  have h1 := List.all_eq_true.1 h _ (List.getElem_mem hl)
  have h2 : at_ H' n = H'[n] := by simp [at_, List.getD_eq_getElem?_getD, hl]
  rw [h2] at hn
  simp [hn] at h1
theorem CtOk_of (hK : K.Ok) (tab : Tab P K) (ann : Ann K) {f : FuncId} {fn : Func} {ct : Ct K} (hf : P.funcs[f]? = some fn) (henter : ∀ args w, (callFunc f args).run P w = .ok (.enter f args) w)
    (h : ct.need → evFn tab ann fn ct) : CtOk P f ct := by
  refine ⟨henter, fun hneed r w vals st ha hal => ?_⟩
  have h' := h hneed
  unfold evFn at h'
  cases hb : fn.body with
  | none => simp only [hb] at h'
  | some c =>
    simp only [hb] at h'
    have hlen := ha.length
    have st0 : StOK (Ours r ct.pre) w r ct.pre.length r (ct.args ++ List.replicate (fn.ntmps - ct.args.length) .any) ct.pre { tmps := vals.toArray ++ Array.replicate (fn.ntmps - vals.toArray.size) undef, defers := [] } w :=
      ⟨st, ⟨by simpa using Are_append _ _ ha (by rw [hlen]), fun x hx => by
        rcases List.mem_append.1 hx with hx | hx
        · exact hal x hx
        · obtain rfl := (List.mem_replicate.1 hx).2; trivial, rfl⟩, Nat.le_refl _, fun _ _ => rfl⟩
    refine calls_of_wp hf hb (wp_mono (evCode_sound hK tab ann c st0 h') fun e a' w' hq => ?_)
    obtain ⟨r', fr', H', hk, hs⟩ := hq
    have fin : resAll P H' fr' fn.results.toList (fun vs => EndsAs ct.pre.length ct (retV vs) H') → a'.defers = [] ∧ ∃ v, (results fn a'.tmps).run P w' = .ok v w' ∧
        ∃ v', Ending.returned v = .returned v' ∧ After (Ours r ct.pre) w r ct.pre ct.Post v' w' := fun hk => by
      obtain ⟨vs, u, hr, ⟨y, ks, τ, hok, hi⟩, hv, hl⟩ := results_sound hK hs hk
      obtain ⟨hnr, hi⟩ := guardP_iff.1 hi
      obtain ⟨r2, hh, hN, hrr, har, hlt⟩ := Into_sound hK hs.heap (vals := [u]) (show Are r' [retV vs] [u] from ⟨hv, trivial⟩) (fun x hx => by simp at hx; subst hx; exact hl) hi
      exact ⟨hs.frame.defers, u, hr, u, rfl, r2, ct.ret y, ct.post y, ⟨y, hok, rfl, rfl⟩, har.1, hlt _ (by simp), hN, fun n hn => (hrr n hn (Nat.lt_of_lt_of_le hn hs.len)).trans (hs.keep n hn), RoKeep.none hnr, hh⟩
    cases e with
    | normal => exact fin hk
    | ret => exact fin hk
    | _ => exact hk.elim
end Go.Proofs.YtndlpbheifalhaaGreatDoor.E
