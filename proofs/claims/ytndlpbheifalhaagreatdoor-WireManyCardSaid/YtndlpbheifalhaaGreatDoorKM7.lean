/- Text 8 of 13 texts that prove the statement of Vx; it holds without conditions beyond the statement's own. -/
import Derived.Laws.AppendOwn
import Derived.Laws.OwnMore
import Derived.Deep.MidRow
import Derived.Calls
import Derived.Deep.AppendSrc
import Derived.Maps.AppendAt
import Derived.IntWalk
import Derived.Tactics
import Derived.Laws.StructEq
import Derived.Laws.BytesString
import Derived.Orders
import Derived.Scope
import Derived.Deep.LoopGhost
import Derived.Test.YtndlpbheifalhaaGreatDoorKM6
namespace Go.Proofs.YtndlpbheifalhaaGreatDoor
end Go.Proofs.YtndlpbheifalhaaGreatDoor
namespace Go.Proofs.YtndlpbheifalhaaGreatDoor.E
end Go.Proofs.YtndlpbheifalhaaGreatDoor.E
namespace Go.Proofs.YtndlpbheifalhaaGreatDoor.T
end Go.Proofs.YtndlpbheifalhaaGreatDoor.T
namespace Go.Proofs.YtndlpbheifalhaaGreatDoor.TwireMany
end Go.Proofs.YtndlpbheifalhaaGreatDoor.TwireMany
namespace Go.Proofs.YtndlpbheifalhaaGreatDoor.V
end Go.Proofs.YtndlpbheifalhaaGreatDoor.V
section
namespace Go.Proofs.YtndlpbheifalhaaGreatDoor.E
set_option linter.unusedVariables false
set_option linter.unusedSimpArgs false
variable {K : Kinds} {P : Program} {S : Nat → Prop} {w0 w : World} {r : Nat → Ref} {H : VH K} {Ds : List Deferred}
/-- What holds at a loop's head, or at a place where ways meet: slots and memory as they hang on some data. -/
structure Inv (K : Kinds) where
  X : Type
  fr : X → List VV
  H : X → VH K
  ok : X → Prop
  meas : X → Nat
structure Ann (K : Kinds) where
  loop : Nat → List VV → VH K → Option (Inv K)
  cut : Nat → List VV → VH K → Option (Inv K)
  frz : Nat → List (Nat × TypeId) := fun _ => []
  frzOp : Nat → Nat → List (Nat × TypeId) := fun _ _ => []
  keep : Option Nat := none
/-- Lists of one's own, in these slots, are known by their places from here on. -/
def evFrzs : List (Nat × TypeId) → List VV → VH K → (List VV → VH K → Prop) → Prop
  | [], fr, H, κ => κ fr H
  | (s, e2) :: t, fr, H, κ => match fr.getD s .any, K.ofType e2 with
    | .one (.c (.slc n 0 len none)), some k2 => evFrz e2 n len H fun x H' => evFrzs t (fr.set s (.c (.rs e2 (K.size k2) x))) H' κ
    | .one (.c (.ptr n 0 0)), _ => match at_ H n with
      | .cells T cs => guardP (T == e2 && cs.all fun c => c.nm.isNone && c.one) (anyBag H fun m φ => ∀ b, φ b = none → evFrzs t (fr.set s (.c (.rp e2 0 b 0 0))) ((H.set n .gone).set m (.bag (bput φ b (.box e2 cs)))) κ)
      | _ => False
    | _, _ => False
theorem evFrzs_sound {r0 : Nat → Ref} {N0 : Nat} : ∀ {l : List (Nat × TypeId)} {fr : List VV} {H : VH K} {a : Act} {κ : List VV → VH K → Prop}, StOK Ds S w0 r0 N0 r fr H a w → evFrzs l fr H κ →
    ∃ fr' H', κ fr' H' ∧ StOK Ds S w0 r0 N0 r fr' H' a w
  | [], fr, H, a, κ, st, h => ⟨fr, H, h, st⟩
  | (s, e2) :: t, fr, H, a, κ, st, h => by
    unfold evFrzs at h
    split at h
    · rename_i n len k2 hs hk2
      have hlen := st.frame.is.length
      have hslot := st.frame.is.get s
      rw [hs] at hslot
      obtain ⟨x, H', hk, hv, hl, hro, st'⟩ := evFrz_sound st.heap h hslot hk2
      have hare : Are r (fr.set s (.c (.rs e2 (K.size k2) x))) a.tmps.toList := by
        have := st.frame.is.set s (x := .c (.rs e2 (K.size k2) x)) (v := a.tmps.toList.getD s undef) hv
        rcases Nat.lt_or_ge s a.tmps.toList.length with hlt | hge
        · have e : a.tmps.toList.set s (a.tmps.toList.getD s undef) = a.tmps.toList := by
            rw [List.getD_eq_getElem?_getD, List.getElem?_eq_getElem hlt, Option.getD_some, List.set_getElem_self]
          rwa [e] at this
        · rwa [List.set_eq_of_length_le hge] at this
      exact evFrzs_sound ⟨st', ⟨hare, fun y hy => by
        rw [hl]
        rcases List.mem_or_eq_of_mem_set hy with hy | rfl
        · exact st.frame.lt y hy
        · exact lt_of_nm rfl, st.frame.defers⟩, by rw [hl]; exact st.len, st.keep⟩ hk
    · rename_i n hs
      split at h
      · rename_i T cs hn
        obtain ⟨hg, h⟩ := guardP_iff.1 h
        simp only [Bool.and_eq_true, beq_iff_eq, List.all_eq_true, Option.isNone_iff_eq_none] at hg
        obtain ⟨rfl, hcs⟩ := hg
        obtain ⟨m, φ, hm, h⟩ := anyBag_at h
        have hslot := st.frame.is.get s
        rw [hs] at hslot
        obtain ⟨hoff, hfree, st'⟩ := st.heap.frzBox hn hm hcs
        have hslot : a.tmps.toList.getD s undef = .pointer (some ⟨(r n).blk, (r n).off + (0 * (r n).sz + 0), none⟩) := hslot
        have hv : (VV.c (.rp T 0 (r n).blk 0 0)).is r (a.tmps.toList.getD s undef) := by
          rw [hslot, hoff]
          show _ = Value.pointer (some ⟨(r n).blk, 0 * 0 + 0, none⟩)
          simp
        have hare : Are r (fr.set s (.c (.rp T 0 (r n).blk 0 0))) a.tmps.toList := by
          have := st.frame.is.set s (x := .c (.rp T 0 (r n).blk 0 0)) (v := a.tmps.toList.getD s undef) hv
          rcases Nat.lt_or_ge s a.tmps.toList.length with hlt | hge
          · have e : a.tmps.toList.set s (a.tmps.toList.getD s undef) = a.tmps.toList := by
              rw [List.getD_eq_getElem?_getD, List.getElem?_eq_getElem hlt, Option.getD_some, List.set_getElem_self]
            rwa [e] at this
          · rwa [List.set_eq_of_length_le hge] at this
        exact evFrzs_sound ⟨st', ⟨hare, fun y hy => by
          simp only [List.length_set]
          rcases List.mem_or_eq_of_mem_set hy with hy | rfl
          · exact st.frame.lt y hy
          · exact lt_of_nm rfl, st.frame.defers⟩, by simpa using st.len, st.keep⟩ (h _ hfree)
      · exact h.elim
    · exact h.elim
def evStep (tab : Tab P K) (ops : Array Oper) (fr : List VV) (o : Oper) (H : VH K) (κp : List PanicEntry → List VV → VH K → Prop) (κ : List VV → VH K → Prop) : Prop :=
  match o.guard with
  | none => evOpP tab fr o H (fun ch H' => κp ch fr H') fun v H' => κ (putF fr o.dst v) H'
  | some (j, want) => match (ops[j]?).bind (·.dst) with
    | some t => match fr.getD t .any with
      | .one (.c (.bool b)) => ite2 b
          (match want with
            | true => evOpP tab (fr.set t (.c (.bool true))) o H (fun ch H' => κp ch (fr.set t (.c (.bool true))) H') fun v H' => κ (putF (fr.set t (.c (.bool true))) o.dst v) H'
            | false => κ (putF (fr.set t (.c (.bool true))) o.dst (.tup [])) H)
          (match want with
            | false => evOpP tab (fr.set t (.c (.bool false))) o H (fun ch H' => κp ch (fr.set t (.c (.bool false))) H') fun v H' => κ (putF (fr.set t (.c (.bool false))) o.dst v) H'
            | true => κ (putF (fr.set t (.c (.bool false))) o.dst (.tup [])) H)
      | .tup [] => κ (putF fr o.dst (.tup [])) H
      | _ => False
    | none => False
theorem after_st {r0 : Nat → Ref} {N0 : Nat} {fr : List VV} {a : Act} (st : StOK Ds S w0 r0 N0 r fr H a w) {κ : List VV → VH K → Prop} {dst : Option Tmp} {v' : Value} {w' : World} (h : After S w0 r H (fun v H' => κ (putF fr dst v) H') v' w') :
    ∃ r' fr' H', κ fr' H' ∧ StOK Ds S w0 r0 N0 r' fr' H' (a.put dst v') w' := by
  obtain ⟨r', vv, H', hk, hv, hl, hle, hr, _, hh⟩ := h
  exact ⟨r', _, H', hk, hh, st.frame.put hr hle hv hl dst, Nat.le_trans st.len hle, fun n hn => (hr n (Nat.lt_of_lt_of_le hn st.len)).trans (st.keep n hn)⟩
theorem FrOK.refine_ {N : Nat} {fr : List VV} {a : Act} (h : FrOK Ds r N fr a) {t : Nat} {b : Bool} (ht : fr.getD t .any = .c (.bool b)) : FrOK Ds r N (fr.set t (.c (.bool b))) a := by
  have : fr.set t (.c (.bool b)) = fr := by
    apply List.ext_getElem?
    intro i
    rw [List.getElem?_set]
    by_cases e : t = i
    · subst e
      rw [List.getD_eq_getElem?_getD] at ht
      cases hi : fr[t]? with
      | none => rw [hi] at ht; simp at ht
      | some x =>
        rw [hi] at ht
        have hlt := (List.getElem?_eq_some_iff.1 hi).1
        simp at ht; subst ht; simp [hlt]
    · rw [if_neg e]
  rw [this]; exact h
theorem FrOK.grow {N N' : Nat} {r' : Nat → Ref} {fr : List VV} {a : Act} (h : FrOK Ds r N fr a) (hr : ∀ n, n < N → r' n = r n) (hN : N ≤ N') : FrOK Ds r' N' fr a :=
  ⟨h.is.congr hr h.lt, fun x hx => VV.lt_mono (h.lt x hx) hN, h.defers⟩
theorem afterP_st {r0 : Nat → Ref} {N0 : Nat} {fr : List VV} {a : Act} (st : StOK Ds S w0 r0 N0 r fr H a w) {κ : List PanicEntry → VH K → Prop} {ch : List PanicEntry} {w' : World} (h : AfterP S w0 r H κ ch w') :
    ∃ r' H', κ ch H' ∧ StOK Ds S w0 r0 N0 r' fr H' a w' := by
  obtain ⟨r', vv, H', hk, _, _, hle, hr, _, hh⟩ := h
  exact ⟨r', H', hk, hh, st.frame.grow hr hle, Nat.le_trans st.len hle, fun n hn => (hr n (Nat.lt_of_lt_of_le hn st.len)).trans (st.keep n hn)⟩
theorem evStep_sound (hK : K.Ok) (tab : Tab P K) {r0 : Nat → Ref} {N0 : Nat} {fr : List VV} {a : Act} (st : StOK Ds S w0 r0 N0 r fr H a w) {ops : Array Oper} {o : Oper} {κp : List PanicEntry → List VV → VH K → Prop} {κ : List VV → VH K → Prop} (h : evStep tab ops fr o H κp κ)
    {next : Act → World → Prop} {Q : Exit → Act → World → Prop} (hn : ∀ r' fr' H' a' w', κ fr' H' → StOK Ds S w0 r0 N0 r' fr' H' a' w' → next a' w')
    (hp : ∀ ch r' fr' H' w', κp ch fr' H' → StOK Ds S w0 r0 N0 r' fr' H' a w' → Q (.panic ch) a w') :
    if Region.wanted o (yielded ops a.tmps) then o.wp P a w next Q ∨ (o.asks P a w ∧ LetsOut Q) else next (a.put o.dst undef) w := by
  unfold evStep at h
  cases hg : o.guard with
  | none =>
    simp only [hg] at h
    simp only [Region.wanted, hg, if_true]
    refine .inl (evOpP_sound hK tab st h (fun v' w' ha => ?_) fun ch w' ha => ?_)
    · obtain ⟨r', fr', H', hk, hs⟩ := after_st st ha
      exact hn _ _ _ _ _ hk hs
    · obtain ⟨r', H', hk, hs⟩ := afterP_st st ha
      exact hp _ _ _ _ _ hk hs
  | some jw =>
    obtain ⟨j, want⟩ := jw
    simp only [hg] at h
    split at h
    · rename_i t ht
      split at h
      · rename_i b hb
        have hval : yielded ops a.tmps j = some b := by
          have h1 := st.frame.is.get t
          rw [hb] at h1
          have h2 : a.tmps.toList.getD t undef = .bool b := h1
          have h3 : a.tmps[t]? = some (.bool b) := by
            rw [List.getD_eq_getElem?_getD] at h2
            cases hx : a.tmps.toList[t]? with
            | none => rw [hx] at h2; simp [undef] at h2
            | some x => rw [hx] at h2; simp at h2; subst h2; simpa using hx
          simp [yielded, ht, h3]
        have hw : Region.wanted o (yielded ops a.tmps) = (b == want) := by
          simp only [Region.wanted, hg, hval]
          cases b <;> cases want <;> rfl
        have go : ∀ (q : Bool), b = q → StOK Ds S w0 r0 N0 r (fr.set t (.c (.bool q))) H a w := fun q e => by
          subst e; exact ⟨st.heap, st.frame.refine_ hb, st.len, st.keep⟩
        have skip : ∀ (q : Bool), b = q → κ (putF (fr.set t (.c (.bool q))) o.dst (.tup [])) H → next (a.put o.dst undef) w := fun q e hk => by
          have hs := go q e
          exact hn r _ H _ w hk ⟨hs.heap, hs.frame.put (v := .tup []) (u := undef) (fun _ _ => rfl) (Nat.le_refl _) ⟨[], rfl, trivial⟩ (fun c hc => by cases hc) o.dst, hs.len, hs.keep⟩
        have run : ∀ (q : Bool), b = q → (evOpP tab (fr.set t (.c (.bool q))) o H (fun ch H' => κp ch (fr.set t (.c (.bool q))) H') fun v H' => κ (putF (fr.set t (.c (.bool q))) o.dst v) H') → o.wp P a w next Q := fun q e hk =>
          evOpP_sound hK tab (go q e) hk (fun v' w' ha => by
            obtain ⟨r', fr', H', hk, hs⟩ := after_st (go q e) ha
            exact hn _ _ _ _ _ hk hs) fun ch w' ha => by
            obtain ⟨r', H', hk, hs⟩ := afterP_st (go q e) ha
            exact hp _ _ _ _ _ hk hs
        rw [hw]
        rcases ite2_of h with ⟨rfl, h⟩ | ⟨rfl, h⟩ <;> cases want <;> simp only [beq_self_eq_true, if_true] at h ⊢
        · exact skip true rfl h
        · exact .inl (run true rfl h)
        · exact .inl (run false rfl h)
        · exact skip false rfl h
      · rename_i hb
        have hval : yielded ops a.tmps j = none := by
          have h1 := st.frame.is.get t
          rw [hb] at h1
          obtain ⟨vs, h2, h3⟩ := h1
          have hvs : vs = [] := by cases vs with | nil => rfl | cons => exact h3.elim
          subst hvs
          unfold yielded
          rw [ht]
          simp only [Option.bind_some]
          rw [List.getD_eq_getElem?_getD] at h2
          cases hx : a.tmps[t]? with
          | none => rfl
          | some x =>
            have hx' : a.tmps.toList[t]? = some x := by simpa using hx
            rw [hx'] at h2
            simp only [Option.getD_some] at h2
            subst h2
            rfl
        have hw : Region.wanted o (yielded ops a.tmps) = false := by
          simp only [Region.wanted, hg, hval]
          cases want <;> rfl
        rw [hw]
        exact hn r _ H _ w h ⟨st.heap, st.frame.put (v := .tup []) (u := undef) (fun _ _ => rfl) (Nat.le_refl _) ⟨[], rfl, trivial⟩ (fun c hc => by cases hc) o.dst, st.len, st.keep⟩
      · exact h.elim
    · exact h.elim
def evOps (tab : Tab P K) (fz : Nat → List (Nat × TypeId)) (ops : Array Oper) (κp : List PanicEntry → List VV → VH K → Prop) : List Nat → List VV → VH K → (List VV → VH K → Prop) → Prop
  | [], fr, H, κ => evFrzs (fz ops.size) fr H κ
  | i :: rest, fr, H, κ => match ops[i]? with
    | some o => evFrzs (fz i) fr H fun fr H => evStep tab ops fr o H κp fun fr' H' => evOps tab fz ops κp rest fr' H' κ
    | none => evOps tab fz ops κp rest fr H κ
/-- What a code's end owes. -/
def QOf (Ds : List Deferred) (S : Nat → Prop) (w0 : World) (r0 : Nat → Ref) (N0 : Nat) (κ : Exit → List VV → VH K → Prop) (e : Exit) (a : Act) (w : World) : Prop :=
  ∃ r fr H, κ e fr H ∧ StOK Ds S w0 r0 N0 r fr H a w
theorem evOps_sound (hK : K.Ok) (tab : Tab P K) {fz : Nat → List (Nat × TypeId)} {r0 : Nat → Ref} {N0 : Nat} {ops : Array Oper} {Q : Exit → Act → World → Prop} {κp : List PanicEntry → List VV → VH K → Prop} {κ : List VV → VH K → Prop} (hq : ∀ r fr H a w, κ fr H → StOK Ds S w0 r0 N0 r fr H a w → Q .normal a w) (hp : ∀ ch r fr H a w, κp ch fr H → StOK Ds S w0 r0 N0 r fr H a w → Q (.panic ch) a w) :
    ∀ (l : List Nat) {r : Nat → Ref} {fr : List VV} {H : VH K} {a : Act} {w : World}, StOK Ds S w0 r0 N0 r fr H a w → evOps tab fz ops κp l fr H κ → wpOps P ops Q l a w
  | [], r, fr, H, a, w, st, h => by
    obtain ⟨fr', H', h', st'⟩ := evFrzs_sound st h
    exact hq r fr' H' a w h' st'
  | i :: rest, r, fr, H, a, w, st, h => by
    rw [wpOps_cons]
    unfold wpOp
    simp only [evOps] at h
    cases ho : ops[i]? with
    | none => simp only [ho] at h ⊢; exact evOps_sound hK tab hq hp rest st h
    | some o =>
      simp only [ho] at h ⊢
      obtain ⟨fr1, H1, h, st⟩ := evFrzs_sound st h
      exact evStep_sound hK tab st h (fun r' fr' H' a' w' hk hs => evOps_sound hK tab hq hp rest hs hk) fun ch r' fr' H' w' hk hs => hp ch r' fr' H' a w' hk hs
def firstId : Code → Nat
  | .region id _ _ => id
  | .seq a _ => firstId a
  | .block _ c => firstId c
  | .loop c => firstId c
  | .scope c => firstId c
  | _ => 1000000
/-- The first slots; what the others hold is let go. -/
def cutAt : Nat → List VV → List VV
  | k + 1, x :: xs => x :: cutAt k xs
  | 0, xs => xs.map fun _ => .any
  | _, [] => []
def cutFr : Option Nat → List VV → List VV
  | none, fr => fr
  | some k, fr => cutAt k fr
theorem cutAt_are {r : Nat → Ref} : ∀ (k : Nat) {fr : List VV} {vs : List Value}, Are r fr vs → Are r (cutAt k fr) vs
  | k + 1, x :: xs, v :: vs, h => ⟨h.1, cutAt_are k h.2⟩
  | 0, [], [], _ => trivial
  | 0, x :: xs, v :: vs, h => ⟨trivial, cutAt_are 0 h.2⟩
  | k + 1, [], [], _ => trivial
  | _, [], _ :: _, h => h.elim
  | _, _ :: _, [], h => h.elim
theorem cutAt_lt {N : Nat} : ∀ (k : Nat) {fr : List VV}, (∀ x ∈ fr, x.lt N) → ∀ x ∈ cutAt k fr, x.lt N
  | k + 1, y :: ys, h, x, hx => by
    rcases List.mem_cons.1 hx with rfl | hx
    · exact h _ (by simp)
    · exact cutAt_lt k (fun z hz => h z (by simp [hz])) x hx
  | 0, ys, h, x, hx => by
    cases ys <;> simp only [cutAt] at hx
    all_goals (obtain ⟨_, _, rfl⟩ := List.mem_map.1 hx; trivial)
  | k + 1, [], h, x, hx => by simp [cutAt] at hx
theorem StOK.cut {r0 : Nat → Ref} {N0 : Nat} {fr : List VV} {a : Act} (st : StOK Ds S w0 r0 N0 r fr H a w) : ∀ k, StOK Ds S w0 r0 N0 r (cutFr k fr) H a w
  | none => st
  | some k => ⟨st.heap, ⟨cutAt_are k st.frame.is, cutAt_lt k st.frame.lt, st.frame.defers⟩, st.len, st.keep⟩
def Enter (N0 : Nat) (inv : Inv K) (more : inv.X → Prop) (fr : List VV) (H : VH K) : Prop :=
  ∃ (x : inv.X) (ks : List K.Kd) (τ : List Nat), inv.ok x ∧ more x ∧ Into N0 ks τ fr H (inv.fr x) (inv.H x)
def thenK (next : List VV → VH K → Prop) (κ : Exit → List VV → VH K → Prop) : Exit → List VV → VH K → Prop
  | .normal => next
  | e => κ e
def blockK (id : Nat) (κ : Exit → List VV → VH K → Prop) : Exit → List VV → VH K → Prop
  | .exit id' => match id' == id with | true => κ .normal | false => κ (.exit id')
  | e => κ e
def scopeK (κ : Exit → List VV → VH K → Prop) : Exit → List VV → VH K → Prop
  | .goto _ => fun _ _ => False
  | e => κ e
def evCode (tab : Tab P K) (ann : Ann K) (N0 : Nat) : Code → List VV → VH K → (Exit → List VV → VH K → Prop) → Prop
  | .skip, fr, H, κ => κ .normal fr H
  | .label _, fr, H, κ => κ .normal fr H
  | .region id ops draw, fr, H, κ => evFrzs (ann.frz id) fr H fun fr H => match draw with
    | false => evOps tab (ann.frzOp id) ops (fun ch => κ (.panic ch)) (List.range ops.size) fr H (κ .normal)
    | true => evDraw tab ops fr H (κ .normal)
  | .seq x y, fr, H, κ => match ann.cut (firstId y) fr H with
    | some inv => match ann.cut (500 + firstId y) fr H with
      | some inv' => evCode tab ann N0 x fr H (thenK (fun fr' H' => Enter N0 inv (fun _ => True) (cutFr ann.keep fr') H' ∨ Enter N0 inv' (fun _ => True) (cutFr ann.keep fr') H') κ) ∧ (∀ z, inv.ok z → evCode tab ann N0 y (inv.fr z) (inv.H z) κ) ∧ ∀ z, inv'.ok z → evCode tab ann N0 y (inv'.fr z) (inv'.H z) κ
      | none => evCode tab ann N0 x fr H (thenK (fun fr' H' => Enter N0 inv (fun _ => True) (cutFr ann.keep fr') H') κ) ∧ ∀ z, inv.ok z → evCode tab ann N0 y (inv.fr z) (inv.H z) κ
    | none => evCode tab ann N0 x fr H (thenK (fun fr' H' => evCode tab ann N0 y fr' H' κ) κ)
  | .cond c x y, fr, H, κ => match getO fr c with
    | .one (.c (.bool b)) => ite2 b (evCode tab ann N0 x fr H κ) (evCode tab ann N0 y fr H κ)
    | _ => False
  | .block id c, fr, H, κ => evCode tab ann N0 c fr H (blockK id κ)
  | .loop c, fr, H, κ => match ann.loop (firstId c) fr H with
    | some inv => Enter N0 inv (fun _ => True) (cutFr ann.keep fr) H ∧ ∀ z, inv.ok z → evCode tab ann N0 c (inv.fr z) (inv.H z) (thenK (fun fr' H' => Enter N0 inv (fun z' => inv.meas z' < inv.meas z) (cutFr ann.keep fr') H') κ)
    | none => False
  | .exit id, fr, H, κ => κ (.exit id) fr H
  | .ret, fr, H, κ => κ .ret fr H
  | .scope c, fr, H, κ => evCode tab ann N0 c fr H (scopeK κ)
  | _, _, _, _ => False
theorem Enter_sound (hK : K.Ok) {r0 : Nat → Ref} {N0 : Nat} {inv : Inv K} {more : inv.X → Prop} {fr : List VV} {a : Act} (st : StOK Ds S w0 r0 N0 r fr H a w) (h : Enter N0 inv more fr H) :
    ∃ z r', inv.ok z ∧ more z ∧ StOK Ds S w0 r0 N0 r' (inv.fr z) (inv.H z) a w := by
  obtain ⟨z, ks, τ, hok, hm, hi⟩ := h
  obtain ⟨r', hh, hN, hr, har, hlt⟩ := Into_sound hK st.heap st.frame.is st.frame.lt hi
  exact ⟨z, r', hok, hm, hh, ⟨har, hlt, st.frame.defers⟩, hN, fun n hn => (hr n hn (Nat.lt_of_lt_of_le hn st.len)).trans (st.keep n hn)⟩
theorem evCode_sound (hK : K.Ok) (tab : Tab P K) (ann : Ann K) {r0 : Nat → Ref} {N0 : Nat} : ∀ (c : Code) {r : Nat → Ref} {fr : List VV} {H : VH K} {a : Act} {w : World} {κ : Exit → List VV → VH K → Prop},
    StOK Ds S w0 r0 N0 r fr H a w → evCode tab ann N0 c fr H κ → c.wp P (QOf Ds S w0 r0 N0 κ) a w
  | .skip, r, fr, H, a, w, κ, st, h => wp_skip ⟨r, fr, H, h, st⟩
  | .label _, r, fr, H, a, w, κ, st, h => wp_label ⟨r, fr, H, h, st⟩
  | .exit id, r, fr, H, a, w, κ, st, h => wp_exit ⟨r, fr, H, h, st⟩
  | .ret, r, fr, H, a, w, κ, st, h => wp_ret ⟨r, fr, H, h, st⟩
  | .region id ops draw, r, fr0, H0, a, w, κ, st0, h0 => by
    obtain ⟨fr, H, h, st⟩ := evFrzs_sound st0 h0
    cases draw with
    | false => exact wp_region (evOps_sound hK tab (κp := fun ch => κ (.panic ch)) (fun r fr H a w hk hs => ⟨r, fr, H, hk, hs⟩) (fun ch r fr H a w hk hs => ⟨r, fr, H, hk, hs⟩) _ st h)
    | true => exact evDraw_sound hK tab tab.base.mixed st h (fun r fr H a w hk hs => ⟨r, fr, H, hk, hs⟩)
  | .cond c x y, r, fr, H, a, w, κ, st, h => by
    simp only [evCode] at h
    split at h
    · rename_i b hb
      have hc := (st.frame.get c).1
      rw [hb] at hc
      have hc' : a.eval c = .bool b := hc
      rcases ite2_of h with ⟨rfl, h⟩ | ⟨rfl, h⟩
      · exact wp_cond_true hc' (evCode_sound hK tab ann x st h)
      · exact wp_cond_false hc' (evCode_sound hK tab ann y st h)
    · exact h.elim
  | .seq x y, r, fr, H, a, w, κ, st, h => by
    simp only [evCode] at h
    split at h
    · rename_i inv _
      split at h
      · rename_i inv' _
        obtain ⟨h1, h2, h3⟩ := h
        refine wp_seq (wp_mono (evCode_sound hK tab ann x st h1) fun e a' w' hq => ?_)
        obtain ⟨r', fr', H', hk, hs⟩ := hq
        cases e with
        | normal =>
          rcases hk with hk | hk
          · obtain ⟨z, r2, hok, _, hs2⟩ := Enter_sound hK (hs.cut _) hk
            exact evCode_sound hK tab ann y hs2 (h2 z hok)
          · obtain ⟨z, r2, hok, _, hs2⟩ := Enter_sound hK (hs.cut _) hk
            exact evCode_sound hK tab ann y hs2 (h3 z hok)
        | _ => exact ⟨r', fr', H', hk, hs⟩
      · obtain ⟨h1, h2⟩ := h
        refine wp_seq (wp_mono (evCode_sound hK tab ann x st h1) fun e a' w' hq => ?_)
        obtain ⟨r', fr', H', hk, hs⟩ := hq
        cases e with
        | normal =>
          obtain ⟨z, r2, hok, _, hs2⟩ := Enter_sound hK (hs.cut _) hk
          exact evCode_sound hK tab ann y hs2 (h2 z hok)
        | _ => exact ⟨r', fr', H', hk, hs⟩
    · refine wp_seq (wp_mono (evCode_sound hK tab ann x st h) fun e a' w' hq => ?_)
      obtain ⟨r', fr', H', hk, hs⟩ := hq
      cases e with
      | normal => exact evCode_sound hK tab ann y hs hk
      | _ => exact ⟨r', fr', H', hk, hs⟩
  | .block id c, r, fr, H, a, w, κ, st, h => by
    refine wp_block (wp_mono (evCode_sound hK tab ann c st h) fun e a' w' hq => ?_)
    obtain ⟨r', fr', H', hk, hs⟩ := hq
    cases e with
    | exit id' =>
      simp only [Exit.inBlock]
      simp only [blockK] at hk
      by_cases e : id' = id
      · subst e
        simp only [beq_self_eq_true] at hk
        rw [if_pos rfl]
        exact ⟨r', fr', H', hk, hs⟩
      · have : (id' == id) = false := by simpa using e
        simp only [this] at hk
        rw [if_neg e]
        exact ⟨r', fr', H', hk, hs⟩
    | _ => exact ⟨r', fr', H', hk, hs⟩
  | .loop c, r, fr, H, a, w, κ, st, h => by
    simp only [evCode] at h
    split at h
    · rename_i inv _
      obtain ⟨h1, h2⟩ := h
      obtain ⟨z, r', hok, _, hs⟩ := Enter_sound hK (st.cut _) h1
      refine wp_loop_ghost (fun n a w => ∃ z r, inv.meas z = n ∧ inv.ok z ∧ StOK Ds S w0 r0 N0 r (inv.fr z) (inv.H z) a w) (inv.meas z) ⟨z, r', rfl, hok, hs⟩ ?_
      rintro n a' w' ⟨z, r, rfl, hok, hs⟩
      refine wp_mono (evCode_sound hK tab ann c hs (h2 z hok)) fun e a' w' hq => ?_
      obtain ⟨r', fr', H', hk, hs⟩ := hq
      cases e with
      | normal =>
        obtain ⟨z', r2, hok', hlt, hs2⟩ := Enter_sound hK (hs.cut _) hk
        exact ⟨inv.meas z', hlt, z', r2, rfl, hok', hs2⟩
      | _ => exact ⟨r', fr', H', hk, hs⟩
    · exact h.elim
  | .scope c, r, fr, H, a, w, κ, st, h => by
    refine wp_scope_straight (wp_mono (evCode_sound hK tab ann c st h) fun e a' w' hq => ?_)
    obtain ⟨r', fr', H', hk, hs⟩ := hq
    cases e with
    | goto l => exact hk
    | _ => exact ⟨r', fr', H', hk, hs⟩
  | .goto _, _, _, _, _, _, _, _, h => h.elim
  | .refuse _, _, _, _, _, _, _, _, h => h.elim
  | .rangeFunc _ _ _ _, _, _, _, _, _, _, _, h => h.elim
/-- What a function's end owes: its results, read off. -/
def resOf (P : Program) (H : VH K) (fr : List VV) : ResultVar → (V1 → Prop) → Prop
  | .tmp t, k => match fr.getD t .any with
    | .one x => k x
    | _ => False
  | .cell t T, k => evLoad P T (fr.getD t .any) H fun v _ => match v with
    | .one x => k x
    | _ => False
def resAll (P : Program) (H : VH K) (fr : List VV) : List ResultVar → (List V1 → Prop) → Prop
  | [], k => k []
  | x :: xs, k => resOf P H fr x fun v => resAll P H fr xs fun vs => k (v :: vs)
def retV : List V1 → VV
  | [x] => .one x
  | l => .tup l
def EndsAs (N0 : Nat) (ct : Ct K) (v : VV) (H : VH K) : Prop :=
  ∃ (y : ct.Y) (ks : List K.Kd) (τ : List Nat), ct.ok y ∧ guardP ((ct.post y).all fun a => !a.isRo) (Into N0 ks τ [v] H [ct.ret y] (ct.post y))
/-- A function's panic. -/
def EndsP (N0 : Nat) (ct : Ct K) (ch : List PanicEntry) (H : VH K) : Prop :=
  match ct.pan with
  | none => False
  | some p => ∃ (z : p.Y) (ks : List K.Kd) (τ : List Nat), p.ok z ∧ p.ch z = ch ∧ guardP ((p.post z).all fun a => !a.isRo) (Into N0 ks τ [] H [] (p.post z))
def fnEnd (P : Program) (N0 : Nat) (rs : List ResultVar) (ct : Ct K) : Exit → List VV → VH K → Prop
  | .normal, fr, H => guardP ct.rets (resAll P H fr rs fun vs => EndsAs N0 ct (retV vs) H)
  | .ret, fr, H => guardP ct.rets (resAll P H fr rs fun vs => EndsAs N0 ct (retV vs) H)
  | .panic ch, _, H => EndsP N0 ct ch H
  | _, _, _ => False
/-- The whole of what is to be shown of a function. -/
def evFn (tab : Tab P K) (ann : Ann K) (fn : Func) (ct : Ct K) : Prop :=
  match fn.body with
  | some c => evCode tab ann ct.pre.length c (ct.args ++ List.replicate (fn.ntmps - ct.args.length) .any) ct.pre (fnEnd P ct.pre.length fn.results.toList ct)
  | none => False
def readRes (P : Program) (tmps : Array Value) (x : ResultVar) : Sem Value :=
  match x with
  | .tmp t => pure (tmps.getD t undef)
  | .cell p t => do loadVar t (← asAddr (tmps.getD p undef))
theorem resOf_sound (hK : K.Ok) {r0 : Nat → Ref} {N0 : Nat} {fr : List VV} {a : Act} (st : StOK Ds S w0 r0 N0 r fr H a w) {x : ResultVar} {k : V1 → Prop} (h : resOf P H fr x k) :
    ∃ v u, (readRes P a.tmps x).run P w = .ok u w ∧ k v ∧ v.is r u ∧ v.lt H.length := by
  cases x with
  | tmp t =>
    simp only [resOf] at h
    split at h
    · rename_i x hx
      have h1 := st.frame.is.get t
      have h2 := getD_lt st.frame.lt t
      rw [hx] at h1 h2
      refine ⟨x, a.tmps.getD t undef, by simp [readRes], h, ?_, h2⟩
      have h3 : x.is r (a.tmps.toList.getD t undef) := h1
      simpa using h3
    · exact h.elim
  | cell p T =>
    simp only [resOf] at h
    have hp := st.frame.is.get p
    obtain ⟨v', vv, hr, ⟨hk, hv, hl⟩, ad, had⟩ := evLoad_exact' hK st.heap h hp
    cases vv with
    | one x =>
      refine ⟨x, v', ?_, hk, hv, hl⟩
      rw [had] at hr
      have had' : a.tmps.getD p undef = .pointer (some ad) := by simpa using had
      simp only [readRes, had', asAddr, Sem.run_bind, Sem.run_pure, Result.andThen_ok]
      simpa [Instr.loadAt, Instr.sureAddr] using hr
    | _ => exact hk.elim
theorem resAll_sound (hK : K.Ok) {r0 : Nat → Ref} {N0 : Nat} {fr : List VV} {a : Act} (st : StOK Ds S w0 r0 N0 r fr H a w) : ∀ {rs : List ResultVar} {k : List V1 → Prop}, resAll P H fr rs k →
    ∃ vs us, (rs.mapM (readRes P a.tmps)).run P w = .ok us w ∧ k vs ∧ RelV r vs us ∧ ∀ v ∈ vs, v.lt H.length
  | [], k, h => ⟨[], [], by simp, h, trivial, by simp⟩
  | x :: xs, k, h => by
    obtain ⟨v, u, hr, hk, hv, hl⟩ := resOf_sound hK st h
    obtain ⟨vs, us, hrs, hks, hvs, hls⟩ := resAll_sound hK st hk
    exact ⟨v :: vs, u :: us, by simp [List.mapM_cons, hr, hrs], hks, ⟨hv, hvs⟩, fun y hy => by
      rcases List.mem_cons.1 hy with rfl | hy
      · exact hl
      · exact hls y hy⟩
theorem RelV.length {r : Nat → Ref} : ∀ {cs : List V1} {vs : List Value}, RelV r cs vs → vs.length = cs.length
  | [], [], _ => rfl
  | c :: cs, v :: vs, h => by simp [RelV.length h.2]
  | [], _ :: _, h => h.elim
  | _ :: _, [], h => h.elim
theorem results_sound (hK : K.Ok) {r0 : Nat → Ref} {N0 : Nat} {fr : List VV} {a : Act} (st : StOK Ds S w0 r0 N0 r fr H a w) {fn : Func} {k : List V1 → Prop} (h : resAll P H fr fn.results.toList k) :
    ∃ vs u, (results fn a.tmps).run P w = .ok u w ∧ k vs ∧ (retV vs).is r u ∧ (retV vs).lt H.length := by
  obtain ⟨vs, us, hr, hk, hv, hl⟩ := resAll_sound hK st h
  have hlen := hv.length
  refine ⟨vs, if us.length = 1 then us.getD 0 undef else .tuple us.toArray, ?_, hk, ?_, ?_⟩
  · have e : results fn a.tmps = (do
        let vs ← fn.results.mapM (readRes P a.tmps)
        pure (if h : vs.size = 1 then vs[0] else .tuple vs)) := rfl
    rw [e, Array.mapM_eq_mapM_toList]
    simp [hr]
    by_cases e1 : us.length = 1
    · simp only [e1, if_true]
      match us, e1 with
      | [u], _ => simp
    · simp [e1]
  · match vs, us, hv with
    | [], [], _ => exact ⟨[], by simp, trivial⟩
    | [x], [u], hv => exact (show x.is r u from hv.1)
    | x :: y :: vs, u :: u' :: us, hv => exact ⟨_, by simp, hv⟩
    | [], _ :: _, h => exact h.elim
    | _ :: _, [], h => exact h.elim
    | [_], _ :: _ :: _, h => exact h.2.elim
    | _ :: _ :: _, [_], h => exact h.2.elim
  · match vs, hl with
    | [], _ => intro c hc; cases hc
    | [x], hl => exact hl x (by simp)
    | x :: y :: vs, hl => exact hl
theorem Are_append {r : Nat → Ref} : ∀ {xs : List VV} {vs : List Value} (n m : Nat), Are r xs vs → n = m → Are r (xs ++ List.replicate n .any) (vs ++ List.replicate m undef)
  | [], [], 0, _, _, h => by subst h; trivial
  | [], [], n + 1, _, h0, h => by subst h; simp only [List.replicate_succ, List.nil_append]; exact ⟨trivial, by simpa using Are_append (xs := []) (vs := []) n n h0 rfl⟩
  | x :: xs, v :: vs, n, m, h, e => ⟨h.1, Are_append n m h.2 e⟩
  | [], _ :: _, _, _, h, _ => h.elim
  | _ :: _, [], _, _, h, _ => h.elim
theorem RoKeep.none {H H' : VH K} (h : (H'.all fun a => !a.isRo) = true) : RoKeep H H' := fun n hn => by
  exfalso
  have hl : n < H'.length := at_lt fun e => by rw [e] at hn; cases hn
  have h1 := List.all_eq_true.1 h _ (List.getElem_mem hl)
  have h2 : at_ H' n = H'[n] := by simp [at_, List.getD_eq_getElem?_getD, hl]
  rw [h2] at hn
  simp [hn] at h1
theorem CtOk_of (hK : K.Ok) (tab : Tab P K) (ann : Ann K) {f : FuncId} {fn : Func} {ct : Ct K} (hf : P.funcs[f]? = some fn) (henter : ∀ args w, (callFunc f args).run P w = .ok (.enter f args) w)
    (h : ct.need → evFn tab ann fn ct) : CtOk P f ct := by
  refine ⟨henter, fun hneed r w vals st ha hal => ?_⟩
  have h' := h hneed
  unfold evFn at h'
  cases hb : fn.body with
  | none => simp only [hb] at h'
  | some c =>
    simp only [hb] at h'
    have hlen := ha.length
    have st0 : StOK [] (Ours r ct.pre) w r ct.pre.length r (ct.args ++ List.replicate (fn.ntmps - ct.args.length) .any) ct.pre { tmps := vals.toArray ++ Array.replicate (fn.ntmps - vals.toArray.size) undef, defers := [] } w :=
      ⟨st, ⟨by simpa using Are_append _ _ ha (by rw [hlen]), fun x hx => by
        rcases List.mem_append.1 hx with hx | hx
        · exact hal x hx
        · obtain rfl := (List.mem_replicate.1 hx).2; trivial, rfl⟩, Nat.le_refl _, fun _ _ => rfl⟩
    refine calls_of_wp hf hb (wp_mono (evCode_sound hK tab ann c st0 h') fun e a' w' hq => ?_)
    obtain ⟨r', fr', H', hk, hs⟩ := hq
    have fin : guardP ct.rets (resAll P H' fr' fn.results.toList (fun vs => EndsAs ct.pre.length ct (retV vs) H')) → a'.defers = [] ∧ ∃ v, (results fn a'.tmps).run P w' = .ok v w' ∧
        ct.Ends r w (.returned v) w' := fun hk => by
      obtain ⟨hrt, hk⟩ := guardP_iff.1 hk
      obtain ⟨vs, u, hr, ⟨y, ks, τ, hok, hi⟩, hv, hl⟩ := results_sound hK hs hk
      obtain ⟨hnr, hi⟩ := guardP_iff.1 hi
      obtain ⟨r2, hh, hN, hrr, har, hlt⟩ := Into_sound hK hs.heap (vals := [u]) (show Are r' [retV vs] [u] from ⟨hv, trivial⟩) (fun x hx => by simp at hx; subst hx; exact hl) hi
      exact ⟨hs.frame.defers, u, hr, .inl ⟨hrt, u, rfl, r2, ct.ret y, ct.post y, ⟨y, hok, rfl, rfl⟩, har.1, hlt _ (by simp), hN, fun n hn => (hrr n hn (Nat.lt_of_lt_of_le hn hs.len)).trans (hs.keep n hn), RoKeep.none hnr, hh⟩⟩
    cases e with
    | normal => exact fin hk
    | ret => exact fin hk
    | panic ch =>
      have hk : EndsP ct.pre.length ct ch H' := hk
      unfold EndsP at hk
      split at hk
      · exact hk.elim
      rename_i p hp
      obtain ⟨z, ks, τ, hok, hch, hi⟩ := hk
      obtain ⟨hnr, hi⟩ := guardP_iff.1 hi
      obtain ⟨r2, hh, hN, hrr, har, hlt⟩ := Into_sound hK hs.heap (vals := []) (show Are r' [] [] from trivial) (fun x hx => by cases hx) hi
      exact ⟨hs.frame.defers, .inr ⟨ch, rfl, r2, .any, p.post z, ⟨p, hp, z, hok, hch.symm, rfl⟩, trivial, trivial, hN, fun n hn => (hrr n hn (Nat.lt_of_lt_of_le hn hs.len)).trans (hs.keep n hn), RoKeep.none hnr, hh⟩⟩
    | _ => exact hk.elim
end Go.Proofs.YtndlpbheifalhaaGreatDoor.E
end
section
namespace Go.Proofs.YtndlpbheifalhaaGreatDoor.E
set_option linter.unusedVariables false
set_option linter.unusedSimpArgs false
variable {K : Kinds} {P : Program}
theorem RS.rd {φ : Bag K} {kd : K.Kd} {x : RS} {ys : List (K.α kd)} (h : x.row φ kd = some ys) {i : Nat} (hi : i < x.len) (d : K.α kd) :
    ∃ cap xs, φ x.blk = some (.row kd cap xs) ∧ x.lo + i < xs.length ∧ E.rd xs (x.lo + i) d = E.rd ys i d := by
  cases x with
  | nil => simp [RS.len] at hi
  | mk b lo len cap =>
    obtain ⟨c, xs, hφ, h1, h2, h3, rfl⟩ := RS.row_mk h
    simp only [RS.len] at hi
    refine ⟨c, xs, hφ, by simp only [RS.lo]; omega, ?_⟩
    simp only [RS.lo, E.rd, List.getD_eq_getElem?_getD, List.getElem?_take, List.getElem?_drop, hi, if_true]
theorem bput_same {φ : Bag K} {b : Nat} {i : BI K} : bput φ b i b = some i := if_pos rfl
theorem bput_other {φ : Bag K} {b c : Nat} {i : BI K} (h : c ≠ b) : bput φ b i c = φ c := if_neg h
/-- Another block's row stays. -/
theorem RS.row_other {φ ψ : Bag K} {kd : K.Kd} {x : RS} {ys : List (K.α kd)} (h : x.row φ kd = some ys) (hb : x ≠ .nil → ψ x.blk = φ x.blk) : x.row ψ kd = some ys := by
  cases x with
  | nil => exact h
  | mk b lo len cap =>
    have hb := hb (by simp)
    simp only [RS.blk] at hb
    simp only [RS.row, hb] at h ⊢
    exact h
end Go.Proofs.YtndlpbheifalhaaGreatDoor.E
end
section
namespace Go.Proofs.YtndlpbheifalhaaGreatDoor.E
set_option linter.unusedVariables false
set_option linter.unusedSimpArgs false
variable {K : Kinds}
def RS.At (x : RS) (b : Nat) : Prop := x ≠ .nil ∧ x.blk = b
/-- Two slices lie in different blocks. -/
def RS.Off (x y : RS) : Prop := ∀ b, x.At b → ¬ y.At b
theorem RS.Off.symm {x y : RS} (h : x.Off y) : y.Off x := fun b h1 h2 => h b h2 h1
def All2 {A B : Type} (R : A → B → Prop) : List A → List B → Prop
  | [], [] => True
  | a :: l, b :: m => R a b ∧ All2 R l m
  | _, _ => False
theorem All2.length {A B : Type} {R : A → B → Prop} : ∀ {l : List A} {m : List B}, All2 R l m → l.length = m.length
  | [], [], _ => rfl
  | _ :: _, _ :: _, h => by simp [All2.length h.2]
  | [], _ :: _, h => h.elim
  | _ :: _, [], h => h.elim
theorem All2.mono {A B : Type} {R S : A → B → Prop} : ∀ {l : List A} {m : List B}, All2 R l m → (∀ a b, a ∈ l → b ∈ m → R a b → S a b) → All2 S l m
  | [], [], _, _ => trivial
  | a :: l, b :: m, h, k => ⟨k a b (by simp) (by simp) h.1, All2.mono h.2 fun a' b' h1 h2 => k a' b' (by simp [h1]) (by simp [h2])⟩
  | [], _ :: _, h, _ => h.elim
  | _ :: _, [], h, _ => h.elim
theorem All2.snoc {A B : Type} {R : A → B → Prop} {a : A} {b : B} : ∀ {l : List A} {m : List B}, All2 R l m → R a b → All2 R (l ++ [a]) (m ++ [b])
  | [], [], _, k => ⟨k, trivial⟩
  | _ :: _, _ :: _, h, k => ⟨h.1, All2.snoc h.2 k⟩
  | [], _ :: _, h, _ => h.elim
  | _ :: _, [], h, _ => h.elim
theorem All2.rd {A B : Type} {R : A → B → Prop} (d : A) (e : B) : ∀ {l : List A} {m : List B}, All2 R l m → ∀ i, i < l.length → R (E.rd l i d) (E.rd m i e)
  | a :: l, b :: m, h, 0, _ => h.1
  | a :: l, b :: m, h, i + 1, hi => by
    have := All2.rd d e h.2 i (by simpa using hi)
    simpa [E.rd] using this
  | [], [], _, i, hi => by simp at hi
  | [], _ :: _, h, _, _ => h.elim
  | _ :: _, [], h, _, _ => h.elim
theorem All2.out {A B : Type} {R : A → B → Prop} {a : A} {b : B} {l' : List A} {m' : List B} : ∀ {l : List A} {m : List B}, All2 R (l ++ a :: l') (m ++ b :: m') → l.length = m.length → All2 R (l ++ l') (m ++ m') ∧ R a b
  | [], [], h, _ => ⟨h.2, h.1⟩
  | _ :: _, _ :: _, h, e => ⟨⟨h.1, (All2.out h.2 (by simpa using e)).1⟩, (All2.out h.2 (by simpa using e)).2⟩
  | [], _ :: _, _, e => by simp at e
  | _ :: _, [], _, e => by simp at e
theorem All2.left {A B : Type} {R : A → B → Prop} {p : A → Prop} : ∀ {l : List A} {m : List B}, All2 R l m → (∀ a b, R a b → p a) → ∀ a ∈ l, p a
  | [], [], _, _, a, h => by simp at h
  | x :: l, y :: m, h, k, a, ha => by
    rcases List.mem_cons.1 ha with rfl | ha
    · exact k _ _ h.1
    · exact All2.left h.2 k a ha
  | [], _ :: _, h, _, _, _ => h.elim
  | _ :: _, [], h, _, _, _ => h.elim
theorem All2.right {A B : Type} {R : A → B → Prop} {p : B → Prop} : ∀ {l : List A} {m : List B}, All2 R l m → (∀ a b, R a b → p b) → ∀ b ∈ m, p b
  | [], [], _, _, a, h => by simp at h
  | x :: l, y :: m, h, k, a, ha => by
    rcases List.mem_cons.1 ha with rfl | ha
    · exact k _ _ h.1
    · exact All2.right h.2 k a ha
  | [], _ :: _, h, _, _, _ => h.elim
  | _ :: _, [], h, _, _, _ => h.elim
theorem drop_rd {A : Type} {l : List A} {k : Nat} (h : k < l.length) (d : A) : l.drop k = E.rd l k d :: l.drop (k + 1) := by
  rw [List.drop_eq_getElem_cons h, E.rd, List.getD_eq_getElem?_getD, List.getElem?_eq_getElem h]; rfl
theorem RS.full_row {φ : Bag K} {kd : K.Kd} {x : RS} {xs : List (K.α kd)} (h : x.full φ kd = some xs) (hc : xs.length ≤ x.cap ∨ x = .nil) : x.row φ kd = some xs := by
  cases x with
  | nil => exact h
  | mk b lo len cap =>
    obtain ⟨h1, rfl, rfl⟩ := RS.full_mk h
    have hc : xs.length ≤ cap := hc.resolve_right (fun h => by cases h)
    have := RS.row_of (lo := 0) (len := xs.length) (cap := cap) h1 (by omega) (by omega) hc
    rw [this]; simp
theorem RS.row_keep {φ ψ : Bag K} {kd : K.Kd} {x : RS} {ys : List (K.α kd)} (h : x.row φ kd = some ys) (hb : ∀ b, x.At b → ψ b = φ b) : x.row ψ kd = some ys :=
  RS.row_other h fun hx => hb _ ⟨hx, rfl⟩
theorem RS.full_keep {φ ψ : Bag K} {kd : K.Kd} {x : RS} {ys : List (K.α kd)} (h : x.full φ kd = some ys) (hb : ∀ b, x.At b → ψ b = φ b) : x.full ψ kd = some ys := by
  cases x with
  | nil => exact h
  | mk b lo len cap =>
    have := hb b ⟨by simp, rfl⟩
    simp only [RS.full, this] at h ⊢
    exact h
theorem RS.row_at {φ : Bag K} {kd : K.Kd} {x : RS} {ys : List (K.α kd)} (h : x.row φ kd = some ys) {b : Nat} (hb : x.At b) : ∃ i, φ b = some i := by
  cases x with
  | nil => exact absurd rfl hb.1
  | mk c lo len cap =>
    obtain ⟨c', xs, hφ, _⟩ := RS.row_mk h
    have : c = b := hb.2
    subst this
    exact ⟨_, hφ⟩
theorem RS.off_none {φ : Bag K} {kd : K.Kd} {x y : RS} {ys : List (K.α kd)} (h : x.row φ kd = some ys) (hy : ∀ b, y.At b → φ b = none) : x.Off y := fun b h1 h2 => by
  obtain ⟨i, hi⟩ := RS.row_at h h1
  rw [hy b h2] at hi; cases hi
/-- A list of one's own that is known by its place from here on. -/
inductive Frz (φ : Bag K) (kd : K.Kd) (xs : List (K.α kd)) : RS → Bag K → Prop where
  | nil_ : xs = [] → Frz φ kd xs .nil φ
  | mk (b c : Nat) : φ b = none → xs.length ≤ c → Frz φ kd xs (.mk b 0 xs.length c) (bput φ b (.row kd c xs))
/-- A slice that is its block's whole row, not longer than so. -/
def RS.Whole (φ : Bag K) (kd : K.Kd) (L : Nat) (x : RS) : Prop := ∃ xs, x.full φ kd = some xs ∧ x.row φ kd = some xs ∧ xs.length ≤ L
def RS.Alike (φ : Bag K) (kd : K.Kd) (L : Nat) (x y : RS) : Prop := ∃ xs, x.row φ kd = some xs ∧ y.row φ kd = some xs ∧ xs.length ≤ L
def Ext (φ ψ : Bag K) : Prop := ∀ b i, φ b = some i → ψ b = some i
theorem Ext.refl (φ : Bag K) : Ext φ φ := fun _ _ h => h
theorem Ext.trans {φ ψ χ : Bag K} (h : Ext φ ψ) (k : Ext ψ χ) : Ext φ χ := fun b i hb => k b i (h b i hb)
theorem Ext.put {φ : Bag K} {b : Nat} {i : BI K} (h : φ b = none) : Ext φ (bput φ b i) := fun c j hj => by
  unfold bput
  split
  · rename_i e; rw [e, h] at hj; cases hj
  · exact hj
theorem Ext.keep {φ ψ : Bag K} (h : Ext φ ψ) {kd : K.Kd} {x : RS} {ys : List (K.α kd)} (hr : x.row φ kd = some ys) : ∀ b, x.At b → ψ b = φ b := fun b hb => by
  obtain ⟨i, hi⟩ := RS.row_at hr hb
  rw [hi]; exact h b i hi
theorem Frz.ext {φ φ' : Bag K} {kd : K.Kd} {xs : List (K.α kd)} {y : RS} (h : Frz φ kd xs y φ') : Ext φ φ' := by
  cases h with
  | nil_ h => exact Ext.refl _
  | mk b c h1 h2 => exact Ext.put h1
theorem Frz.at_ {φ φ' : Bag K} {kd : K.Kd} {xs : List (K.α kd)} {y : RS} (h : Frz φ kd xs y φ') : ∀ b, y.At b → φ b = none := fun b hb => by
  cases h with
  | nil_ h => exact absurd rfl hb.1
  | mk c cap h1 h2 =>
    have : c = b := hb.2
    subst this; exact h1
theorem Frz.whole {φ φ' : Bag K} {kd : K.Kd} {xs : List (K.α kd)} {y : RS} (h : Frz φ kd xs y φ') : y.full φ' kd = some xs ∧ y.row φ' kd = some xs := by
  cases h with
  | nil_ h => subst h; exact ⟨rfl, rfl⟩
  | mk c cap h1 h2 =>
    have h3 : RS.full (bput φ c (.row kd cap xs)) kd (.mk c 0 xs.length cap) = some xs := RS.full_of bput_same
    exact ⟨h3, RS.full_row h3 (.inl h2)⟩
structure Bk where
  out : List RS
  told : List RS
  waits : List RS
  note : List RS
  fresh : List RS
def Bk.all (B : Bk) : List RS := B.out ++ (B.told ++ (B.waits ++ (B.note ++ B.fresh)))
structure BkOk (φ : Bag K) (kd : K.Kd) (L : Nat) (B : Bk) : Prop where
  told : All2 (RS.Alike φ kd (L + 150)) B.out B.told
  note : All2 (RS.Alike φ kd L) B.waits B.note
  whole : ∀ x ∈ B.waits, x.Whole φ kd L
  fwhole : ∀ x ∈ B.fresh, x.Whole φ kd L
  apart : B.waits.Pairwise RS.Off
  fapart : B.fresh.Pairwise RS.Off
  offF : ∀ x ∈ B.waits, ∀ y ∈ B.fresh, x.Off y
  offN : ∀ x, x ∈ B.waits ∨ x ∈ B.fresh → ∀ y, y ∈ B.told ∨ y ∈ B.note → x.Off y
  offO : ∀ x ∈ B.waits, ∀ y ∈ B.out, x.Off y
  fOut : ∀ x ∈ B.fresh, ∀ y ∈ B.out, ∀ b, x.At b → y.At b → y.lo + y.len ≤ x.len
theorem Bk.mem {B : Bk} {x : RS} : x ∈ B.all ↔ x ∈ B.out ∨ x ∈ B.told ∨ x ∈ B.waits ∨ x ∈ B.note ∨ x ∈ B.fresh := by simp [Bk.all]
theorem BkOk.has {φ : Bag K} {kd : K.Kd} {L : Nat} {B : Bk} (h : BkOk φ kd L B) : ∀ x ∈ B.all, ∃ xs, x.row φ kd = some xs := fun x hx => by
  rcases Bk.mem.1 hx with hx | hx | hx | hx | hx
  · exact All2.left (p := fun x => ∃ xs, x.row φ kd = some xs) h.told (fun a b ⟨xs, h1, _⟩ => ⟨xs, h1⟩) x hx
  · exact All2.right (p := fun x => ∃ xs, x.row φ kd = some xs) h.told (fun a b ⟨xs, _, h1, _⟩ => ⟨xs, h1⟩) x hx
  · obtain ⟨xs, _, h1, _⟩ := h.whole x hx; exact ⟨xs, h1⟩
  · exact All2.right (p := fun x => ∃ xs, x.row φ kd = some xs) h.note (fun a b ⟨xs, _, h1, _⟩ => ⟨xs, h1⟩) x hx
  · obtain ⟨xs, _, h1, _⟩ := h.fwhole x hx; exact ⟨xs, h1⟩
theorem BkOk.keep {φ ψ : Bag K} {kd : K.Kd} {L : Nat} {B : Bk} (h : BkOk φ kd L B) (hb : ∀ x ∈ B.all, ∀ b, x.At b → ψ b = φ b) : BkOk ψ kd L B where
  told := h.told.mono fun a b ha hb' ⟨xs, h1, h2, h3⟩ => ⟨xs, RS.row_keep h1 (hb a (Bk.mem.2 (.inl ha))), RS.row_keep h2 (hb b (Bk.mem.2 (.inr (.inl hb')))), h3⟩
  note := h.note.mono fun a b ha hb' ⟨xs, h1, h2, h3⟩ => ⟨xs, RS.row_keep h1 (hb a (Bk.mem.2 (.inr (.inr (.inl ha))))), RS.row_keep h2 (hb b (Bk.mem.2 (.inr (.inr (.inr (.inl hb')))))), h3⟩
  whole := fun x hx => by
    obtain ⟨xs, h1, h2, h3⟩ := h.whole x hx
    have := hb x (Bk.mem.2 (.inr (.inr (.inl hx))))
    exact ⟨xs, RS.full_keep h1 this, RS.row_keep h2 this, h3⟩
  fwhole := fun x hx => by
    obtain ⟨xs, h1, h2, h3⟩ := h.fwhole x hx
    have := hb x (Bk.mem.2 (.inr (.inr (.inr (.inr hx)))))
    exact ⟨xs, RS.full_keep h1 this, RS.row_keep h2 this, h3⟩
  apart := h.apart
  fapart := h.fapart
  offF := h.offF
  offN := h.offN
  offO := h.offO
  fOut := h.fOut
theorem BkOk.ext {φ ψ : Bag K} {kd : K.Kd} {L : Nat} {B : Bk} (h : BkOk φ kd L B) (e : Ext φ ψ) : BkOk ψ kd L B := h.keep fun x hx => by
  obtain ⟨xs, h1⟩ := h.has x hx
  exact e.keep h1
/-- A slice beside the book's lists. -/
structure Alone (φ : Bag K) (kd : K.Kd) (L : Nat) (B : Bk) (x : RS) : Prop where
  whole : x.Whole φ kd L
  off : ∀ y ∈ B.all, x.Off y
theorem RS.Whole.ext {φ ψ : Bag K} {kd : K.Kd} {L : Nat} {x : RS} (h : x.Whole φ kd L) (e : Ext φ ψ) : x.Whole ψ kd L := by
  obtain ⟨xs, h1, h2, h3⟩ := h
  exact ⟨xs, RS.full_keep h1 (e.keep h2), RS.row_keep h2 (e.keep h2), h3⟩
theorem Alone.ext {φ ψ : Bag K} {kd : K.Kd} {L : Nat} {B : Bk} {x : RS} (h : Alone φ kd L B x) (e : Ext φ ψ) : Alone ψ kd L B x := ⟨h.whole.ext e, h.off⟩
theorem BkOk.write {φ : Bag K} {kd : K.Kd} {L : Nat} {B : Bk} {x : RS} {i : BI K} (h : BkOk φ kd L B) (a : ∀ y ∈ B.all, x.Off y) {b : Nat} (hb : x.At b) : BkOk (bput φ b i) kd L B := h.keep fun y hy c hc => bput_other fun e => by
  subst e; exact a y hy c hb hc
/-- A list that waits is taken out. -/
theorem BkOk.take {φ : Bag K} {kd : K.Kd} {L : Nat} {o t w w' n n' f : List RS} {x y : RS} (h : BkOk φ kd L ⟨o, t, w ++ x :: w', n ++ y :: n', f⟩) (e : w.length = n.length) :
    BkOk φ kd L ⟨o, t, w ++ w', n ++ n', f⟩ ∧ Alone φ kd L ⟨o, t, w ++ w', n ++ n', f⟩ x ∧ x.Alike φ kd L y := by
  obtain ⟨h1, h2⟩ := All2.out h.note e
  have mem : ∀ z, z ∈ w ++ w' → z ∈ w ++ x :: w' := fun z hz => by
    rcases List.mem_append.1 hz with h | h <;> simp [h]
  have memn : ∀ z, z ∈ n ++ n' → z ∈ n ++ y :: n' := fun z hz => by
    rcases List.mem_append.1 hz with h | h <;> simp [h]
  have hx : x ∈ w ++ x :: w' := by simp
  have hp := h.apart
  have hp : (w ++ x :: w').Pairwise RS.Off := hp
  rw [List.pairwise_append] at hp
  obtain ⟨p1, p2, p3⟩ := hp
  rw [List.pairwise_cons] at p2
  refine ⟨⟨h.told, h1, fun z hz => h.whole z (mem z hz), h.fwhole, ?_, h.fapart, fun z hz => h.offF z (mem z hz), fun z hz u hu => h.offN z (hz.imp (mem z) id) u (hu.imp id (memn u)), fun z hz => h.offO z (mem z hz), h.fOut⟩, ⟨h.whole x hx, fun z hz => ?_⟩, h2⟩
  · show (w ++ w').Pairwise RS.Off
    rw [List.pairwise_append]
    exact ⟨p1, p2.2, fun a ha b hb => p3 a ha b (by simp [hb])⟩
  · rcases Bk.mem.1 hz with hz | hz | hz | hz | hz
    · exact h.offO x hx z hz
    · exact h.offN x (.inl hx) z (.inl hz)
    · rcases List.mem_append.1 hz with hz | hz
      · exact (p3 z hz x (by simp)).symm
      · exact p2.1 z hz
    · exact h.offN x (.inl hx) z (.inr (memn z hz))
    · exact h.offF x hx z hz
/-- A list comes, with its copy. -/
theorem BkOk.comes {φ : Bag K} {kd : K.Kd} {L : Nat} {o t w n f : List RS} {x y : RS} (h : BkOk φ kd L ⟨o, t, w, n, f⟩) (a : Alone φ kd L ⟨o, t, w, n, f⟩ x) (hy : x.Alike φ kd L y) (oy : ∀ z, z ∈ w ∨ z ∈ f ∨ z = x → z.Off y) :
    BkOk φ kd L ⟨o, t, w ++ [x], n ++ [y], f⟩ where
  told := h.told
  note := h.note.snoc hy
  whole := fun z hz => by
    rcases List.mem_append.1 hz with hz | hz
    · exact h.whole z hz
    · rw [List.mem_singleton.1 hz]; exact a.whole
  fwhole := h.fwhole
  apart := by
    show (w ++ [x]).Pairwise RS.Off
    rw [List.pairwise_append]
    exact ⟨h.apart, by simp, fun z hz u hu => by rw [List.mem_singleton.1 hu]; exact (a.off z (Bk.mem.2 (.inr (.inr (.inl hz))))).symm⟩
  fapart := h.fapart
  offF := fun z hz u hu => by
    rcases List.mem_append.1 hz with hz | hz
    · exact h.offF z hz u hu
    · rw [List.mem_singleton.1 hz]; exact a.off u (Bk.mem.2 (.inr (.inr (.inr (.inr hu)))))
  offN := fun z hz u hu => by
    have hv : u ∈ t ∨ u ∈ n ∨ u = y := hu.imp id fun hu => by
      rcases List.mem_append.1 hu with hu | hu
      · exact .inl hu
      · exact .inr (List.mem_singleton.1 hu)
    clear hu
    have hz' : (z ∈ w ∨ z ∈ f) ∨ z = x := by
      rcases hz with hz | hz
      · rcases List.mem_append.1 hz with hz | hz
        · exact .inl (.inl hz)
        · exact .inr (List.mem_singleton.1 hz)
      · exact .inl (.inr hz)
    clear hz
    rcases hv with hu | hu | rfl
    · rcases hz' with hz | rfl
      · exact h.offN z hz u (.inl hu)
      · exact a.off u (Bk.mem.2 (.inr (.inl hu)))
    · rcases hz' with hz | rfl
      · exact h.offN z hz u (.inr hu)
      · exact a.off u (Bk.mem.2 (.inr (.inr (.inr (.inl hu)))))
    · refine oy z ?_
      rcases hz' with (hz | hz) | hz
      · exact .inl hz
      · exact .inr (.inl hz)
      · exact .inr (.inr hz)
  offO := fun z hz u hu => by
    rcases List.mem_append.1 hz with hz | hz
    · exact h.offO z hz u hu
    · rw [List.mem_singleton.1 hz]; exact a.off u (Bk.mem.2 (.inl hu))
  fOut := h.fOut
/-- A list is noted as it is, behind the end of the book's, what is laid on it too. -/
structure Cur (φ : Bag K) (kd : K.Kd) (L : Nat) (B : Bk) (x : RS) : Prop where
  whole : x.Whole φ kd L
  off : ∀ y, y ∈ B.told ∨ y ∈ B.waits ∨ y ∈ B.note ∨ y ∈ B.fresh → x.Off y
  over : ∀ y ∈ B.out, ∀ b, x.At b → y.At b → y.lo + y.len ≤ x.len
theorem Alone.cur {φ : Bag K} {kd : K.Kd} {L : Nat} {B : Bk} {x : RS} (h : Alone φ kd L B x) : Cur φ kd L B x :=
  ⟨h.whole, fun y hy => h.off y (Bk.mem.2 (.inr hy)), fun y hy b h1 h2 => absurd h2 (h.off y (Bk.mem.2 (.inl hy)) b h1)⟩
theorem Cur.ext {φ ψ : Bag K} {kd : K.Kd} {L : Nat} {B : Bk} {x : RS} (h : Cur φ kd L B x) (e : Ext φ ψ) : Cur ψ kd L B x := ⟨h.whole.ext e, h.off, h.over⟩
theorem BkOk.noted {φ : Bag K} {kd : K.Kd} {L M : Nat} {o t w n f : List RS} {x y : RS} (h : BkOk φ kd L ⟨o, t, w, n, f⟩) (a : Cur φ kd M ⟨o, t, w, n, f⟩ x) (hy : x.Alike φ kd (L + 150) y) (oy : ∀ z, z ∈ w ∨ z ∈ f ∨ z = x → z.Off y) :
    BkOk φ kd L ⟨o ++ [x], t ++ [y], w, n, f⟩ where
  told := h.told.snoc hy
  note := h.note
  whole := h.whole
  fwhole := h.fwhole
  apart := h.apart
  fapart := h.fapart
  offF := h.offF
  offN := fun z hz u hu => by
    have hv : u = y ∨ u ∈ t ∨ u ∈ n := by
      rcases hu with hu | hu
      · rcases List.mem_append.1 hu with hu | hu
        · exact .inr (.inl hu)
        · exact .inl (List.mem_singleton.1 hu)
      · exact .inr (.inr hu)
    clear hu
    rcases hv with rfl | hu
    · exact oy z (hz.imp id .inl)
    · exact h.offN z hz u hu
  offO := fun z hz u hu => by
    rcases List.mem_append.1 hu with hu | hu
    · exact h.offO z hz u hu
    · rw [List.mem_singleton.1 hu]; exact (a.off z (.inr (.inl hz))).symm
  fOut := fun z hz u hu => by
    rcases List.mem_append.1 hu with hu | hu
    · exact h.fOut z hz u hu
    · rw [List.mem_singleton.1 hu]; intro b h1 h2; exact absurd h1 ((a.off z (.inr (.inr (.inr hz)))) b h2)
/-- A list that was written full waits to be laid on. -/
theorem BkOk.freshen {φ : Bag K} {kd : K.Kd} {L : Nat} {o t w n f : List RS} {x : RS} (h : BkOk φ kd L ⟨o, t, w, n, f⟩) (a : Cur φ kd L ⟨o, t, w, n, f⟩ x) : BkOk φ kd L ⟨o, t, w, n, f ++ [x]⟩ where
  told := h.told
  note := h.note
  whole := h.whole
  fwhole := fun z hz => by
    rcases List.mem_append.1 hz with hz | hz
    · exact h.fwhole z hz
    · rw [List.mem_singleton.1 hz]; exact a.whole
  apart := h.apart
  fapart := by
    show (f ++ [x]).Pairwise RS.Off
    rw [List.pairwise_append]
    exact ⟨h.fapart, by simp, fun z hz u hu => by rw [List.mem_singleton.1 hu]; exact (a.off z (.inr (.inr (.inr hz)))).symm⟩
  offF := fun z hz u hu => by
    rcases List.mem_append.1 hu with hu | hu
    · exact h.offF z hz u hu
    · rw [List.mem_singleton.1 hu]; exact (a.off z (.inr (.inl hz))).symm
  offN := fun z hz u hu => by
    rcases hz with hz | hz
    · exact h.offN z (.inl hz) u hu
    · rcases List.mem_append.1 hz with hz | hz
      · exact h.offN z (.inr hz) u hu
      · rw [List.mem_singleton.1 hz]
        rcases hu with hu | hu
        · exact a.off u (.inl hu)
        · exact a.off u (.inr (.inr (.inl hu)))
  offO := h.offO
  fOut := fun z hz u hu => by
    rcases List.mem_append.1 hz with hz | hz
    · exact h.fOut z hz u hu
    · rw [List.mem_singleton.1 hz]; exact a.over u hu
/-- The next one that is laid on. -/
theorem BkOk.next {φ : Bag K} {kd : K.Kd} {L : Nat} {o t w n f : List RS} {x : RS} (h : BkOk φ kd L ⟨o, t, w, n, x :: f⟩) : BkOk φ kd L ⟨o, t, w, n, f⟩ ∧ Cur φ kd L ⟨o, t, w, n, f⟩ x := by
  have hp : (x :: f).Pairwise RS.Off := h.fapart
  rw [List.pairwise_cons] at hp
  have mem : ∀ z, z ∈ f → z ∈ x :: f := fun z hz => by simp [hz]
  have hx : x ∈ x :: f := by simp
  refine ⟨⟨h.told, h.note, h.whole, fun z hz => h.fwhole z (mem z hz), h.apart, hp.2, fun z hz u hu => h.offF z hz u (mem u hu), fun z hz => h.offN z (hz.imp id (mem z)), h.offO, fun z hz => h.fOut z (mem z hz)⟩, ⟨h.fwhole x hx, fun z hz => ?_, h.fOut x hx⟩⟩
  rcases hz with hz | hz | hz | hz
  · exact h.offN x (.inr hx) z (.inl hz)
  · exact (h.offF z hz x hx).symm
  · exact h.offN x (.inr hx) z (.inr hz)
  · exact hp.1 z hz
/-- Something is laid on. -/
theorem BkOk.laid {φ φ' : Bag K} {kd : K.Kd} {L M : Nat} {B : Bk} {x x' : RS} {xs : List (K.α kd)} {v : K.α kd} (h : BkOk φ kd L B) (a : Cur φ kd M B x) (hx : x.full φ kd = some xs) (hp : App φ kd xs [v] x x' φ') :
    BkOk φ' kd L B ∧ Cur φ' kd (M + 1) B x' ∧ x'.len = x.len + 1 ∧ x'.full φ' kd = some (xs ++ [v]) := by
  obtain ⟨ys, w1, w2, w3⟩ := a.whole
  obtain rfl : ys = xs := by rw [hx] at w1; injection w1 with w1; exact w1.symm
  have hlen : ys.length = x.len := RS.row_len w2
  have fin : ∀ b c, φ' = bput φ b (.row kd c (ys ++ [v])) → ys.length + 1 ≤ c → RS.Whole φ' kd (M + 1) (.mk b 0 (ys.length + 1) c) ∧ RS.full φ' kd (.mk b 0 (ys.length + 1) c) = some (ys ++ [v]) := fun b c e hc => by
    subst e
    have h1 := RS.full_of (φ := bput φ b (.row kd c (ys ++ [v]))) (b := b) (kd := kd) (cap := c) (xs := ys ++ [v]) bput_same
    have h2 : RS.full (bput φ b (.row kd c (ys ++ [v]))) kd (.mk b 0 (ys.length + 1) c) = some (ys ++ [v]) := by simpa using h1
    exact ⟨⟨_, h2, RS.full_row h2 (.inl (by simpa [RS.cap] using hc)), by simp; omega⟩, h2⟩
  cases hp with
  | none_ h1 h2 => simp at h2
  | room b c hφ hc =>
    have hc : ys.length + 1 ≤ c := by simpa using hc
    obtain ⟨f1, f2⟩ := fin b c rfl hc
    refine ⟨?_, ⟨f1, fun y hy d hd => a.off y hy d ⟨by simp, hd.2⟩, fun y hy d h1 h2 => ?_⟩, by simp [RS.len], f2⟩
    · have off : ∀ y, y ∈ B.told ∨ y ∈ B.waits ∨ y ∈ B.note ∨ y ∈ B.fresh → ∀ d, y.At d → bput φ b (.row kd c (ys ++ [v])) d = φ d := fun y hy d hd => bput_other fun e => by
        subst e; exact a.off y hy d ⟨by simp, rfl⟩ hd
      refine ⟨h.told.mono fun p q hp hq ⟨zs, h1, h2, h3⟩ => ⟨zs, ?_, RS.row_keep h2 (off q (.inl hq)), h3⟩, h.note.mono fun p q hp hq ⟨zs, h1, h2, h3⟩ => ⟨zs, RS.row_keep h1 (off p (.inr (.inl hp))), RS.row_keep h2 (off q (.inr (.inr (.inl hq)))), h3⟩, fun z hz => ?_, fun z hz => ?_, h.apart, h.fapart, h.offF, h.offN, h.offO, h.fOut⟩
      · cases p with
        | nil => exact h1
        | mk d lo len cap =>
          by_cases e : d = b
          · subst e
            have hov := a.over _ hp d ⟨by simp, rfl⟩ ⟨by simp, rfl⟩
            simp only [RS.lo, RS.len] at hov
            obtain ⟨c', us, hφ', g1, g2, g3, rfl⟩ := RS.row_mk h1
            rw [hφ] at hφ'
            injection hφ' with hφ'
            injection hφ' with _ e1 e2
            subst e1
            subst e2
            have := RS.row_of (φ := bput φ d (.row kd c (ys ++ [v]))) (lo := lo) (len := len) (cap := cap) bput_same (by simp; omega) g2 g3
            rw [this]
            congr 1
            rw [List.drop_append_of_le_length (by omega), List.take_append_of_le_length (by simp; omega)]
          · exact RS.row_keep h1 fun d' hd => bput_other fun e' => e (by have : d = d' := hd.2; omega)
      · obtain ⟨zs, g1, g2, g3⟩ := h.whole z hz
        have := off z (.inr (.inl hz))
        exact ⟨zs, RS.full_keep g1 this, RS.row_keep g2 this, g3⟩
      · obtain ⟨zs, g1, g2, g3⟩ := h.fwhole z hz
        have := off z (.inr (.inr (.inr hz)))
        exact ⟨zs, RS.full_keep g1 this, RS.row_keep g2 this, g3⟩
    · have := a.over y hy d ⟨by simp, h1.2⟩ h2
      simp only [RS.len] at this ⊢
      simp; omega
  | new _ b c hφ hc =>
    have hc : ys.length + 1 ≤ c := by simpa using hc
    obtain ⟨f1, f2⟩ := fin b c rfl hc
    have off : ∀ y ∈ B.all, (RS.mk b 0 (ys.length + 1) c).Off y := fun y hy => by
      obtain ⟨zs, hz⟩ := h.has y hy
      exact (RS.off_none hz (fun d hd => by have : b = d := hd.2; subst this; exact hφ)).symm
    refine ⟨h.ext (Ext.put hφ), ⟨f1, fun y hy => off y (Bk.mem.2 (.inr hy)), fun y hy d h1 h2 => absurd h2 (off y (Bk.mem.2 (.inl hy)) d h1)⟩, ?_, f2⟩
    show ys.length + 1 = x.len + 1
    omega
theorem Alone.write {φ : Bag K} {kd : K.Kd} {L : Nat} {B : Bk} {x : RS} (a : Alone φ kd L B x) {cap : Nat} {xs : List (K.α kd)} (hφ : φ x.blk = some (.row kd cap xs)) (hx : x ≠ .nil) (j : Nat) (v : K.α kd) : Alone (bput φ x.blk (.row kd cap (xs.set j v))) kd L B x := by
  obtain ⟨⟨ys, h1, h2, h3⟩, ho⟩ := a
  cases x with
  | nil => exact absurd rfl hx
  | mk b lo len c =>
    obtain ⟨g1, rfl, rfl⟩ := RS.full_mk h1
    simp only [RS.blk] at hφ ⊢
    rw [g1] at hφ
    injection hφ with hφ
    injection hφ with _ e1 e2
    subst e1 e2
    have hc : ys.length ≤ c := by obtain ⟨_, _, _, _, _, h, _⟩ := RS.row_mk h2; exact h
    have h4 := RS.full_of (φ := bput φ b (.row kd c (ys.set j v))) (b := b) (kd := kd) (cap := c) (xs := ys.set j v) bput_same
    rw [List.length_set] at h4
    exact ⟨⟨_, h4, RS.full_row h4 (.inl (by simpa [RS.cap] using hc)), by simpa using h3⟩, ho⟩
theorem RS.full_lo {φ : Bag K} {kd : K.Kd} {x : RS} {xs : List (K.α kd)} (h : x.full φ kd = some xs) : x.lo = 0 := by
  cases x with
  | nil => rfl
  | mk b lo len c => obtain ⟨_, h, _⟩ := RS.full_mk h; exact h
theorem RS.off_frz {φ φ' : Bag K} {kd : K.Kd} {x y : RS} {xs zs : List (K.α kd)} (h : x.row φ kd = some zs) (hy : Frz φ kd xs y φ') : x.Off y := RS.off_none h hy.at_
/-- A list that was written is noted with its copy, and waits to be laid on. -/
theorem BkOk.written {φ φ' : Bag K} {kd : K.Kd} {L : Nat} {o t w n f : List RS} {x y : RS} {ys : List (K.α kd)} (h : BkOk φ kd L ⟨o, t, w, n, f⟩) (a : Alone φ kd L ⟨o, t, w, n, f⟩ x) (hr : x.row φ kd = some ys) (hy : Frz φ kd ys y φ') :
    BkOk φ' kd L ⟨o ++ [x], t ++ [y], w, n, f ++ [x]⟩ := by
  have oy : ∀ z, z ∈ w ∨ z ∈ f ∨ z = x → z.Off y := fun z hz => by
    rcases hz with hz | hz | rfl
    · obtain ⟨zs, h1⟩ := h.has z (Bk.mem.2 (.inr (.inr (.inl hz))))
      exact RS.off_frz h1 hy
    · obtain ⟨zs, h1⟩ := h.has z (Bk.mem.2 (.inr (.inr (.inr (.inr hz)))))
      exact RS.off_frz h1 hy
    · exact RS.off_frz hr hy
  have a' := a.ext hy.ext
  obtain ⟨zs, w1, w2, w3⟩ := a'.whole
  have hr' : x.row φ' kd = some ys := RS.row_keep hr (hy.ext.keep hr)
  obtain rfl : zs = ys := by rw [hr'] at w2; injection w2 with w2; exact w2.symm
  refine ((h.ext hy.ext).noted a'.cur ⟨zs, hr', hy.whole.2, by omega⟩ oy).freshen ⟨a'.whole, fun z hz => ?_, fun z hz b h1 h2 => ?_⟩
  · rcases hz with hz | hz | hz | hz
    · rcases List.mem_append.1 hz with hz | hz
      · exact a'.off z (Bk.mem.2 (.inr (.inl hz)))
      · rw [List.mem_singleton.1 hz]; exact oy x (.inr (.inr rfl))
    · exact a'.off z (Bk.mem.2 (.inr (.inr (.inl hz))))
    · exact a'.off z (Bk.mem.2 (.inr (.inr (.inr (.inl hz)))))
    · exact a'.off z (Bk.mem.2 (.inr (.inr (.inr (.inr hz)))))
  · rcases List.mem_append.1 hz with hz | hz
    · exact absurd h2 (a'.off z (Bk.mem.2 (.inl hz)) b h1)
    · rw [List.mem_singleton.1 hz, RS.full_lo w1]; omega
/-- A list that was laid on is noted with its copy. -/
theorem BkOk.grown {φ φ' : Bag K} {kd : K.Kd} {L M : Nat} {o t w n f : List RS} {x y : RS} {ys : List (K.α kd)} (h : BkOk φ kd L ⟨o, t, w, n, f⟩) (hM : M ≤ L + 150) (a : Cur φ kd M ⟨o, t, w, n, f⟩ x) (hr : x.row φ kd = some ys) (hy : Frz φ kd ys y φ') :
    BkOk φ' kd L ⟨o ++ [x], t ++ [y], w, n, f⟩ := by
  have oy : ∀ z, z ∈ w ∨ z ∈ f ∨ z = x → z.Off y := fun z hz => by
    rcases hz with hz | hz | rfl
    · obtain ⟨zs, h1⟩ := h.has z (Bk.mem.2 (.inr (.inr (.inl hz))))
      exact RS.off_frz h1 hy
    · obtain ⟨zs, h1⟩ := h.has z (Bk.mem.2 (.inr (.inr (.inr (.inr hz)))))
      exact RS.off_frz h1 hy
    · exact RS.off_frz hr hy
  have a' := a.ext hy.ext
  obtain ⟨zs, w1, w2, w3⟩ := a'.whole
  have hr' : x.row φ' kd = some ys := RS.row_keep hr (hy.ext.keep hr)
  obtain rfl : zs = ys := by rw [hr'] at w2; injection w2 with w2; exact w2.symm
  exact (h.ext hy.ext).noted a' ⟨zs, hr', hy.whole.2, by omega⟩ oy
/-- A list comes, with its copy. -/
theorem BkOk.handed {φ φ' : Bag K} {kd : K.Kd} {L : Nat} {o t w n f : List RS} {x y : RS} {ys : List (K.α kd)} (h : BkOk φ kd L ⟨o, t, w, n, f⟩) (a : Alone φ kd L ⟨o, t, w, n, f⟩ x) (hr : x.row φ kd = some ys) (hy : Frz φ kd ys y φ') :
    BkOk φ' kd L ⟨o, t, w ++ [x], n ++ [y], f⟩ := by
  have oy : ∀ z, z ∈ w ∨ z ∈ f ∨ z = x → z.Off y := fun z hz => by
    rcases hz with hz | hz | rfl
    · obtain ⟨zs, h1⟩ := h.has z (Bk.mem.2 (.inr (.inr (.inl hz))))
      exact RS.off_frz h1 hy
    · obtain ⟨zs, h1⟩ := h.has z (Bk.mem.2 (.inr (.inr (.inr (.inr hz)))))
      exact RS.off_frz h1 hy
    · exact RS.off_frz hr hy
  have a' := a.ext hy.ext
  obtain ⟨zs, w1, w2, w3⟩ := a'.whole
  have hr' : x.row φ' kd = some ys := RS.row_keep hr (hy.ext.keep hr)
  obtain rfl : zs = ys := by rw [hr'] at w2; injection w2 with w2; exact w2.symm
  exact (h.ext hy.ext).comes a' ⟨zs, hr', hy.whole.2, w3⟩ oy
def Bk.Free (B : Bk) (b : Nat) : Prop := ∀ y ∈ B.all, ¬ y.At b
/-- What lies beside the book stays. -/
def Stays (φ : Bag K) (B : Bk) (ψ : Bag K) (C : Bk) : Prop := ∀ b i, φ b = some i → B.Free b → ψ b = some i ∧ C.Free b
theorem Stays.refl (φ : Bag K) (B : Bk) : Stays φ B φ B := fun _ _ h f => ⟨h, f⟩
theorem Stays.trans {φ ψ χ : Bag K} {B C D : Bk} (h : Stays φ B ψ C) (k : Stays ψ C χ D) : Stays φ B χ D := fun b i hb f => k b i (h b i hb f).1 (h b i hb f).2
/-- .. and beside a list that is being written. -/
def Keep1 (φ : Bag K) (B : Bk) (x : RS) (ψ : Bag K) : Prop := ∀ b i, φ b = some i → B.Free b → ¬ x.At b → ψ b = some i
theorem Keep1.put {φ ψ : Bag K} {B : Bk} {x : RS} {j : BI K} (h : Keep1 φ B x ψ) (hx : x ≠ .nil) : Keep1 φ B x (bput ψ x.blk j) := fun b i hb f n => by
  rw [bput_other (fun e => n ⟨hx, e.symm⟩)]; exact h b i hb f n
theorem Keep1.written {φ ψ φ' : Bag K} {kd : K.Kd} {o t w w' n n' f : List RS} {x y z : RS} {zs : List (K.α kd)} (h : Keep1 φ ⟨o, t, w ++ w', n ++ n', f⟩ x ψ) (hy : Frz ψ kd zs y φ') :
    Stays φ ⟨o, t, w ++ x :: w', n ++ z :: n', f⟩ φ' ⟨o ++ [x], t ++ [y], w ++ w', n ++ n', f ++ [x]⟩ := fun b i hb hf => by
  have hx : ¬ x.At b := hf x (by simp [Bk.all])
  have hB : Bk.Free ⟨o, t, w ++ w', n ++ n', f⟩ b := fun q hq => hf q (by
    simp only [Bk.all, List.mem_append, List.mem_cons] at hq ⊢
    rcases hq with hq | hq | (hq | hq) | (hq | hq) | hq <;> simp [hq])
  have h1 := h b i hb hB hx
  refine ⟨hy.ext b i h1, fun q hq => ?_⟩
  have hyb : ¬ y.At b := fun e => by rw [hy.at_ b e] at h1; cases h1
  simp only [Bk.all, List.mem_append, List.mem_singleton] at hq
  have key : q = x ∨ q = y ∨ q ∈ Bk.all ⟨o, t, w ++ w', n ++ n', f⟩ := by
    simp only [Bk.all, List.mem_append]
    rcases hq with (hq | hq) | (hq | hq) | hq | hq | (hq | hq) <;> simp [hq]
  rcases key with rfl | rfl | hq
  · exact hx
  · exact hyb
  · exact hB q hq
theorem App.stay {φ φ' : Bag K} {kd : K.Kd} {xs ys : List (K.α kd)} {x x' : RS} (hp : App φ kd xs ys x x' φ') {b : Nat} {i : BI K} (h : φ b = some i) (hx : ¬ x.At b) : φ' b = some i ∧ ¬ x'.At b := by
  cases hp with
  | none_ _ _ => exact ⟨h, hx⟩
  | room c cap hφ _ =>
    have hc : b ≠ c := fun e => hx ⟨by simp, e.symm⟩
    exact ⟨by rw [bput_other hc]; exact h, fun e => hx ⟨by simp, e.2⟩⟩
  | new _ c cap hφ _ =>
    have hc : b ≠ c := fun e => by rw [e, hφ] at h; cases h
    exact ⟨by rw [bput_other hc]; exact h, fun e => hc e.2.symm⟩
/-- .. and beside a list that is laid on. -/
def Cur1 (φ : Bag K) (B : Bk) (x : RS) (ψ : Bag K) : Prop := ∀ b i, φ b = some i → B.Free b → ψ b = some i ∧ ¬ x.At b
theorem Cur1.app {φ ψ ψ' : Bag K} {B : Bk} {kd : K.Kd} {xs ys : List (K.α kd)} {x x' : RS} (h : Cur1 φ B x ψ) (hp : App ψ kd xs ys x x' ψ') : Cur1 φ B x' ψ' := fun b i hb hf => hp.stay (h b i hb hf).1 (h b i hb hf).2
theorem Cur1.grown {φ ψ φ' : Bag K} {kd : K.Kd} {o t w n f : List RS} {x y z : RS} {zs : List (K.α kd)} (h : Cur1 φ ⟨o, t, w, n, z :: f⟩ x ψ) (hy : Frz ψ kd zs y φ') :
    Stays φ ⟨o, t, w, n, z :: f⟩ φ' ⟨o ++ [x], t ++ [y], w, n, f⟩ := fun b i hb hf => by
  obtain ⟨h1, hx⟩ := h b i hb hf
  refine ⟨hy.ext b i h1, fun q hq => ?_⟩
  have hyb : ¬ y.At b := fun e => by rw [hy.at_ b e] at h1; cases h1
  simp only [Bk.all, List.mem_append, List.mem_singleton] at hq
  have key : q = x ∨ q = y ∨ q ∈ Bk.all ⟨o, t, w, n, z :: f⟩ := by
    simp only [Bk.all, List.mem_append, List.mem_cons]
    rcases hq with (hq | hq) | (hq | hq) | hq | hq | hq <;> simp [hq]
  rcases key with rfl | rfl | hq
  · exact hx
  · exact hyb
  · exact hf q hq
/-- What lies beside the book and a list stays. -/
def StaysX (φ : Bag K) (B : Bk) (x : RS) (ψ : Bag K) (C : Bk) : Prop := ∀ b i, φ b = some i → B.Free b → ¬ x.At b → ψ b = some i ∧ C.Free b
theorem StaysX.trans {φ ψ χ : Bag K} {B C D : Bk} {x : RS} (h : StaysX φ B x ψ C) (k : Stays ψ C χ D) : StaysX φ B x χ D := fun b i hb f n => k b i (h b i hb f n).1 (h b i hb f n).2
theorem Frz.handed {φ φ' : Bag K} {kd : K.Kd} {zs : List (K.α kd)} {o t w n f : List RS} {x y : RS} (hy : Frz φ kd zs y φ') : StaysX φ ⟨o, t, w, n, f⟩ x φ' ⟨o, t, w ++ [x], n ++ [y], f⟩ := fun b i hb hf hx => by
  refine ⟨hy.ext b i hb, fun q hq => ?_⟩
  have hyb : ¬ y.At b := fun e => by rw [hy.at_ b e] at hb; cases hb
  simp only [Bk.all, List.mem_append, List.mem_singleton] at hq
  have key : q = x ∨ q = y ∨ q ∈ Bk.all ⟨o, t, w, n, f⟩ := by
    simp only [Bk.all, List.mem_append]
    rcases hq with hq | hq | (hq | hq) | (hq | hq) | hq <;> simp [hq]
  rcases key with rfl | rfl | hq
  · exact hx
  · exact hyb
  · exact hf q hq
end Go.Proofs.YtndlpbheifalhaaGreatDoor.E
end
