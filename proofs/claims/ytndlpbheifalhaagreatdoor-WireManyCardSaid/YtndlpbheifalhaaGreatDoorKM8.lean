/- Text 9 of 13 texts that prove the statement of Vx; it holds without conditions beyond the statement's own. -/
import Derived.Laws.AppendOwn
import Derived.Laws.OwnMore
import Derived.Deep.MidRow
import Derived.Calls
import Derived.Deep.AppendSrc
import Derived.Maps.AppendAt
import Derived.IntWalk
import Derived.Tactics
import Derived.Laws.StructEq
import Derived.Laws.BytesString
import Derived.Orders
import Derived.Scope
import Derived.Deep.LoopGhost
import Derived.Recover
import Derived.Test.YtndlpbheifalhaaGreatDoorKM7
namespace Go.Proofs.YtndlpbheifalhaaGreatDoor
end Go.Proofs.YtndlpbheifalhaaGreatDoor
namespace Go.Proofs.YtndlpbheifalhaaGreatDoor.E
end Go.Proofs.YtndlpbheifalhaaGreatDoor.E
namespace Go.Proofs.YtndlpbheifalhaaGreatDoor.T
end Go.Proofs.YtndlpbheifalhaaGreatDoor.T
namespace Go.Proofs.YtndlpbheifalhaaGreatDoor.TwireMany
end Go.Proofs.YtndlpbheifalhaaGreatDoor.TwireMany
namespace Go.Proofs.YtndlpbheifalhaaGreatDoor.V
end Go.Proofs.YtndlpbheifalhaaGreatDoor.V
section
namespace Go.Proofs.YtndlpbheifalhaaGreatDoor.E
set_option linter.unusedVariables false
set_option linter.unusedSimpArgs false
variable {K : Kinds} {P : Program} {S : Nat → Prop} {w0 w : World} {r : Nat → Ref} {H : VH K} {Ds : List Deferred}
/-- A value of one cell that holds no name. -/
def VC1 (v : Value) : C := .lit v
theorem VC1_is {r : Nat → Ref} (v : Value) : (VV.c (VC1 v)).is r v := rfl
/-- A deferred call of a function. -/
def dOf (f : FuncId) (vals : List Value) : Deferred := { target := .fn (.func f) #[], args := vals.toArray }
/-- A contract of a function that is called at another one's end: in one mode of the frame below, that then is in another. -/
structure CtOkD (P : Program) (f : FuncId) (u u1 : FrameMode) (ct : Ct K) : Prop where
  enter : ∀ args w, (callFunc f args).run P w = .ok (.enter f args) w
  calls : ct.need → ∀ (r : Nat → Ref) (w : World) (vals : List Value), HeapOK (Ours r ct.pre) w r ct.pre w → Are r ct.args vals → (∀ x ∈ ct.args, x.lt ct.pre.length) →
    CallsD P f vals.toArray u w fun e u' w' => u' = u1 ∧ ct.Ends r w e w'
theorem evCall_soundD (hK : K.Ok) {f : FuncId} {u u1 : FrameMode} {ct : Ct K} {ks : List K.Kd} {τ : List Nat} {args : List VV} {kp : List PanicEntry → VH K → Prop} {k : VV → VH K → Prop} (hct : CtOkD P f u u1 ct) (st : HeapOK S w0 r H w) (h : evCall ct ks τ args H kp k) {vals : List Value} (ha : Are r args vals) (hal : ∀ x ∈ args, x.lt H.length) :
    CallsD P f vals.toArray u w fun e u' w' => u' = u1 ∧ ((∃ v', e = .returned v' ∧ After S w0 r H k v' w') ∨ ∃ ch, e = .panicked ch ∧ AfterP S w0 r H kp ch w') :=
  evCall_frame hK st h ha hal (X := fun R => CallsD P f vals.toArray u w fun e u' w' => u' = u1 ∧ R e w') (fun hx hr => hx.mono fun e u' w' h => ⟨h.1, hr _ _ h.2⟩) fun hn r st ha hal => hct.calls hn r w vals st ha hal
/-- A proposition that is not looked into. -/
structure Bx (p : Prop) : Prop where
  out : p
/-- A function that recovers first, called at another one's end. -/
theorem CtOkD_of (hK : K.Ok) (tab : Tab P K) (ann : Ann K) {f : FuncId} {fn : Func} {ct : Ct K} {id : Nat} {o : Oper} {c : Code} {t : Tmp} {u u1 : FrameMode} {v : Value} (hf : P.funcs[f]? = some fn) (henter : ∀ args w, (callFunc f args).run P w = .ok (.enter f args) w)
    (hb : fn.body = some (.seq (.region id #[o] false) c)) (ho : ∀ ρ w, (execOp ρ o).run P w = .ok .recover w) (hd : o.dst = some t) (hg : o.guard = none)
    (hrec : ∀ (c₀ : Frame) (cs : List Frame), c₀.mode = u → (match recoverD (c₀ :: cs) with | some (v', cs') => v' = v ∧ cs' = { c₀ with mode := u1 } :: cs | none => v = .nilIface ∧ u1 = u)) (hv : (VC1 v).nm = none)
    (h : ct.need → Bx (evCode tab ann ct.pre.length c ((ct.args ++ List.replicate (fn.ntmps - ct.args.length) VV.any).set t (.c (VC1 v))) ct.pre (fnEnd P ct.pre.length fn.results.toList ct))) : CtOkD P f u u1 ct := by
  refine ⟨henter, fun hneed r w vals st ha hal => ?_⟩
  have h' := (h hneed).out
  have hlen := ha.length
  have st0 : StOK [] (Ours r ct.pre) w r ct.pre.length r (ct.args ++ List.replicate (fn.ntmps - ct.args.length) .any) ct.pre { tmps := vals.toArray ++ Array.replicate (fn.ntmps - vals.toArray.size) undef, defers := [] } w :=
    ⟨st, ⟨by simpa using Are_append _ _ ha (by rw [hlen]), fun x hx => by
      rcases List.mem_append.1 hx with hx | hx
      · exact hal x hx
      · obtain rfl := (List.mem_replicate.1 hx).2; trivial, rfl⟩, Nat.le_refl _, fun _ _ => rfl⟩
  have st1 : StOK [] (Ours r ct.pre) w r ct.pre.length r ((ct.args ++ List.replicate (fn.ntmps - ct.args.length) VV.any).set t (.c (VC1 v))) ct.pre (({ tmps := vals.toArray ++ Array.replicate (fn.ntmps - vals.toArray.size) undef, defers := [] } : Act).put (some t) v) w :=
    ⟨st, st0.frame.put (v := .c (VC1 v)) (u := v) (fun _ _ => rfl) (Nat.le_refl _) (VC1_is v) (fun n hn => by rw [hv] at hn; cases hn) (some t), Nat.le_refl _, fun _ _ => rfl⟩
  refine callsD_of_wpS hf hb fun c₀ cs hu => wpS_seq (wpS_region ?_)
  have hrange : List.range (#[o] : Array Oper).size = [0] := rfl
  rw [hrange]
  have fin : ∀ {e : Exit} {a' : Act} {w' : World}, QOf [] (Ours r ct.pre) w r ct.pre.length (fnEnd P ct.pre.length fn.results.toList ct) e a' w' → bodyPostS P fn c₀ cs (fun e u' w' => u' = u1 ∧ ct.Ends r w e w') e a' ({ c₀ with mode := u1 } :: cs) w' := fun {e a' w'} hq => by
    obtain ⟨r', fr', H', hk, hs⟩ := hq
    have fin : guardP ct.rets (resAll P H' fr' fn.results.toList (fun vs => EndsAs ct.pre.length ct (retV vs) H')) → ∃ v, (results fn a'.tmps).run P w' = .ok v w' ∧ ct.Ends r w (.returned v) w' := fun hk => by
      obtain ⟨hrt, hk⟩ := guardP_iff.1 hk
      obtain ⟨vs, u, hr, ⟨y, ks, τ, hok, hi⟩, hv, hl⟩ := results_sound hK hs hk
      obtain ⟨hnr, hi⟩ := guardP_iff.1 hi
      obtain ⟨r2, hh, hN, hrr, har, hlt⟩ := Into_sound hK hs.heap (vals := [u]) (show Are r' [retV vs] [u] from ⟨hv, trivial⟩) (fun x hx => by simp at hx; subst hx; exact hl) hi
      exact ⟨u, hr, .inl ⟨hrt, u, rfl, r2, ct.ret y, ct.post y, ⟨y, hok, rfl, rfl⟩, har.1, hlt _ (by simp), hN, fun n hn => (hrr n hn (Nat.lt_of_lt_of_le hn hs.len)).trans (hs.keep n hn), RoKeep.none hnr, hh⟩⟩
    cases e with
    | normal => obtain ⟨v, h1, h2⟩ := fin hk; exact ⟨hs.frame.defers, u1, rfl, v, h1, rfl, h2⟩
    | ret => obtain ⟨v, h1, h2⟩ := fin hk; exact ⟨hs.frame.defers, u1, rfl, v, h1, rfl, h2⟩
    | panic ch =>
      have hk : EndsP ct.pre.length ct ch H' := hk
      unfold EndsP at hk
      split at hk
      · exact hk.elim
      rename_i p hp
      obtain ⟨z, ks, τ, hok, hch, hi⟩ := hk
      obtain ⟨hnr, hi⟩ := guardP_iff.1 hi
      obtain ⟨r2, hh, hN, hrr, har, hlt⟩ := Into_sound hK hs.heap (vals := []) (show Are r' [] [] from trivial) (fun x hx => by cases hx) hi
      exact ⟨hs.frame.defers, u1, rfl, rfl, .inr ⟨ch, rfl, r2, .any, p.post z, ⟨p, hp, z, hok, hch.symm, rfl⟩, trivial, trivial, hN, fun n hn => (hrr n hn (Nat.lt_of_lt_of_le hn hs.len)).trans (hs.keep n hn), RoKeep.none hnr, hh⟩⟩
    | _ => exact hk.elim
  have rest : c.wpS P (bodyPostS P fn c₀ cs fun e u' w' => u' = u1 ∧ ct.Ends r w e w') (({ tmps := vals.toArray ++ Array.replicate (fn.ntmps - vals.toArray.size) undef, defers := [] } : Act).put (some t) v) ({ c₀ with mode := u1 } :: cs) w :=
    wpS_of_wp (wp_mono (evCode_sound hK tab ann c st1 h') fun e a' w' hq => fin hq)
  simp only [wpOpsS, List.getElem?_toArray, List.getElem?_cons_zero, Region.wanted, hg, if_true, ho]
  have hr := hrec c₀ cs hu
  split at hr
  · rename_i v' cs' he
    obtain ⟨rfl, rfl⟩ := hr
    rw [he, hd]
    exact rest
  · rename_i he
    obtain ⟨rfl, rfl⟩ := hr
    rw [he, hd]
    have e1 : ({ c₀ with mode := u1 } : Frame) = c₀ := by subst hu; rfl
    rw [e1] at rest
    exact rest
/-- What a deferred function does: at a return, and at a panic (that it recovers from). -/
structure Dfr (P : Program) (K : Kinds) (f : FuncId) where
  ret : List C → VH K → Option (Ct K × List K.Kd × List Nat)
  pan : List C → List PanicEntry → VH K → Option (Ct K × List K.Kd × List Nat)
  enter : ∀ args w, (callFunc f args).run P w = .ok (.enter f args) w
  ret_ok : ∀ vs H ct ks τ, ret vs H = some (ct, ks, τ) → CtOkD P f .returning .returning ct
  pan_ok : ∀ vs ch H ct ks τ, pan vs ch H = some (ct, ks, τ) → ∃ u1, settle u1 = .returning ∧ CtOkD P f (.panicking ch) u1 ct
theorem evOps_soundL (hK : K.Ok) (tab : Tab P K) {fz : Nat → List (Nat × TypeId)} {r0 : Nat → Ref} {N0 : Nat} {ops : Array Oper} {Q : Exit → Act → World → Prop} {κp : List PanicEntry → List VV → VH K → Prop} {κ : List VV → VH K → Prop} {l' : List Nat}
    (hq : ∀ r fr H a w, κ fr H → StOK Ds S w0 r0 N0 r fr H a w → wpOps P ops Q l' a w) (hp : ∀ ch r fr H a w, κp ch fr H → StOK Ds S w0 r0 N0 r fr H a w → Q (.panic ch) a w) :
    ∀ (l : List Nat) {r : Nat → Ref} {fr : List VV} {H : VH K} {a : Act} {w : World}, StOK Ds S w0 r0 N0 r fr H a w → evOps tab fz ops κp l fr H κ → wpOps P ops Q (l ++ l') a w
  | [], r, fr, H, a, w, st, h => by
    obtain ⟨fr', H', h', st'⟩ := evFrzs_sound st h
    exact hq r fr' H' a w h' st'
  | i :: rest, r, fr, H, a, w, st, h => by
    rw [List.cons_append, wpOps_cons]
    unfold wpOp
    simp only [evOps] at h
    cases ho : ops[i]? with
    | none => simp only [ho] at h ⊢; exact evOps_soundL hK tab hq hp rest st h
    | some o =>
      simp only [ho] at h ⊢
      obtain ⟨fr1, H1, h, st⟩ := evFrzs_sound st h
      exact evStep_sound hK tab st h (fun r' fr' H' a' w' hk hs => evOps_soundL hK tab hq hp rest hs hk) fun ch r' fr' H' w' hk hs => hp ch r' fr' H' a w' hk hs
/-- The deferred call that a region ends with. -/
def dferOf (ops : Array Oper) : Option (FuncId × List Operand) := match ops[ops.size - 1]? with
  | some o => match o.op, o.dst, o.guard, Nat.ble 1 ops.size with
    | .defer c, none, none, true => match c.callee with
      | .value (.func f) => some (f, c.args.toList)
      | _ => none
    | _, _, _, _ => none
  | none => none
def cellsOf (N0 : Nat) : List VV → Option (List C)
  | [] => some []
  | .one (.c c) :: t => match (match c.nm with | none => true | some n => Nat.blt n N0) with
    | true => (cellsOf N0 t).map (c :: ·)
    | false => none
  | _ => none
theorem cellsOf_are {r : Nat → Ref} {N0 : Nat} : ∀ {xs : List VV} {vs : List Value} {l : List C}, cellsOf N0 xs = some l → Are r xs vs → Are r (l.map VV.c) vs ∧ ∀ c ∈ l, c.lt N0
  | [], [], l, h, _ => by simp only [cellsOf, Option.some.injEq] at h; subst h; exact ⟨trivial, fun c hc => by cases hc⟩
  | [], _ :: _, _, _, h => h.elim
  | _ :: _, [], _, _, h => h.elim
  | x :: xs, v :: vs, l, h, ha => by
    unfold cellsOf at h
    split at h
    · rename_i heq; cases heq
    · rename_i c t heq
      injection heq with h1 h2
      subst h1 h2
      split at h
      · rename_i hc
        cases hm : cellsOf N0 xs with
        | none => rw [hm] at h; cases h
        | some m =>
          rw [hm] at h
          simp only [Option.map_some, Option.some.injEq] at h
          subst h
          obtain ⟨e1, e2⟩ := cellsOf_are hm ha.2
          refine ⟨⟨ha.1, e1⟩, fun d hd => ?_⟩
          rcases List.mem_cons.1 hd with rfl | hd
          · intro n hn
            rw [hn] at hc
            exact Nat.blt_eq.mp hc
          · exact e2 d hd
      · cases h
    · cases h
/-- Code whose straight way comes to a deferred call. -/
def evCodeD (tab : Tab P K) (ann : Ann K) (N0 : Nat) : Code → List VV → VH K → (Exit → List VV → VH K → Prop) → (FuncId → List C → Exit → List VV → VH K → Prop) → Prop
  | .seq x y, fr, H, κ, κd => match x with
    | .region id ops false => match dferOf ops with
      | some (f, xs) => evOps tab (ann.frzOp id) ops (fun ch => κ (.panic ch)) (List.range (ops.size - 1)) fr H fun fr H => match cellsOf N0 (xs.map (getO fr)) with
        | some vs => evCode tab ann N0 y fr H (κd f vs)
        | none => False
      | none => evCode tab ann N0 x fr H (thenK (fun fr' H' => evCodeD tab ann N0 y fr' H' κ κd) κ)
    | x => evCode tab ann N0 x fr H (thenK (fun fr' H' => evCodeD tab ann N0 y fr' H' κ κd) κ)
  | _, _, _, _, _ => False
/-- What is owed where the deferred call is known. -/
def QOfD (P : Program) (S : Nat → Prop) (w0 : World) (r0 : Nat → Ref) (N0 : Nat) (κ : Exit → List VV → VH K → Prop) (κd : FuncId → List C → Exit → List VV → VH K → Prop) (e : Exit) (a : Act) (w : World) : Prop :=
  QOf [] S w0 r0 N0 κ e a w ∨ ∃ f vs vals, (∀ c ∈ vs, c.lt N0) ∧ Are r0 (vs.map VV.c) vals ∧ QOf [dOf f vals] S w0 r0 N0 (κd f vs) e a w
theorem evCodeD_sound (hK : K.Ok) (tab : Tab P K) (ann : Ann K) {r0 : Nat → Ref} {N0 : Nat} : ∀ (c : Code) {r : Nat → Ref} {fr : List VV} {H : VH K} {a : Act} {w : World} {κ : Exit → List VV → VH K → Prop} {κd : FuncId → List C → Exit → List VV → VH K → Prop},
    StOK [] S w0 r0 N0 r fr H a w → evCodeD tab ann N0 c fr H κ κd → c.wp P (QOfD P S w0 r0 N0 κ κd) a w
  | .seq x y, r, fr, H, a, w, κ, κd, st, h => by
    have gen : evCode tab ann N0 x fr H (thenK (fun fr' H' => evCodeD tab ann N0 y fr' H' κ κd) κ) → (Code.seq x y).wp P (QOfD P S w0 r0 N0 κ κd) a w := fun h => by
      refine wp_seq (wp_mono (evCode_sound hK tab ann x st h) fun e a' w' hq => ?_)
      obtain ⟨r', fr', H', hk, hs⟩ := hq
      cases e with
      | normal => exact evCodeD_sound hK tab ann y hs hk
      | _ => exact .inl ⟨r', fr', H', hk, hs⟩
    unfold evCodeD at h
    split at h
    · rename_i id ops
      split at h
      · rename_i f xs hd
        unfold dferOf at hd
        split at hd
        · rename_i o ho
          split at hd
          · rename_i c hop hdst hgd hsz
            split at hd
            · rename_i f' hcal
              simp only [Option.some.injEq, Prod.mk.injEq] at hd
              obtain ⟨rfl, rfl⟩ := hd
              have hsz : 1 ≤ ops.size := Nat.le_of_ble_eq_true hsz
              refine wp_seq (wp_region ?_)
              have hr : List.range ops.size = List.range (ops.size - 1) ++ [ops.size - 1] := by
                conv => lhs; rw [show ops.size = (ops.size - 1) + 1 by omega]
                rw [List.range_succ]
              rw [hr]
              refine evOps_soundL hK tab (κp := fun ch => κ (.panic ch)) (fun r fr H a w hk hs => ?_) (fun ch r fr H a w hk hs => .inl ⟨r, fr, H, hk, hs⟩) _ st h
              split at hk
              · rename_i vs hvs
                obtain ⟨e1, e2⟩ := cellsOf_are hvs (Are_of hs.frame c.args.toList)
                rw [wpOps_cons]
                unfold wpOp
                rw [ho]
                obtain ⟨dst, op, type, pos, after, guard⟩ := o
                simp only at hop hdst hgd
                subst hop hdst hgd
                obtain ⟨callee, args, ats⟩ := c
                simp only at hcal
                subst hcal
                simp only [Region.wanted, if_true]
                refine .inl ?_
                have hrun : (execOp a.eval { dst := none, op := .defer { callee := .value (.func f'), args, argTypes := ats }, type, pos, after, guard := none }).run P w = .ok (.defer (dOf f' (args.toList.map a.eval))) w := by
                  have : (args.toList.map a.eval).toArray = args.map a.eval := by apply Array.ext'; simp
                  unfold dOf
                  rw [this]
                  simp [execOp, resolve, Act.eval, Deferred.ofValue]
                unfold Oper.wp
                rw [hrun, Oper.upon_defer]
                have hs' : StOK [dOf f' (args.toList.map a.eval)] S w0 r0 N0 r fr H { a with defers := dOf f' (args.toList.map a.eval) :: a.defers } w :=
                  ⟨hs.heap, ⟨hs.frame.is, hs.frame.lt, congrArg (List.cons _) hs.frame.defers⟩, hs.len, hs.keep⟩
                have e1' : Are r0 (vs.map VV.c) (args.toList.map a.eval) := e1.congr (N := N0) (fun n hn => (hs.keep n hn).symm) (fun x hx => by
                  obtain ⟨c, hc, rfl⟩ := List.mem_map.1 hx
                  exact e2 c hc)
                exact wp_mono (evCode_sound hK tab ann y hs' hk) fun e a' w' hq => .inr ⟨f', vs, _, e2, e1', hq⟩
              · exact hk.elim
            · cases hd
          · cases hd
        · cases hd
      · exact gen h
    · exact gen h
  | .skip, _, _, _, _, _, _, _, _, h => h.elim
  | .region _ _ _, _, _, _, _, _, _, _, _, h => h.elim
  | .cond _ _ _, _, _, _, _, _, _, _, _, h => h.elim
  | .block _ _, _, _, _, _, _, _, _, _, h => h.elim
  | .loop _, _, _, _, _, _, _, _, _, h => h.elim
  | .rangeFunc _ _ _ _, _, _, _, _, _, _, _, _, h => h.elim
  | .exit _, _, _, _, _, _, _, _, _, h => h.elim
  | .scope _, _, _, _, _, _, _, _, _, h => h.elim
  | .label _, _, _, _, _, _, _, _, _, h => h.elim
  | .goto _, _, _, _, _, _, _, _, _, h => h.elim
  | .ret, _, _, _, _, _, _, _, _, h => h.elim
  | .refuse _, _, _, _, _, _, _, _, _, h => h.elim
/-- What the end of a function with a deferred call owes. -/
def endD (P : Program) (N0 : Nat) (rs : List ResultVar) (ct : Ct K) (vs : List C) (fr : List VV) (H : VH K) (c : Option (Ct K × List K.Kd × List Nat)) : Prop := match c with
  | some (ct', ks, τ) => evCall ct' ks τ (vs.map VV.c) H (fun _ _ => False) fun _ H' => guardP ct.rets (resAll P H' fr rs fun us => EndsAs N0 ct (retV us) H')
  | none => False
def fnEndD (P : Program) (N0 : Nat) (rs : List ResultVar) (ct : Ct K) {g : FuncId} (D : Dfr P K g) (f : FuncId) (vs : List C) : Exit → List VV → VH K → Prop
  | .normal, fr, H => guardP (f == g) (endD P N0 rs ct vs fr H (D.ret vs H))
  | .ret, fr, H => guardP (f == g) (endD P N0 rs ct vs fr H (D.ret vs H))
  | .panic ch, fr, H => guardP (f == g) (endD P N0 rs ct vs fr H (D.pan vs ch H))
  | _, _, _ => False
def evFnD (tab : Tab P K) (ann : Ann K) (fn : Func) (ct : Ct K) {g : FuncId} (D : Dfr P K g) : Prop :=
  match fn.body with
  | some c => evCodeD tab ann ct.pre.length c (ct.args ++ List.replicate (fn.ntmps - ct.args.length) .any) ct.pre (fnEnd P ct.pre.length fn.results.toList ct) (fnEndD P ct.pre.length fn.results.toList ct D)
  | none => False
theorem CtOk_ofD (hK : K.Ok) (tab : Tab P K) (ann : Ann K) {g : FuncId} (D : Dfr P K g) {f : FuncId} {fn : Func} {ct : Ct K} (hf : P.funcs[f]? = some fn) (henter : ∀ args w, (callFunc f args).run P w = .ok (.enter f args) w)
    (h : ct.need → evFnD tab ann fn ct D) : CtOk P f ct := by
  refine ⟨henter, fun hneed r w vals st ha hal => ?_⟩
  have h' := h hneed
  unfold evFnD at h'
  cases hb : fn.body with
  | none => simp only [hb] at h'
  | some c =>
    simp only [hb] at h'
    have hlen := ha.length
    have st0 : StOK [] (Ours r ct.pre) w r ct.pre.length r (ct.args ++ List.replicate (fn.ntmps - ct.args.length) .any) ct.pre { tmps := vals.toArray ++ Array.replicate (fn.ntmps - vals.toArray.size) undef, defers := [] } w :=
      ⟨st, ⟨by simpa using Are_append _ _ ha (by rw [hlen]), fun x hx => by
        rcases List.mem_append.1 hx with hx | hx
        · exact hal x hx
        · obtain rfl := (List.mem_replicate.1 hx).2; trivial, rfl⟩, Nat.le_refl _, fun _ _ => rfl⟩
    refine calls_of_wp_defers hf hb (wp_mono (evCodeD_sound hK tab ann c st0 h') fun e a' w' hq => ?_)
    have fin : ∀ {Ds : List Deferred} {r' : Nat → Ref} {fr' : List VV} {H' : VH K} {w' : World}, StOK Ds (Ours r ct.pre) w r ct.pre.length r' fr' H' a' w' → guardP ct.rets (resAll P H' fr' fn.results.toList (fun vs => EndsAs ct.pre.length ct (retV vs) H')) → ∃ v, (results fn a'.tmps).run P w' = .ok v w' ∧
        ct.Ends r w (.returned v) w' := fun {Ds r' fr' H' w'} hs hk => by
      obtain ⟨hrt, hk⟩ := guardP_iff.1 hk
      obtain ⟨vs, u, hr, ⟨y, ks, τ, hok, hi⟩, hv, hl⟩ := results_sound hK hs hk
      obtain ⟨hnr, hi⟩ := guardP_iff.1 hi
      obtain ⟨r2, hh, hN, hrr, har, hlt⟩ := Into_sound hK hs.heap (vals := [u]) (show Are r' [retV vs] [u] from ⟨hv, trivial⟩) (fun x hx => by simp at hx; subst hx; exact hl) hi
      exact ⟨u, hr, .inl ⟨hrt, u, rfl, r2, ct.ret y, ct.post y, ⟨y, hok, rfl, rfl⟩, har.1, hlt _ (by simp), hN, fun n hn => (hrr n hn (Nat.lt_of_lt_of_le hn hs.len)).trans (hs.keep n hn), RoKeep.none hnr, hh⟩⟩
    rcases hq with ⟨r', fr', H', hk, hs⟩ | ⟨f', vs, vals', hvs, hav, r', fr', H', hk, hs⟩
    · have hd := hs.frame.defers
      cases e with
      | normal => show Leaves _ _ _ _ _ _ _; rw [hd]; exact fin hs hk
      | ret => show Leaves _ _ _ _ _ _ _; rw [hd]; exact fin hs hk
      | panic ch =>
        show Leaves _ _ _ _ _ _ _
        rw [hd]
        have hk : EndsP ct.pre.length ct ch H' := hk
        unfold EndsP at hk
        split at hk
        · exact hk.elim
        rename_i p hp
        obtain ⟨z, ks, τ, hok, hch, hi⟩ := hk
        obtain ⟨hnr, hi⟩ := guardP_iff.1 hi
        obtain ⟨r2, hh, hN, hrr, har, hlt⟩ := Into_sound hK hs.heap (vals := []) (show Are r' [] [] from trivial) (fun x hx => by cases hx) hi
        exact .inr ⟨ch, rfl, r2, .any, p.post z, ⟨p, hp, z, hok, hch.symm, rfl⟩, trivial, trivial, hN, fun n hn => (hrr n hn (Nat.lt_of_lt_of_le hn hs.len)).trans (hs.keep n hn), RoKeep.none hnr, hh⟩
      | _ => exact hk.elim
    · have hd := hs.frame.defers
      have hav' : Are r' (vs.map VV.c) vals' := hav.congr (N := ct.pre.length) (fun n hn => hs.keep n hn) (fun x hx => by
        obtain ⟨c, hc, rfl⟩ := List.mem_map.1 hx
        exact hvs c hc)
      have hvl : ∀ x ∈ vs.map VV.c, x.lt H'.length := fun x hx => by
        obtain ⟨c, hc, rfl⟩ := List.mem_map.1 hx
        exact C.lt_mono (hvs c hc) hs.len
      have inv : (invoke (.fn (.func g) #[]) vals'.toArray).run P w' = .ok (.enter g vals'.toArray) w' := by
        have := D.enter vals'.toArray w'
        simpa [invoke] using this
      have back : ∀ {u u1 : FrameMode} {c : Option (Ct K × List K.Kd × List Nat)}, f' = g → u ≠ .run → settle u1 = .returning → (∀ ct' ks τ, c = some (ct', ks, τ) → CtOkD P g u u1 ct') → endD P ct.pre.length fn.results.toList ct vs fr' H' c → Leaves P fn a'.tmps (ct.Ends r w) [dOf f' vals'] u w' := fun {u u1 c} ef hu hset hc hk2 => by
        subst ef
        unfold endD at hk2
        split at hk2
        · rename_i ct' ks τ
          refine leaves_cons hu inv ((evCall_soundD hK (hc _ _ _ rfl) hs.heap hk2 hav' hvl).mono fun e u' w2 hq => ?_)
          obtain ⟨rfl, ⟨v', rfl, r2, vv, H2, hk3, _, _, hle, hr, _, hh⟩ | ⟨ch, rfl, _, _, _, hno, _⟩⟩ := hq
          · show Leaves P fn a'.tmps (ct.Ends r w) [] (settle u') w2
            rw [hset]
            have hs2 : StOK [dOf f' vals'] (Ours r ct.pre) w r ct.pre.length r2 fr' H2 a' w2 := ⟨hh, hs.frame.grow hr hle, Nat.le_trans hs.len hle, fun n hn => (hr n (Nat.lt_of_lt_of_le hn hs.len)).trans (hs.keep n hn)⟩
            exact fin hs2 hk3
          · exact hno.elim
        · exact hk2.elim
      cases e with
      | normal =>
        obtain ⟨hg, hk⟩ := guardP_iff.1 (show guardP (f' == g) _ from hk)
        show Leaves _ _ _ _ _ _ _
        rw [hd]
        exact back (beq_iff_eq.1 hg) (by simp) (by rfl) (fun ct' ks τ h => D.ret_ok _ _ _ _ _ h) hk
      | ret =>
        obtain ⟨hg, hk⟩ := guardP_iff.1 (show guardP (f' == g) _ from hk)
        show Leaves _ _ _ _ _ _ _
        rw [hd]
        exact back (beq_iff_eq.1 hg) (by simp) (by rfl) (fun ct' ks τ h => D.ret_ok _ _ _ _ _ h) hk
      | panic ch =>
        obtain ⟨hg, hk⟩ := guardP_iff.1 (show guardP (f' == g) _ from hk)
        show Leaves _ _ _ _ _ _ _
        rw [hd]
        cases hc : D.pan vs ch H' with
        | none => rw [hc] at hk; exact hk.elim
        | some c =>
          obtain ⟨ct', ks, τ⟩ := c
          obtain ⟨u1, hset, hok⟩ := D.pan_ok _ _ _ _ _ _ hc
          rw [hc] at hk
          exact back (beq_iff_eq.1 hg) (by simp) hset (fun ct2 ks2 τ2 h => by cases h; exact hok) hk
      | _ => exact hk.elim
end Go.Proofs.YtndlpbheifalhaaGreatDoor.E
end
section
namespace Go.Proofs.YtndlpbheifalhaaGreatDoor.E
set_option linter.unusedVariables false
set_option linter.unusedSimpArgs false
variable {K : Kinds} {P : Program}
def bdel (φ : Bag K) (b : Nat) : Bag K := fun c => if c = b then none else φ c
theorem bdel_same {φ : Bag K} {b : Nat} : bdel φ b b = none := if_pos rfl
theorem bdel_other {φ : Bag K} {b c : Nat} (h : c ≠ b) : bdel φ b c = φ c := if_neg h
def refAt (r : Nat → Ref) (b : Nat) : Nat → Ref := fun n => if n = 1 then ⟨b, 0, 0, false, 0⟩ else r n
theorem HeapOK.unbox {r : Nat → Ref} {w : World} {φ : Bag K} {b : Nat} {T : TypeId} {cs : List C} (st : HeapOK (Ours r [.bag φ]) w r [.bag φ] w) (hb : φ b = some (.box T cs)) :
    HeapOK (Ours (refAt r b) [.bag (bdel φ b), .cells T cs]) w (refAt r b) [.bag (bdel φ b), .cells T cs] w ∧ ∀ c, Ours (refAt r b) [.bag (bdel φ b), .cells T cs] c ↔ Ours r [.bag φ] c := by
  have h0 : ∀ c, blkOf (refAt r b) [Atom.bag (bdel φ b), .cells T cs] 0 c ↔ ∃ i, bdel φ b c = some i := fun c => Iff.rfl
  have h1 : ∀ c, blkOf (refAt r b) [Atom.bag (bdel φ b), .cells T cs] 1 c ↔ b = c := fun c => Iff.rfl
  have h2 : ∀ n, n ≠ 0 → n ≠ 1 → at_ [Atom.bag (bdel φ b), .cells T cs] n = .gone := fun n n0 n1 => at_ge (by simp; omega)
  have hg : ∀ n c, n ≠ 0 → n ≠ 1 → ¬ blkOf (refAt r b) [Atom.bag (bdel φ b), .cells T cs] n c := fun n c n0 n1 h => by rw [blkOf, h2 n n0 n1] at h; exact h
  have hbag : ∀ c i, φ c = some i → i.ok c w := st.ok 0
  obtain ⟨p1, p2⟩ := hbag b _ hb
  refine ⟨⟨fun n => ?_, fun n => ?_, fun n m c hne hn hm => ?_, fun n c hn => .inl ⟨n, hn⟩, fun n m c hn => ?_, Out.refl _ w⟩, fun c => ⟨fun ⟨n, hn⟩ => ?_, fun ⟨n, hn⟩ => ?_⟩⟩
  · by_cases n0 : n = 0
    · subst n0
      intro c i hi
      have hi : bdel φ b c = some i := hi
      unfold bdel at hi
      split at hi
      · cases hi
      · exact hbag c i hi
    · by_cases n1 : n = 1
      · subst n1
        exact ⟨⟨rfl, rfl⟩, _, p2, Rel.plain fun c hc => (p1 c hc).1⟩
      · rw [h2 n n0 n1]; trivial
  · by_cases n0 : n = 0
    · subst n0; trivial
    · by_cases n1 : n = 1
      · subst n1
        exact fun c hc => ⟨lt_of_nm (p1 c hc).1, (p1 c hc).2⟩
      · rw [h2 n n0 n1]; trivial
  · by_cases n0 : n = 0
    · subst n0
      obtain ⟨i, hi⟩ := (h0 c).1 hn
      by_cases m1 : m = 1
      · subst m1
        have := (h1 c).1 hm
        subst this
        rw [bdel_same] at hi; cases hi
      · exact hg m c (fun e => hne e.symm) m1 hm
    · by_cases n1 : n = 1
      · subst n1
        have := (h1 c).1 hn
        subst this
        by_cases m0 : m = 0
        · subst m0
          obtain ⟨i, hi⟩ := (h0 b).1 hm
          rw [bdel_same] at hi; cases hi
        · exact hg m b m0 (fun e => hne e.symm) hm
      · exact hg n c n0 n1 hn
  · exfalso
    by_cases n0 : n = 0
    · subst n0; cases hn
    · by_cases n1 : n = 1
      · subst n1; cases hn
      · rw [rbOf, h2 n n0 n1] at hn; cases hn
  · by_cases n0 : n = 0
    · subst n0
      obtain ⟨i, hi⟩ := (h0 c).1 hn
      unfold bdel at hi
      split at hi
      · cases hi
      · exact ⟨0, i, hi⟩
    · by_cases n1 : n = 1
      · subst n1
        have := (h1 c).1 hn
        subst this
        exact ⟨0, _, hb⟩
      · exact (hg n c n0 n1 hn).elim
  · by_cases n0 : n = 0
    · subst n0
      obtain ⟨i, hi⟩ := hn
      by_cases e : c = b
      · exact ⟨1, (h1 c).2 e.symm⟩
      · exact ⟨0, (h0 c).2 ⟨i, by rw [bdel_other e]; exact hi⟩⟩
    · rw [blkOf, at_ge (by simp; omega)] at hn; exact hn.elim
theorem HeapOK.shut {S S' : Nat → Prop} {w0 w : World} {r r' : Nat → Ref} {H' : VH K} {ψ : Bag K} (st : HeapOK S w0 r' H' w) (h0 : at_ H' 0 = .bag ψ) (hS : ∀ c, S c ↔ S' c) : HeapOK S' w0 r [.bag ψ] w := by
  have h2 : ∀ n, n ≠ 0 → at_ [Atom.bag ψ] n = .gone := fun n n0 => at_ge (by simp; omega)
  have hg : ∀ n c, n ≠ 0 → ¬ blkOf r [Atom.bag ψ] n c := fun n c n0 h => by rw [blkOf, h2 n n0] at h; exact h
  have hb : ∀ c, blkOf r [Atom.bag ψ] 0 c → blkOf r' H' 0 c := fun c h => by rw [blkOf, h0]; exact h
  refine ⟨fun n => ?_, fun n => ?_, fun n m c hne hn hm => ?_, fun n c hn => ?_, fun n m c hn => ?_, ⟨st.out.os, st.out.tape, st.out.output, st.out.size, fun c hc hs => st.out.block c hc fun h => hs ((hS c).1 h)⟩⟩
  · by_cases n0 : n = 0
    · subst n0
      have := st.ok 0
      rw [h0] at this
      exact this
    · rw [h2 n n0]; trivial
  · by_cases n0 : n = 0
    · subst n0; trivial
    · rw [h2 n n0]; trivial
  · by_cases n0 : n = 0
    · subst n0
      exact hg m c (fun e => hne e.symm) hm
    · exact hg n c n0 hn
  · by_cases n0 : n = 0
    · subst n0
      rcases st.own 0 c (hb c hn) with h | h
      · exact .inl ((hS c).1 h)
      · exact .inr h
    · exact (hg n c n0 hn).elim
  · exfalso
    by_cases n0 : n = 0
    · subst n0; cases hn
    · rw [rbOf, h2 n n0] at hn; cases hn
theorem roKeep_bag {φ ψ : Bag K} : RoKeep [Atom.bag φ] [Atom.bag ψ] := fun n h => by
  by_cases n0 : n = 0
  · subst n0; cases h
  · rw [at_ge (by simp; omega)] at h; cases h
def Ct.box (ct : Ct K) (b : Nat) (T : TypeId) (cs : List C) (φ : Bag K) (args : List VV) (psi : ct.Y → Bag K) (ds : ct.Y → List C) : Ct K :=
  { need := ct.need ∧ φ b = some (.box T cs), pre := [.bag φ], args := .c (.rp T 0 b 0 0) :: args, Y := ct.Y, ok := fun y => ct.ok y ∧ psi y b = none, ret := ct.ret, post := fun y => [.bag (bput (psi y) b (.box T (ds y)))] }
theorem box_args {b : Nat} {T : TypeId} {r : Nat → Ref} {args : List VV} {vals : List Value} (hb : ∀ v ∈ args, v.lt 0) (ha : Are r (.c (.rp T 0 b 0 0) :: args) vals) : Are (refAt r b) (.c (.ptr 1 0 0) :: args) vals := by
  cases vals with
  | nil => exact ha.elim
  | cons v vs =>
    obtain ⟨h1, h2⟩ := ha
    refine ⟨?_, Are.congr (N := 0) (fun n hn => absurd hn (Nat.not_lt_zero n)) hb h2⟩
    have h1 : v = .pointer (some ⟨b, 0 * 0 + 0, none⟩) := h1
    subst h1
    rfl
theorem CtOk.box {f : FuncId} {ct : Ct K} (h : CtOk P f ct) {b : Nat} {T : TypeId} {cs : List C} {φ : Bag K} {args : List VV} {psi : ct.Y → Bag K} {ds : ct.Y → List C}
    (hpre : ct.pre = [.bag (bdel φ b), .cells T cs]) (hargs : ct.args = .c (.ptr 1 0 0) :: args) (hpost : ∀ y, ct.post y = [.bag (psi y), .cells T (ds y)])
    (hds : ∀ y, ∀ c ∈ ds y, c.nm = none ∧ c.one = true) (hb : ∀ v ∈ args, v.lt 0) (hret : ∀ y, (ct.ret y).lt 0) (hp : ct.pan = none := by rfl) : CtOk P f (ct.box b T cs φ args psi ds) := by
  refine CtOk.mkR h.enter (fun hn r w vals st ha hal => ?_)
  obtain ⟨hneed, hφ⟩ := hn
  obtain ⟨st1, hS⟩ := HeapOK.unbox st hφ
  rw [← hpre] at st1 hS
  refine (h.calls hneed (refAt r b) w vals st1 (by rw [hargs]; exact box_args hb ha) (fun y hy => ?_) hp).mono ?_
  · rw [hargs] at hy
    rw [hpre]
    rcases List.mem_cons.1 hy with rfl | hy
    · intro n hn; simp [C.nm] at hn; subst hn; simp
    · exact VV.lt_mono (hb y hy) (Nat.zero_le _)
  · rintro e' w' ⟨v', rfl, r2, vv, H2, ⟨y, hy, rfl, rfl⟩, hvis, _, _, hr2, _, st2⟩
    have hr1 : (r2 1).blk = b := by rw [hr2 1 (by rw [hpre]; simp)]; rfl
    have a0 : at_ (ct.post y) 0 = .bag (psi y) := by rw [hpost]; rfl
    have a1 : at_ (ct.post y) 1 = .cells T (ds y) := by rw [hpost]; rfl
    obtain ⟨_, hfree, st3⟩ := st2.frzBox a1 a0 (hds y)
    rw [hr1] at st3 hfree
    have st4 := st3.shut (r := r) (ψ := bput (psi y) b (.box T (ds y))) (by rw [hpost]; rfl) hS
    exact ⟨v', rfl, r, ct.ret y, _, ⟨y, ⟨hy, hfree⟩, rfl, rfl⟩, VV.is_congr (hret y) (fun n hn => absurd hn (Nat.not_lt_zero n)) hvis, VV.lt_mono (hret y) (Nat.zero_le _), Nat.le_refl _, fun _ _ => rfl, roKeep_bag, st4⟩
def Ct.boxL (ct : Ct K) (b : Nat) (T : TypeId) (cs : List C) (φ : Bag K) (args : List VV) (psi : ct.Y → Bag K) (ds : ct.Y → List C) (e : TypeId) (kd : K.Kd) (xs : ct.Y → List (K.α kd)) : Ct K :=
  { need := ct.need ∧ φ b = some (.box T cs), pre := [.bag φ], args := .c (.rp T 0 b 0 0) :: args, Y := ct.Y × RS × Bag K, ok := fun z => ct.ok z.1 ∧ psi z.1 b = none ∧ Frz (bput (psi z.1) b (.box T (ds z.1))) kd (xs z.1) z.2.1 z.2.2, ret := fun z => .c (.rs e (K.size kd) z.2.1), post := fun z => [.bag z.2.2] }
theorem CtOk.boxL {f : FuncId} {ct : Ct K} (h : CtOk P f ct) {b : Nat} {T : TypeId} {cs : List C} {φ : Bag K} {args : List VV} {psi : ct.Y → Bag K} {ds : ct.Y → List C} {e : TypeId} {kd : K.Kd} {xs : ct.Y → List (K.α kd)}
    (hpre : ct.pre = [.bag (bdel φ b), .cells T cs]) (hargs : ct.args = .c (.ptr 1 0 0) :: args) (hpost : ∀ y, ct.post y = [.bag (psi y), .cells T (ds y), .arr kd (xs y)])
    (hds : ∀ y, ∀ c ∈ ds y, c.nm = none ∧ c.one = true) (hb : ∀ v ∈ args, v.lt 0) (hret : ∀ y, ct.ret y = .c (.slc 2 0 (xs y).length none)) (hp : ct.pan = none := by rfl) : CtOk P f (ct.boxL b T cs φ args psi ds e kd xs) := by
  refine CtOk.mkR h.enter (fun hn r w vals st ha hal => ?_)
  obtain ⟨hneed, hφ⟩ := hn
  obtain ⟨st1, hS⟩ := HeapOK.unbox st hφ
  rw [← hpre] at st1 hS
  refine (h.calls hneed (refAt r b) w vals st1 (by rw [hargs]; exact box_args hb ha) (fun y hy => ?_) hp).mono ?_
  · rw [hargs] at hy
    rw [hpre]
    rcases List.mem_cons.1 hy with rfl | hy
    · intro n hn; simp [C.nm] at hn; subst hn; simp
    · exact VV.lt_mono (hb y hy) (Nat.zero_le _)
  · rintro e' w' ⟨v', rfl, r2, vv, H2, ⟨y, hy, rfl, rfl⟩, hvis, _, _, hr2, _, st2⟩
    have hr1 : (r2 1).blk = b := by rw [hr2 1 (by rw [hpre]; simp)]; rfl
    have a0 : at_ (ct.post y) 0 = .bag (psi y) := by rw [hpost]; rfl
    have a1 : at_ (ct.post y) 1 = .cells T (ds y) := by rw [hpost]; rfl
    obtain ⟨_, hfree, st3⟩ := st2.frzBox a1 a0 (hds y)
    rw [hr1] at st3 hfree
    rw [hret] at hvis
    obtain ⟨a, ha1, ha2⟩ : (C.slc 2 0 (xs y).length none).is r2 v' := hvis
    have ha2 : a = if (r2 2).nl then none else some ⟨(r2 2).blk, (r2 2).off + 0 * (r2 2).sz, none⟩ := ha2.resolve_left (fun h => h.1 rfl)
    have b0 : at_ (((ct.post y).set 1 .gone).set 0 (.bag (bput (psi y) b (.box T (ds y))))) 0 = .bag (bput (psi y) b (.box T (ds y))) := by rw [hpost]; rfl
    have b2 : at_ (((ct.post y).set 1 .gone).set 0 (.bag (bput (psi y) b (.box T (ds y))))) 2 = .arr kd (xs y) := by rw [hpost]; rfl
    have fin : ∀ (x : RS) (ψ : Bag K) (H3 : VH K), Frz (bput (psi y) b (.box T (ds y))) kd (xs y) x ψ → v' = x.val (K.size kd) → at_ H3 0 = .bag ψ → HeapOK (Ours (refAt r b) ct.pre) w r2 H3 w' → ∃ v'', Ending.returned v' = .returned v'' ∧ After (Ours r [Atom.bag φ]) w r [.bag φ] (Ct.Post (ct.boxL b T cs φ args psi ds e kd xs)) v'' w' := fun x ψ H3 hf hv h0 st4 =>
      ⟨v', rfl, r, .c (.rs e (K.size kd) x), [.bag ψ], ⟨(y, x, ψ), ⟨hy, hfree, hf⟩, rfl, rfl⟩, hv, lt_of_nm rfl, Nat.le_refl _, fun _ _ => rfl, roKeep_bag, st4.shut h0 hS⟩
    rcases st3.frz b2 b0 with ⟨q1, q2, q3, q4⟩ | ⟨q1, q2, q3, q4, q5, q6⟩
    · refine fin .nil _ _ (.nil_ q2) ?_ ?_ q4
      · rw [ha1, ha2, q1, q2]
        simp [RS.val, q3]
      · rw [hpost]; rfl
    · refine fin (.mk (r2 2).blk 0 (xs y).length (r2 2).cap) _ _ (.mk _ _ q4 q5) ?_ ?_ q6
      · rw [ha1, ha2, q1, q3]
        simp [RS.val]
      · rw [hpost]; rfl
/-- A contract says less. -/
theorem CtOk.less {f : FuncId} {ct ct' : Ct K} (h : CtOk P f ct) (hpre : ct'.pre = ct.pre) (hargs : ct'.args = ct.args) (hn : ct'.need → ct.need) (hpost : ct'.need → ∀ y, ct.ok y → ∃ y', ct'.ok y' ∧ ct.ret y = ct'.ret y' ∧ ct.post y = ct'.post y') (hp : ct.pan = none := by rfl) (hp' : ct'.pan = none := by rfl) : CtOk P f ct' := by
  refine CtOk.mkR h.enter (fun hn' r w vals st ha hal => ?_) hp'
  rw [hpre] at st hal
  rw [hargs] at ha hal
  refine (h.calls (hn hn') r w vals st ha hal hp).mono ?_
  rintro e' w' ⟨v', rfl, r2, vv, H2, ⟨y, hy, rfl, rfl⟩, hvis, h3, h4, h5, h6, st2⟩
  obtain ⟨y', k1, k2, k3⟩ := hpost hn' y hy
  rw [hpre]
  exact ⟨v', rfl, r2, _, _, ⟨y', k1, k2, k3⟩, hvis, h3, h4, h5, h6, st2⟩
/-- A contract that stands for each of several, its need names one. -/
theorem CtOk.some {f : FuncId} {ct : Ct K} {ι : Type} {p : ι → Prop} (henter : ∀ args w, (callFunc f args).run P w = .ok (.enter f args) w) (hn : ct.need → ∃ i, p i) (h : ∀ i, p i → CtOk P f ct) : CtOk P f ct :=
  ⟨henter, fun hneed => by
    obtain ⟨i, hi⟩ := hn hneed
    exact (h i hi).callsP hneed⟩
end Go.Proofs.YtndlpbheifalhaaGreatDoor.E
end
