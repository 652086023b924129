/- Regions that draw their order, first part: what an operation hangs on; one that only reads; one beside memory that it doesn't see. -/
import Derived.Test.YtndlpbheifalhaaGreatDoorE9
namespace Go.Proofs.YtndlpbheifalhaaGreatDoor.E
set_option linter.unusedVariables false
set_option linter.unusedSimpArgs false
variable {K : Kinds} {P : Program} {S : Nat → Prop} {w0 w : World} {r : Nat → Ref} {H : VH K}
/-- An operation's value hangs on its operands alone. -/
theorem evOp_congr (tab : Tab P K) {fr fr' : List VV} {o : Oper} {k : VV → VH K → Prop} (h : ∀ x ∈ o.op.operands, getO fr x = getO fr' x) : evOp tab fr o H k = evOp tab fr' o H k := by
  obtain ⟨dst, op, type, pos, after, guard⟩ := o
  have pm : ∀ ps : Array (Nat × Operand), (∀ x ∈ (ps.toList.map (·.2)).toArray, getO fr x = getO fr' x) → ps.toList.map (fun p => (p.1, getO fr p.2)) = ps.toList.map (fun p => (p.1, getO fr' p.2)) := fun ps hp =>
    List.map_congr_left fun p hm => by rw [hp p.2 (by simp; exact ⟨p.1, by simpa using hm⟩)]
  cases op <;> simp only [Op.operands] at h <;> simp only [evOp]
  case call c =>
    obtain ⟨callee, args, ats⟩ := c
    have ha : args.toList.map (getO fr) = args.toList.map (getO fr') := List.map_congr_left fun x hx => h x (by simp only [Call.operands]; exact Array.mem_append.2 (.inr (by simpa using hx)))
    cases callee with
    | value f =>
      have hf := h f (by simp [Call.operands])
      cases f <;> simp only [ha, hf]
    | _ => simp only [ha]
  case makeFunc f first caps =>
    have hc : caps.toList.map (getO fr) = caps.toList.map (getO fr') := List.map_congr_left fun x hx => h x (Array.mem_append.2 (.inr (by simpa using hx)))
    rw [hc]
  case build t ps => rw [pm ps h]
  case buildSlice t n ps => rw [pm ps h]
  case slice t x lo hi mx =>
    have e0 := h x (by simp)
    have e1 : lo.map (getO fr) = lo.map (getO fr') := by cases lo <;> simp_all
    have e2 : hi.map (getO fr) = hi.map (getO fr') := by cases hi <;> simp_all
    have e3 : mx.map (getO fr) = mx.map (getO fr') := by cases mx <;> simp_all
    rw [e0, e1, e2, e3]
  all_goals (first | rfl | (simp_all; done))
def gslot (ops : Array Oper) (o : Oper) : Option Nat := o.guard.bind fun g => (ops[g.1]?).bind (·.dst)
/-- The operation under its guard. -/
def evVal (tab : Tab P K) (ops : Array Oper) (fr : List VV) (o : Oper) (H : VH K) (k : VV → VH K → Prop) : Prop :=
  match o.guard with
  | none => evOp tab fr o H k
  | some (j, want) => match (ops[j]?).bind (·.dst) with
    | some t => match fr.getD t .any with
      | .one (.c (.bool b)) => ite2 b
          (match want with | true => evOp tab fr o H k | false => k (.tup []) H)
          (match want with | false => evOp tab fr o H k | true => k (.tup []) H)
      | .tup [] => k (.tup []) H
      | _ => False
    | none => False
theorem evVal_congr (tab : Tab P K) {ops : Array Oper} {fr fr' : List VV} {o : Oper} {k : VV → VH K → Prop} (h : ∀ x ∈ o.op.operands, getO fr x = getO fr' x) (hg : ∀ t, gslot ops o = some t → fr.getD t .any = fr'.getD t .any) :
    evVal tab ops fr o H k = evVal tab ops fr' o H k := by
  unfold evVal
  cases hgd : o.guard with
  | none => exact evOp_congr tab h
  | some jw =>
    obtain ⟨j, want⟩ := jw
    simp only
    cases ht : (ops[j]?).bind (·.dst) with
    | none => rfl
    | some t =>
      have e := hg t (by simp [gslot, hgd, ht])
      simp only [e, evOp_congr tab h]
theorem evVal_sound (hK : K.Ok) (tab : Tab P K) {fr : List VV} {a : Act} (hh : HeapOK S w0 r H w) (hf : FrOK r H.length fr a) {ops : Array Oper} {o : Oper} {k : VV → VH K → Prop} (h : evVal tab ops fr o H k)
    {next : Act → World → Prop} {Q : Exit → Act → World → Prop} (hn : ∀ v' w', After S w0 r H k v' w' → next (a.put o.dst v') w') :
    if Region.wanted o (yielded ops a.tmps) then o.wp P a w next Q ∨ (o.asks P a w ∧ LetsOut Q) else next (a.put o.dst undef) w := by
  have st : StOK S w0 r 0 r fr H a w := ⟨hh, hf, Nat.zero_le _, fun _ _ => rfl⟩
  unfold evVal at h
  cases hg : o.guard with
  | none =>
    simp only [hg] at h
    simp only [Region.wanted, hg, if_true]
    exact .inl (evOp_sound hK tab st h hn)
  | some jw =>
    obtain ⟨j, want⟩ := jw
    simp only [hg] at h
    split at h
    · rename_i t ht
      split at h
      · rename_i b hb
        have hval : yielded ops a.tmps j = some b := by
          have h1 := hf.is.get t
          rw [hb] at h1
          have h2 : a.tmps.toList.getD t undef = .bool b := h1
          have h3 : a.tmps[t]? = some (.bool b) := by
            rw [List.getD_eq_getElem?_getD] at h2
            cases hx : a.tmps.toList[t]? with
            | none => rw [hx] at h2; simp [undef] at h2
            | some x => rw [hx] at h2; simp at h2; subst h2; simpa using hx
          simp [yielded, ht, h3]
        have hw : Region.wanted o (yielded ops a.tmps) = (b == want) := by
          simp only [Region.wanted, hg, hval]
          cases b <;> cases want <;> rfl
        have skip : k (.tup []) H → next (a.put o.dst undef) w := fun hk => hn undef w ⟨r, .tup [], H, hk, ⟨[], rfl, trivial⟩, fun c hc => (by cases hc), Nat.le_refl _, fun _ _ => rfl, RoKeep.refl H, hh⟩
        rw [hw]
        rcases ite2_of h with ⟨rfl, h⟩ | ⟨rfl, h⟩ <;> cases want <;> simp only [beq_self_eq_true, if_true] at h ⊢
        · exact skip h
        · exact .inl (evOp_sound hK tab st h hn)
        · exact .inl (evOp_sound hK tab st h hn)
        · exact skip h
      · rename_i hb
        have hval : yielded ops a.tmps j = none := by
          have h1 := hf.is.get t
          rw [hb] at h1
          obtain ⟨vs, h2, h3⟩ := h1
          have hvs : vs = [] := by cases vs with | nil => rfl | cons => exact h3.elim
          subst hvs
          unfold yielded
          rw [ht]
          simp only [Option.bind_some]
          rw [List.getD_eq_getElem?_getD] at h2
          cases hx : a.tmps[t]? with
          | none => rfl
          | some x =>
            have hx' : a.tmps.toList[t]? = some x := by simpa using hx
            rw [hx'] at h2
            simp only [Option.getD_some] at h2
            subst h2
            rfl
        have hw : Region.wanted o (yielded ops a.tmps) = false := by
          simp only [Region.wanted, hg, hval]
          cases want <;> rfl
        rw [hw]
        exact hn undef w ⟨r, .tup [], H, h, ⟨[], rfl, trivial⟩, fun c hc => (by cases hc), Nat.le_refl _, fun _ _ => rfl, RoKeep.refl H, hh⟩
      · exact h.elim
    · exact h.elim
/-! ### operations that only read -/
def isReader : Op → Bool
  | .move _ | .pick .. | .build .. | .load .. | .nilCheck _ | .binOp .. | .unOp .. | .convert .. | .slice .. | .fieldAddr .. | .field .. | .indexAddr .. | .index .. | .extract .. => true
  | .call { callee := .builtin b, .. } => match b with | .len | .max | .min => true | _ => false
  | _ => false
/-- An evaluation that comes to one value and leaves memory alone. -/
def Same (H : VH K) (v v' : VV) (H' : VH K) : Prop := v' = v ∧ H' = H
theorem same_rfl {v : VV} : Same H v v H := ⟨rfl, rfl⟩
def Reads (H : VH K) (ev : (VV → VH K → Prop) → Prop) : Prop := ∀ k, ev k → ∃ v, k v H ∧ ev (Same H v)
def ReadsV (ev : (VV → Prop) → Prop) : Prop := ∀ k, ev k → ∃ v, k v ∧ ev fun v' => v' = v
theorem Reads.of {ev : (VV → Prop) → Prop} (h : ReadsV ev) : Reads H fun k => ev fun v => k v H := fun k hk => by
  obtain ⟨v, h1, h2⟩ := h _ hk
  exact ⟨v, h1, by simpa [Same] using h2⟩
theorem readsV_ite {b : Bool} {x y : (VV → Prop) → Prop} (hx : ReadsV x) (hy : ReadsV y) : ReadsV fun k => ite2 b (x k) (y k) := fun k h => by
  cases b
  · exact hy k h
  · exact hx k h
theorem readsV_at (v : VV) : ReadsV fun k => k v := fun k h => ⟨v, h, rfl⟩
theorem readsV_and {p : Prop} {x : (VV → Prop) → Prop} (hx : ReadsV x) : ReadsV fun k => p ∧ x k := fun k h => by
  obtain ⟨v, h1, h2⟩ := hx k h.2
  exact ⟨v, h1, h.1, h2⟩
theorem readsV_false : ReadsV fun _ => False := fun k h => h.elim
theorem readsV_guard {b : Bool} {x : (VV → Prop) → Prop} (hx : ReadsV x) : ReadsV fun k => guardP b (x k) := fun k h => by
  cases b
  · exact h.elim
  · exact hx k h
theorem readsV_arith (k : IntKind) (z : Int) : ReadsV (arith k z) := fun f h => by
  cases k <;> first | exact ⟨_, h, rfl⟩ | exact ⟨_, h.2, h.1, rfl⟩
theorem readsV_tf (p : Prop) [Decidable p] : ReadsV (tf p) := readsV_ite (readsV_at _) (readsV_at _)
theorem readsV_nf (p : Prop) [Decidable p] : ReadsV (nf p) := readsV_ite (readsV_at _) (readsV_at _)
theorem readsV_int (op : BinOp) (k : IntKind) (a b : Int) : ReadsV (evInt op k a b) := by
  cases op <;> simp only [ReadsV, evInt] <;> first
    | exact readsV_arith _ _
    | exact readsV_and (readsV_arith _ _)
    | exact readsV_and (readsV_at _)
    | exact readsV_tf _
    | exact readsV_nf _
    | exact readsV_false
    | exact readsV_at _
theorem readsV_str (op : BinOp) (a b : ByteArray) : ReadsV (evStr op a b) := by
  cases op <;> simp only [ReadsV, evStr] <;> first
    | exact readsV_and (readsV_at _)
    | exact readsV_tf _
    | exact readsV_nf _
    | exact readsV_false
theorem readsV_shift (op : BinOp) (k : IntKind) (a b : Int) : ReadsV (evShift op k a b) := by
  cases op <;> simp only [ReadsV, evShift] <;> first
    | exact readsV_and (readsV_arith _ _)
    | exact readsV_and (readsV_at _)
    | exact readsV_false
theorem readsV_nil (op : BinOp) (ok same : Bool) : ReadsV (evNil op ok same) := by
  unfold evNil
  refine readsV_guard ?_
  split
  · exact readsV_at _
  · exact readsV_at _
  · exact readsV_false
theorem readsV_boo (op : BinOp) (ok a b : Bool) : ReadsV (evBoo op ok a b) := by
  unfold evBoo
  refine readsV_guard ?_
  split
  · exact readsV_tf _
  · exact readsV_nf _
  · exact readsV_false
theorem readsV_bin (T : TypeId) (op : BinOp) (x y : VV) : ReadsV (evBin P T op x y) := fun k h => by
  unfold evBin at h ⊢
  split at h
  · split at h
    · exact readsV_shift _ _ _ _ k h
    · exact readsV_shift _ _ _ _ k h
    · exact readsV_guard (readsV_int _ _ _ _) k h
  · exact readsV_str _ _ _ k h
  · exact readsV_nil _ _ _ k h
  · exact readsV_nil _ _ _ k h
  · exact readsV_nil _ _ _ k h
  · exact readsV_nil _ _ _ k h
  · exact readsV_nil _ _ _ k h
  · exact readsV_nil _ _ _ k h
  · exact readsV_nil _ _ _ k h
  · exact readsV_nil _ _ _ k h
  · exact readsV_boo _ _ _ _ k h
  · exact h.elim
theorem readsV_agg (op : BinOp) (t : TypeId) (l l' : List C) : ReadsV (evAgg P op t l l') := fun k h => by
  unfold evAgg at h ⊢
  split at h
  · exact readsV_ite (readsV_at _) (readsV_at _) k h
  · exact readsV_ite (readsV_at _) (readsV_at _) k h
  · exact h.elim
theorem readsV_un (op : UnOp) (x : VV) : ReadsV (evUn op x) := fun k h => by
  unfold evUn at h ⊢
  split at h
  · exact readsV_ite (readsV_at _) (readsV_at _) k h
  · exact readsV_arith _ _ k h
  · exact readsV_at _ k h
  · exact h.elim
theorem readsV_conv (s d : TypeId) (x : VV) : ReadsV (evConv P s d x) := fun k h => by
  unfold evConv at h ⊢
  split at h
  · exact readsV_arith _ _ k h
  · exact readsV_at _ k h
  · exact h.elim
theorem readsV_extract (x : VV) (i : Nat) : ReadsV (evExtract x i) := fun k h => by
  unfold evExtract at h ⊢
  split at h
  · split at h
    · exact readsV_at _ k h
    · exact h.elim
  · exact h.elim
theorem readsV_part (e : TypeId) (l : List C) (off : Nat) : ReadsV (evPart P e l off) := fun k h => by
  unfold evPart at h ⊢
  split at h
  · split at h
    · exact readsV_at _ k h
    · split at h
      · exact readsV_at _ k h
      · exact h.elim
  · exact h.elim
theorem readsV_idx {x : Nat → (VV → Prop) → Prop} (hx : ∀ q, ReadsV (x q)) {z : Int} {k : VV → Prop} : ∀ {m q : Nat}, idxSplit z (fun q => x q k) m q → (q : Int) ≤ z → z < (q : Int) + m → ∃ v, k v ∧ idxSplit z (fun q => x q fun v' => v' = v) m q
  | 0, q, _, h1, h2 => by omega
  | m + 1, q, h, h1, h2 => by
    simp only [idxSplit] at h ⊢
    by_cases e : z = (q : Int)
    · subst e
      simp only [decide_true, ite2] at h ⊢
      exact hx q k h
    · simp only [e, decide_false, ite2] at h ⊢
      exact readsV_idx hx h (by omega) (by omega)
theorem readsV_index (t : TypeId) (x i : VV) : ReadsV (evIndex P t x i) := fun k h => by
  unfold evIndex at h ⊢
  split at h
  · exact readsV_and (readsV_at _) k h
  · split at h
    · obtain ⟨h1, h2⟩ := h
      obtain ⟨v, hv, hs⟩ := readsV_idx (x := fun q f => evPart P _ _ (q * _) f) (fun q => readsV_part _ _ _) h2 (by simpa using h1.1) (by simpa using h1.2)
      exact ⟨v, hv, h1, hs⟩
    · exact h.elim
  · exact h.elim
theorem readsV_field (t : TypeId) (x : VV) (i : Nat) : ReadsV (evField P t x i) := fun k h => by
  unfold evField at h ⊢
  split at h
  · split at h
    · split at h
      · split at h
        · exact readsV_at _ k h
        · split at h
          · exact readsV_at _ k h
          · exact h.elim
      · exact h.elim
    · exact h.elim
  · exact h.elim
theorem readsV_len (t : TypeId) (x : VV) : ReadsV (evLen P t x) := fun k h => by
  unfold evLen at h ⊢
  split at h <;> first | exact readsV_at _ k h | exact h.elim
theorem readsV_mm (m : Bool) (x y : VV) : ReadsV (evMM m x y) := fun k h => by
  unfold evMM at h ⊢
  split at h
  · cases m <;> exact readsV_at _ k h
  · exact h.elim
theorem readsV_build (t : TypeId) (ps : List (Nat × VV)) : ReadsV (evBuild P t ps) := fun k h => by
  unfold evBuild at h ⊢
  split at h
  · exact readsV_at _ k h
  · exact h.elim
theorem readAt_reads {a : Atom K} {i j m : Nat} {k : List C → Prop} (h : readAt a i j m k) : ∃ cs, k cs ∧ readAt a i j m fun cs' => cs' = cs := by
  cases a with
  | gone => exact h.elim
  | cells T cs => obtain ⟨hg, hk⟩ := guardP_iff.1 h; exact ⟨_, hk, guardP_iff.2 ⟨hg, rfl⟩⟩
  | arr kd xs => obtain ⟨hi, hg⟩ := h; obtain ⟨hg, hk⟩ := guardP_iff.1 hg; exact ⟨_, hk, hi, guardP_iff.2 ⟨hg, rfl⟩⟩
  | ro kd xs => obtain ⟨hi, hg⟩ := h; obtain ⟨hg, hk⟩ := guardP_iff.1 hg; exact ⟨_, hk, hi, guardP_iff.2 ⟨hg, rfl⟩⟩
  | bag φ => exact h.elim
theorem readAt_mono {a : Atom K} {i j m : Nat} {k k' : List C → Prop} (h : readAt a i j m k) (hk : ∀ cs, k cs → k' cs) : readAt a i j m k' := by
  cases a with
  | gone => exact h.elim
  | cells T cs => obtain ⟨hg, h⟩ := guardP_iff.1 h; exact guardP_iff.2 ⟨hg, hk _ h⟩
  | arr kd xs => obtain ⟨hi, hg⟩ := h; obtain ⟨hg, h⟩ := guardP_iff.1 hg; exact ⟨hi, guardP_iff.2 ⟨hg, hk _ h⟩⟩
  | ro kd xs => obtain ⟨hi, hg⟩ := h; obtain ⟨hg, h⟩ := guardP_iff.1 hg; exact ⟨hi, guardP_iff.2 ⟨hg, hk _ h⟩⟩
  | bag φ => exact h.elim
theorem someBag_reads {X : Type} {f : (X → Prop) → Nat → Bag K → Prop} (hf : ∀ k n φ, f k n φ → ∃ x, k x ∧ f (fun y => y = x) n φ) {k : X → Prop} : ∀ {l : List (Nat × Bag K)}, someBag l (f k) → ∃ x, k x ∧ someBag l (f fun y => y = x)
  | [], h => h.elim
  | [(n, φ)], h => hf k n φ h
  | (n, φ) :: (m, ψ) :: t, h => by
    rcases h with h | h
    · obtain ⟨x, h1, h2⟩ := hf k n φ h
      exact ⟨x, h1, .inl h2⟩
    · obtain ⟨x, h1, h2⟩ := someBag_reads hf (l := (m, ψ) :: t) h
      exact ⟨x, h1, .inr h2⟩
theorem readPt_reads {p : VV} {m : Nat} {k : List C → Prop} (h : readPt H p m k) : ∃ cs, k cs ∧ readPt H p m fun cs' => cs' = cs := by
  unfold readPt at h ⊢
  split at h
  · exact readAt_reads h
  · unfold readRp at h ⊢
    split at h
    · unfold readBox at h ⊢
      exact someBag_reads (f := fun k _ φ => ∃ cs, cellsAt φ _ = some cs ∧ _ + m ≤ cs.length ∧ k ((cs.drop _).take m)) (fun k n φ h => by
        obtain ⟨cs, h1, h2, h3⟩ := h
        exact ⟨_, h3, cs, h1, h2, rfl⟩) h
    · unfold readRow at h ⊢
      split at h
      · rename_i kd hkd
        obtain ⟨hg, h⟩ := guardP_iff.1 h
        obtain ⟨cs, h1, h2⟩ := someBag_reads (f := fun k _ φ => ∃ cap xs, φ _ = some (.row kd cap xs) ∧ readAt (.arr kd xs) _ _ m k) (fun k n φ h => by
          obtain ⟨cap, xs, h1, h2⟩ := h
          obtain ⟨cs, h3, h4⟩ := readAt_reads h2
          exact ⟨cs, h3, cap, xs, h1, h4⟩) h
        exact ⟨cs, h1, guardP_iff.2 ⟨hg, h2⟩⟩
      · exact h.elim
  · exact h.elim
theorem readPt_mono {p : VV} {m : Nat} {k k' : List C → Prop} (h : readPt H p m k) (hk : ∀ cs, k cs → k' cs) : readPt H p m k' := by
  unfold readPt at h ⊢
  split at h
  · exact readAt_mono h hk
  · unfold readRp at h ⊢
    split at h
    · unfold readBox at h ⊢
      exact someBag_mono (fun n φ h => by
        obtain ⟨cs, h1, h2, h3⟩ := h
        exact ⟨cs, h1, h2, hk _ h3⟩) h
    · unfold readRow at h ⊢
      split at h
      · obtain ⟨hg, h⟩ := guardP_iff.1 h
        exact guardP_iff.2 ⟨hg, someBag_mono (fun n φ h => by
          obtain ⟨cap, xs, h1, h2⟩ := h
          exact ⟨cap, xs, h1, readAt_mono h2 hk⟩) h⟩
      · exact h.elim
  · exact h.elim
theorem reads_load (t : TypeId) (x : VV) : Reads H (evLoad P t x H) := fun k h => by
  unfold evLoad at h ⊢
  split at h
  · split at h
    · obtain ⟨cs, hk, hr⟩ := readPt_reads h
      exact ⟨_, hk, readPt_mono hr fun cs' e => by subst e; exact same_rfl⟩
    · obtain ⟨cs, hk, hr⟩ := readPt_reads h
      split at hk
      · exact ⟨_, hk, readPt_mono hr fun cs' e => by subst e; exact same_rfl⟩
      · exact hk.elim
  · exact h.elim
theorem reads_fieldAddr (t : TypeId) (x : VV) (i : Nat) : Reads H (evFieldAddr P t x i H) := fun k h => by
  unfold evFieldAddr at h ⊢
  split at h
  · split at h
    · split at h
      · obtain ⟨hg, hk⟩ := guardP_iff.1 h; exact ⟨_, hk, guardP_iff.2 ⟨hg, same_rfl⟩⟩
      · exact h.elim
    · exact h.elim
  · split at h
    · split at h
      · obtain ⟨hg, hk⟩ := guardP_iff.1 h; exact ⟨_, hk, guardP_iff.2 ⟨hg, same_rfl⟩⟩
      · exact h.elim
    · exact h.elim
  · exact h.elim
theorem idxSplit_reads {z : Int} {g : Nat → VV} {k : VV → VH K → Prop} : ∀ {m q : Nat}, idxSplit z (fun q => k (g q) H) m q → (q : Int) ≤ z → z < (q : Int) + m →
    k (g z.toNat) H ∧ idxSplit z (fun q => Same H (g z.toNat) (g q) H) m q
  | 0, q, _, h1, h2 => by omega
  | m + 1, q, h, h1, h2 => by
    simp only [idxSplit] at h ⊢
    by_cases e : z = (q : Int)
    · subst e
      simp only [decide_true, ite2] at h ⊢
      exact ⟨by simpa using h, by simpa using same_rfl⟩
    · simp only [e, decide_false, ite2] at h ⊢
      exact idxSplit_reads h (by omega) (by omega)
theorem reads_indexAddr (t : TypeId) (x i : VV) : Reads H (evIndexAddr P t x i H) := fun k h => by
  unfold evIndexAddr at h ⊢
  split at h
  · split at h
    · obtain ⟨h1, h2, h3, hg⟩ := h
      obtain ⟨hg, hk⟩ := guardP_iff.1 hg
      exact ⟨_, hk, h1, h2, h3, guardP_iff.2 ⟨hg, same_rfl⟩⟩
    · exact h.elim
  · obtain ⟨h1, hg⟩ := h
    obtain ⟨hg, hk⟩ := guardP_iff.1 hg
    exact ⟨_, hk, h1, guardP_iff.2 ⟨hg, same_rfl⟩⟩
  · rename_i z len e n i j hu
    split at h
    · rename_i inf _
      obtain ⟨h1, h2⟩ := h
      have := idxSplit_reads (g := fun q => VV.c (.ptr n i (j + q * inf.size))) h2 (by simpa using h1.1) (by simpa using h1.2)
      exact ⟨_, this.1, h1, this.2⟩
    · exact h.elim
  · exact h.elim
theorem reads_cut (t : TypeId) (x : VV) (lo hi mx : Option VV) : Reads H (evCut P t x lo hi mx H) := fun k h => by
  unfold evCut at h ⊢
  split at h
  · split at h
    · exact ⟨_, h.2, h.1, same_rfl⟩
    · exact h.elim
  · split at h
    · obtain ⟨hg, h⟩ := guardP_iff.1 h
      split at h
      · exact ⟨_, h.2.2, guardP_iff.2 ⟨hg, h.1, h.2.1, same_rfl⟩⟩
      · split at h
        · exact ⟨_, h.2.2, guardP_iff.2 ⟨hg, h.1, h.2.1, same_rfl⟩⟩
        · exact h.elim
    · exact h.elim
  · split at h
    · obtain ⟨hg, h⟩ := guardP_iff.1 h
      split at h
      · exact ⟨_, h.2, guardP_iff.2 ⟨hg, h.1, same_rfl⟩⟩
      · split at h
        · exact ⟨_, h.2, guardP_iff.2 ⟨hg, h.1, same_rfl⟩⟩
        · exact h.elim
    · exact h.elim
  · exact h.elim
theorem reads_op (tab : Tab P K) {fr : List VV} {o : Oper} (hr : isReader o.op = true) : Reads H (evOp tab fr o H) := by
  obtain ⟨dst, op, type, pos, after, guard⟩ := o
  intro k h
  cases op <;> simp only [evOp] at h ⊢ <;> try (cases hr; done)
  case move x => exact ⟨_, h, same_rfl⟩
  case pick c x y =>
    split at h
    · exact Reads.of (readsV_ite (readsV_at _) (readsV_at _)) k h
    · exact h.elim
  case build t ps => exact Reads.of (readsV_build _ _) k h
  case load t x => exact reads_load t _ k h
  case nilCheck x =>
    split at h
    · exact ⟨_, h, same_rfl⟩
    · exact ⟨_, h, same_rfl⟩
    · exact h.elim
  case binOp op t x y t' =>
    split at h
    · exact Reads.of (readsV_guard (readsV_agg _ _ _ _)) k h
    · exact Reads.of (readsV_bin _ _ _ _) k h
  case unOp op t x => exact Reads.of (readsV_un _ _) k h
  case convert s d x => exact Reads.of (readsV_conv _ _ _) k h
  case slice t x lo hi mx => exact reads_cut _ _ _ _ _ k h
  case fieldAddr t x f => exact reads_fieldAddr _ _ _ k h
  case field t x f => exact Reads.of (readsV_field _ _ _) k h
  case indexAddr t x i => exact reads_indexAddr _ _ _ k h
  case index t x i => exact Reads.of (readsV_index _ _ _) k h
  case extract x i => exact Reads.of (readsV_extract _ _) k h
  case call c =>
    obtain ⟨callee, args, ats⟩ := c
    cases callee with
    | builtin b =>
      simp only at h ⊢
      unfold evBuiltin at h ⊢
      split at h
      · exact Reads.of (readsV_len _ _) k h
      · exact Reads.of (readsV_mm _ _ _) k h
      · exact Reads.of (readsV_mm _ _ _) k h
      · cases hr
      · cases hr
      · exact h.elim
    | value f => cases hr
    | invoke x m => cases hr
theorem reads_val (tab : Tab P K) {ops : Array Oper} {fr : List VV} {o : Oper} (hr : isReader o.op = true) : Reads H (evVal tab ops fr o H) := fun k h => by
  unfold evVal at h ⊢
  split at h
  · exact reads_op tab hr k h
  · split at h
    · split at h
      · rename_i b _
        rcases ite2_of h with ⟨rfl, h⟩ | ⟨rfl, h⟩ <;> simp only [ite2] <;> split at h <;> first | exact reads_op tab hr k h | exact ⟨_, h, same_rfl⟩
      · exact ⟨_, h, same_rfl⟩
      · exact h.elim
    · exact h.elim
/-! ### beside memory that isn't seen -/
def maskFrom (U : Nat → Bool) : Nat → VH K → VH K
  | _, [] => []
  | n, a :: l => (match U n with | true => .gone | false => a) :: maskFrom U (n + 1) l
def maskH (U : Nat → Bool) (H : VH K) : VH K := maskFrom U 0 H
theorem maskFrom_len {U : Nat → Bool} : ∀ {n : Nat} {H : VH K}, (maskFrom U n H).length = H.length
  | _, [] => rfl
  | n, a :: l => by simp [maskFrom, maskFrom_len]
theorem maskFrom_at {U : Nat → Bool} : ∀ {n : Nat} {H : VH K} (m : Nat), at_ (maskFrom U n H) m = if U (n + m) then .gone else at_ H m
  | n, [], m => by simp [maskFrom, at_]
  | n, a :: l, 0 => by simp only [maskFrom, at_, List.getD_cons_zero, Nat.add_zero]; cases U n <;> rfl
  | n, a :: l, m + 1 => by
    have := maskFrom_at (U := U) (n := n + 1) (H := l) m
    rw [show n + (m + 1) = n + 1 + m by omega]
    simpa [maskFrom, at_] using this
theorem maskH_len {U : Nat → Bool} : (maskH U H).length = H.length := maskFrom_len
theorem maskH_at {U : Nat → Bool} (m : Nat) : at_ (maskH U H) m = if U m then .gone else at_ H m := by
  have := maskFrom_at (U := U) (n := 0) (H := H) m
  rwa [Nat.zero_add] at this
def restFrom (U : Nat → Bool) (H : VH K) : Nat → VH K → VH K
  | _, [] => []
  | n, a :: l => (match U n with | true => at_ H n | false => a) :: restFrom U H (n + 1) l
def restore (U : Nat → Bool) (H Hm : VH K) : VH K := restFrom U H 0 Hm
theorem restFrom_len {U : Nat → Bool} {H : VH K} : ∀ {n : Nat} {Hm : VH K}, (restFrom U H n Hm).length = Hm.length
  | _, [] => rfl
  | n, a :: l => by simp [restFrom, restFrom_len]
theorem restFrom_at {U : Nat → Bool} {H : VH K} : ∀ {n : Nat} {Hm : VH K} (m : Nat), m < Hm.length → at_ (restFrom U H n Hm) m = if U (n + m) then at_ H (n + m) else at_ Hm m
  | n, a :: l, 0, _ => by simp only [restFrom, at_, List.getD_cons_zero, Nat.add_zero]; cases U n <;> rfl
  | n, a :: l, m + 1, h => by
    have := restFrom_at (U := U) (H := H) (n := n + 1) (Hm := l) m (by simpa using h)
    rw [show n + (m + 1) = n + 1 + m by omega]
    simpa [restFrom, at_] using this
  | n, [], m, h => by simp at h
theorem restore_len {U : Nat → Bool} {Hm : VH K} : (restore U H Hm).length = Hm.length := restFrom_len
theorem restore_at {U : Nat → Bool} {Hm : VH K} (m : Nat) (h : m < Hm.length) : at_ (restore U H Hm) m = if U m then at_ H m else at_ Hm m := by
  have := restFrom_at (U := U) (H := H) (n := 0) (Hm := Hm) m h
  rwa [Nat.zero_add] at this
theorem HeapOK.mask (st : HeapOK S w0 r H w) (U : Nat → Bool) : HeapOK (Ours r (maskH U H)) w r (maskH U H) w := by
  have blk : ∀ n b, blkOf r (maskH U H) n b → U n = false ∧ blkOf r H n b := fun n b hb => by
    unfold blkOf at hb ⊢
    rw [maskH_at] at hb
    cases hU : U n with
    | true => rw [hU] at hb; simp [Atom.has] at hb
    | false => rw [hU] at hb; exact ⟨rfl, by simpa using hb⟩
  refine ⟨fun n => ?_, fun n => ?_, fun n m b hne hb hb' => st.inj n m b hne (blk n b hb).2 (blk m b hb').2, fun n b hb => .inl ⟨n, hb⟩, fun n m b hn hm => st.ro n m b ?_ (blk m b hm).2, Out.refl _ w⟩
  · rw [maskH_at]; split
    · trivial
    · exact st.ok n
  · rw [maskH_at, maskH_len]; split
    · trivial
    · exact st.lt n
  · unfold rbOf at hn ⊢
    rw [maskH_at] at hn
    cases hU : U n with
    | true => rw [hU] at hn; simp [Atom.rb] at hn
    | false => rw [hU] at hn; simpa using hn
/-- What an operation does to what it sees, it does beside what it doesn't see. -/
theorem After.unmask (st : HeapOK S w0 r H w) {U : Nat → Bool} {k : VV → VH K → Prop} {v' : Value} {w' : World} (h : After (Ours r (maskH U H)) w r (maskH U H) k v' w') :
    ∃ r' vv Hm, k vv Hm ∧ vv.is r' v' ∧ vv.lt Hm.length ∧ H.length ≤ Hm.length ∧ (∀ n, n < H.length → r' n = r n) ∧ HeapOK S w0 r' (restore (fun n => U n && Nat.blt n H.length) H Hm) w' := by
  obtain ⟨r', vv, Hm, hk, hv, hl, hle, hr, hrk, st2⟩ := h
  rw [maskH_len] at hle hr
  refine ⟨r', vv, Hm, hk, hv, hl, hle, hr, ?_⟩
  have at3 : ∀ n, n < Hm.length → ¬ (U n = true ∧ n < H.length) → at_ (restore (fun n => U n && Nat.blt n H.length) H Hm) n = at_ Hm n := fun n hn h => by
    rw [restore_at n hn]
    have : (U n && Nat.blt n H.length) = false := by
      cases hU : U n with
      | false => rfl
      | true =>
        cases hb : Nat.blt n H.length with
        | false => rfl
        | true => exact absurd ⟨hU, by simpa [Nat.blt_eq] using hb⟩ h
    rw [this]; simp
  have blkm : ∀ m b, blkOf r (maskH U H) m b → U m = false ∧ m < H.length ∧ blkOf r H m b := fun m b hb => by
    have hlt : m < (maskH U H).length := at_lt fun e => by rw [blkOf, e] at hb; simp [Atom.has] at hb
    rw [maskH_len] at hlt
    unfold blkOf at hb ⊢
    rw [maskH_at] at hb
    cases hU : U m with
    | true => rw [hU] at hb; simp [Atom.has] at hb
    | false => rw [hU] at hb; exact ⟨rfl, hlt, by simpa using hb⟩
  have inb : ∀ n b, blkOf r' (restore (fun n => U n && Nat.blt n H.length) H Hm) n b → n < Hm.length := fun n b hb => by
    have := at_lt (H := restore (fun n => U n && Nat.blt n H.length) H Hm) (n := n) fun e => by rw [blkOf, e] at hb; simp [Atom.has] at hb
    rwa [restore_len] at this
  have free : ∀ n, (U n = false ∨ H.length ≤ n) → ¬ (U n = true ∧ n < H.length) := fun n h hh => by
    rcases h with h | h
    · rw [h] at hh; cases hh.1
    · omega
  refine st.evolve (fun n => U n = false) (fun n hn => ?_) (by rw [restore_len]; exact hle) hr (fun n hn hT => ?_) st2.out.os st2.out.tape st2.out.output st2.out.size (fun b hb hne => ?_) (fun n hn hc => ?_) (fun n b hc hb => ?_) (fun n m b hne hc hc' hb hb' => ?_)
  · have hnl : n < Hm.length := by
      have := at_lt (H := restore (fun n => U n && Nat.blt n H.length) H Hm) (n := n) fun e => by rw [e] at hn; cases hn
      rwa [restore_len] at this
    by_cases hf : U n = true ∧ n < H.length
    · exact ⟨hf.2, by rw [restore_at n hnl]; simp [hf.1, hf.2]⟩
    · rw [at3 n hnl hf] at hn ⊢
      obtain ⟨h1, h2⟩ := hrk n hn
      rw [maskH_len] at h1
      have hU : U n = false := by cases h : U n with | false => rfl | true => exact absurd ⟨h, h1⟩ hf
      rw [maskH_at, hU] at h2
      exact ⟨h1, h2⟩
  · have hU : U n = true := by cases h : U n <;> simp_all
    rw [restore_at n (by omega)]
    simp [hU, hn]
  · refine st2.out.block b hb fun hs => ?_
    obtain ⟨m, hm⟩ := hs
    obtain ⟨h1, _, h2⟩ := blkm m b hm
    exact hne m h1 h2
  · rw [restore_len] at hn ⊢
    rw [at3 n hn (free n hc)]
    exact ⟨st2.ok n, st2.lt n⟩
  · have hn := inb n b hb
    rw [blkOf, at3 n hn (free n hc)] at hb
    rcases st2.own n b hb with ⟨q, hq⟩ | hge
    · obtain ⟨h1, _, h2⟩ := blkm q b hq
      exact .inl ⟨q, h1, h2⟩
    · exact .inr hge
  · have hn := inb n b hb
    have hm := inb m b hb'
    rw [blkOf, at3 n hn (free n hc)] at hb
    rw [blkOf, at3 m hm (free m hc')] at hb'
    exact st2.inj n m b hne hb hb'
end Go.Proofs.YtndlpbheifalhaaGreatDoor.E
