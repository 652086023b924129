/- The evaluation of a function's code over states by names, and why what it shows is so. -/
import Derived.Test.YtndlpbheifalhaaGreatDoorE8
import Derived.Test.YtndlpbheifalhaaGreatDoorEj
namespace Go.Proofs.YtndlpbheifalhaaGreatDoor.E
set_option linter.unusedVariables false
set_option linter.unusedSimpArgs false
variable {K : Kinds} {P : Program} {S : Nat → Prop} {w0 w : World} {r : Nat → Ref} {H : VH K}
structure Tab (P : Program) (K : Kinds) where
  mixed : P.follows .mixedOrders = true
  pick : FuncId → List VV → VH K → Option (Ct K × List K.Kd × List Nat)
  ok : ∀ f args H ct ks τ, pick f args H = some (ct, ks, τ) → CtOk P f ct
def getO (fr : List VV) : Operand → VV
  | .tmp t => fr.getD t .any
  | .const v => ofConst v
  | .global _ => .any
  | .func f => .c (.fn f [])
structure FrOK (r : Nat → Ref) (N : Nat) (fr : List VV) (a : Act) : Prop where
  is : Are r fr a.tmps.toList
  lt : ∀ x ∈ fr, x.lt N
  defers : a.defers = []
theorem getD_lt {fr : List VV} {N : Nat} (h : ∀ x ∈ fr, x.lt N) (i : Nat) : (fr.getD i .any).lt N := by
  rw [List.getD_eq_getElem?_getD]
  rcases Nat.lt_or_ge i fr.length with h' | h'
  · rw [List.getElem?_eq_getElem h']; exact h _ (List.getElem_mem h')
  · rw [List.getElem?_eq_none h']; trivial
theorem FrOK.get {N : Nat} {fr : List VV} {a : Act} (h : FrOK r N fr a) (x : Operand) : (getO fr x).is r (a.eval x) ∧ (getO fr x).lt N := by
  cases x with
  | tmp t =>
    refine ⟨?_, getD_lt h.lt t⟩
    have := h.is.get t
    simpa [getO, Act.eval] using this
  | const v => exact ⟨ofConst_is v, ofConst_lt v N⟩
  | global g => exact ⟨trivial, trivial⟩
  | func f => exact ⟨rfl, lt_of_nm rfl⟩
def putF (fr : List VV) (dst : Option Tmp) (v : VV) : List VV := match dst with | some d => fr.set d v | none => fr
theorem Are.set {r : Nat → Ref} : ∀ {xs : List VV} {vs : List Value} (i : Nat) {x : VV} {v : Value}, Are r xs vs → x.is r v → Are r (xs.set i x) (vs.set i v)
  | [], [], _, _, _, _, _ => trivial
  | _ :: _, _ :: _, 0, _, _, h, hx => ⟨hx, h.2⟩
  | _ :: _, _ :: _, i + 1, _, _, h, hx => ⟨h.1, Are.set i h.2 hx⟩
  | [], _ :: _, _, _, _, h, _ => h.elim
  | _ :: _, [], _, _, _, h, _ => h.elim
theorem FrOK.put {N N' : Nat} {r' : Nat → Ref} {fr : List VV} {a : Act} (h : FrOK r N fr a) (hr : ∀ n, n < N → r' n = r n) (hN : N ≤ N') {v : VV} {u : Value} (hv : v.is r' u) (hl : v.lt N') (dst : Option Tmp) :
    FrOK r' N' (putF fr dst v) (a.put dst u) := by
  cases dst with
  | none => exact ⟨h.is.congr hr h.lt, fun x hx => VV.lt_mono (h.lt x hx) hN, h.defers⟩
  | some d =>
    refine ⟨?_, fun x hx => ?_, h.defers⟩
    · simp only [putF, Act.put, Array.toList_setIfInBounds]
      exact (h.is.congr hr h.lt).set d hv
    · rcases List.mem_or_eq_of_mem_set hx with hx | rfl
      · exact VV.lt_mono (h.lt x hx) hN
      · exact hl
/-- The whole of a state of a function's run. -/
structure StOK (S : Nat → Prop) (w0 : World) (r0 : Nat → Ref) (N0 : Nat) (r : Nat → Ref) (fr : List VV) (H : VH K) (a : Act) (w : World) : Prop where
  heap : HeapOK S w0 r H w
  frame : FrOK r H.length fr a
  len : N0 ≤ H.length
  keep : ∀ n, n < N0 → r n = r0 n
/-! ### one operation -/
def evBuiltin (P : Program) (b : Builtin) (ts : List TypeId) (args : List VV) (H : VH K) (k : VV → VH K → Prop) : Prop :=
  match b, ts, args with
  | .len, [t], [x] => evLen P t x fun v => k v H
  | .max, [_, _], [x, y] => evMM true x y fun v => k v H
  | .min, [_, _], [x, y] => evMM false x y fun v => k v H
  | .append, [t, tx], [s, x] => evAppend P t tx s x H k
  | .copy, [t, tx], [s, x] => evCopy P t tx s x H k
  | _, _, _ => False
def evStatic (tab : Tab P K) (f : FuncId) (args : List VV) (H : VH K) (k : VV → VH K → Prop) : Prop :=
  match tab.pick f args H with
  | some (ct, ks, τ) => evCall ct ks τ args H k
  | none => False
/-- What a function value has taken in: the places of cells. -/
def capsOf : List VV → Option (List (TypeId × Nat))
  | [] => some []
  | .one (.c (.rp T 0 b 0 0)) :: t => (capsOf t).map ((T, b) :: ·)
  | _ => none
abbrev capV (p : TypeId × Nat) : VV := .c (.rp p.1 0 p.2 0 0)
theorem capsOf_are {r : Nat → Ref} : ∀ {xs : List VV} {vs : List Value} {l : List (TypeId × Nat)}, capsOf xs = some l → Are r xs vs → vs = l.map fun p => Value.pointer (some ⟨p.2, 0, none⟩)
  | [], [], l, h, _ => by simp only [capsOf, Option.some.injEq] at h; subst h; rfl
  | [], _ :: _, _, _, h => h.elim
  | x :: xs, [], _, _, h => h.elim
  | x :: xs, v :: vs, l, h, ha => by
    unfold capsOf at h
    split at h
    · rename_i heq
      cases heq
    · rename_i T b t heq
      injection heq with h1 h2
      subst h1 h2
      cases hc : capsOf xs with
      | none => rw [hc] at h; cases h
      | some m =>
        rw [hc] at h
        simp only [Option.map_some, Option.some.injEq] at h
        subst h
        have hv : v = .pointer (some ⟨b, 0 * 0 + 0, none⟩) := ha.1
        rw [List.map_cons, ← capsOf_are hc ha.2, hv]
    · cases h
theorem capV_are {r : Nat → Ref} : ∀ l : List (TypeId × Nat), Are r (l.map capV) (l.map fun p => Value.pointer (some ⟨p.2, 0, none⟩))
  | [] => trivial
  | p :: l => ⟨by show Value.pointer (some ⟨p.2, 0, none⟩) = .pointer (some ⟨p.2, 0 * 0 + 0, none⟩); simp, capV_are l⟩
theorem Are.append {r : Nat → Ref} : ∀ {xs ys : List VV} {vs us : List Value}, Are r xs vs → Are r ys us → Are r (xs ++ ys) (vs ++ us)
  | [], _, [], _, _, h => h
  | x :: xs, _, v :: vs, _, h, k => ⟨h.1, Are.append h.2 k⟩
  | [], _, _ :: _, _, h, _ => h.elim
  | _ :: _, _, [], _, h, _ => h.elim
def evOp (tab : Tab P K) (fr : List VV) (o : Oper) (H : VH K) (k : VV → VH K → Prop) : Prop :=
  match o.op with
  | .move x => k (getO fr x) H
  | .assign x => k (getO fr x) H
  | .pick c a b => match getO fr c with
    | .one (.c (.bool t)) => ite2 t (k (getO fr a) H) (k (getO fr b) H)
    | _ => False
  | .alloc T => evAlloc P T H k
  | .box T x => evBox T (getO fr x) H k
  | .build t ps => evBuild P t (ps.toList.map fun p => (p.1, getO fr p.2)) fun v => k v H
  | .buildSlice t len ps => evSliceLit P t len (ps.toList.map fun p => (p.1, getO fr p.2)) H k
  | .load t x => evLoad P t (getO fr x) H k
  | .store t x y => evStore P t (getO fr x) (getO fr y) H k
  | .nilCheck x => match getO fr x with
    | .one (.c (.ptr n i j)) => k (.c (.ptr n i j)) H
    | .one (.c (.rp e sz b i j)) => k (.c (.rp e sz b i j)) H
    | _ => False
  | .binOp op t x y _ => match getO fr x, getO fr y with
    | .one (.agg l), .one (.agg l') => guardP (match P.underlying t with | some d => isRowB d | none => false) (evAgg P op t l l' fun v => k v H)
    | vx, vy => evBin P t op vx vy fun v => k v H
  | .unOp op _ x => evUn op (getO fr x) fun v => k v H
  | .convert s d x => evConv P s d (getO fr x) fun v => k v H
  | .makeSlice t l c => evMake P t (getO fr l) (getO fr c) H k
  | .slice t x lo hi mx => evCut P t (getO fr x) (lo.map (getO fr)) (hi.map (getO fr)) (mx.map (getO fr)) H k
  | .fieldAddr t x f => evFieldAddr P t (getO fr x) f H k
  | .field t x f => evField P t (getO fr x) f fun v => k v H
  | .indexAddr t x i => evIndexAddr P t (getO fr x) (getO fr i) H k
  | .index t x i => evIndex P t (getO fr x) (getO fr i) fun v => k v H
  | .extract x i => evExtract (getO fr x) i fun v => k v H
  | .call c => match c.callee with
    | .builtin b => evBuiltin P b c.argTypes.toList (c.args.toList.map (getO fr)) H k
    | .value (.func f) => evStatic tab f (c.args.toList.map (getO fr)) H k
    | .value x => match getO fr x with
      | .one (.c (.fn f caps)) => evStatic tab f (c.args.toList.map (getO fr) ++ caps.map capV) H k
      | _ => False
    | _ => False
  | .makeFunc f first caps => match f, first.toList, capsOf (caps.toList.map (getO fr)) with
    | .func f, [], some l => k (.c (.fn f l)) H
    | _, _, _ => False
  | _ => False
theorem RelP_of {N : Nat} {fr : List VV} {a : Act} (h : FrOK r N fr a) : ∀ ps : List (Nat × Operand), RelP r N (ps.map fun p => (p.1, getO fr p.2)) (ps.map fun p => (p.1, a.eval p.2))
  | [] => trivial
  | p :: ps => ⟨rfl, (h.get p.2).1, (h.get p.2).2, RelP_of h ps⟩
theorem Are_of {N : Nat} {fr : List VV} {a : Act} (h : FrOK r N fr a) : ∀ xs : List Operand, Are r (xs.map (getO fr)) (xs.map a.eval)
  | [] => trivial
  | x :: xs => ⟨(h.get x).1, Are_of h xs⟩
theorem OptIs_of {N : Nat} {fr : List VV} {a : Act} (h : FrOK r N fr a) (x : Option Operand) : OptIs r (x.map (getO fr)) (x.map a.eval) := by
  cases x with
  | none => trivial
  | some x => exact (h.get x).1
/-- What may stand behind the operation, in terms of the walk's own words. -/
theorem wp_value {o : Oper} {a : Act} {next : Act → World → Prop} {Q : Exit → Act → World → Prop} {v : Value} {w' : World} (hr : (execOp a.eval o).run P w = .ok (.value v) w') (h : next (a.put o.dst v) w') : o.wp P a w next Q := by
  unfold Oper.wp; rw [hr]; exact h
theorem wp_skip_ {o : Oper} {a : Act} {next : Act → World → Prop} {Q : Exit → Act → World → Prop} {w' : World} (hr : (execOp a.eval o).run P w = .ok .skip w') (h : next (a.put o.dst undef) w') : o.wp P a w next Q := by
  unfold Oper.wp; rw [hr]; exact h
theorem evOp_sound (hK : K.Ok) (tab : Tab P K) {r0 : Nat → Ref} {N0 : Nat} {fr : List VV} {a : Act} (st : StOK S w0 r0 N0 r fr H a w) {o : Oper} {k : VV → VH K → Prop} (h : evOp tab fr o H k)
    {next : Act → World → Prop} {Q : Exit → Act → World → Prop} (hn : ∀ v' w', After S w0 r H k v' w' → next (a.put o.dst v') w') : o.wp P a w next Q := by
  have hf := st.frame
  have get := fun x => hf.get x
  have sh := st.heap
  obtain ⟨dst, op, type, pos, after, guard⟩ := o
  cases op <;> simp only [evOp] at h
  case move x => exact wp_value (by simp [execOp]) (hn _ _ (After.pure sh h (get x).1 (get x).2))
  case assign x => exact wp_value (by simp [execOp]) (hn _ _ (After.pure sh h (get x).1 (get x).2))
  case pick c x y =>
    split at h
    · rename_i t hc
      have hc' := (get c).1
      rw [hc] at hc'
      have hc'' : a.eval c = .bool t := hc'
      rcases ite2_of h with ⟨rfl, h⟩ | ⟨rfl, h⟩
      · exact wp_value (by simp [execOp, hc'', asBool]) (hn _ _ (After.pure sh h (get x).1 (get x).2))
      · exact wp_value (by simp [execOp, hc'', asBool]) (hn _ _ (After.pure sh h (get y).1 (get y).2))
    · exact h.elim
  case alloc T =>
    obtain ⟨v', w', hr, ha⟩ := evAlloc_sound sh h
    exact wp_value (by simp [execOp, hr]) (hn _ _ ha)
  case box T x =>
    obtain ⟨v', w', hr, ha⟩ := evBox_sound (P := P) sh h (get x).1 (get x).2
    exact wp_value (by simp [execOp, hr]) (hn _ _ ha)
  case build t ps =>
    obtain ⟨v', hr, ha⟩ := evBuild_sound sh h (qs := ps.map fun p => (p.1, a.eval p.2)) (by simpa using RelP_of hf ps.toList)
    exact wp_value (by simp [execOp, hr]) (hn _ _ ha)
  case buildSlice t len ps =>
    obtain ⟨v', w', hr, ha⟩ := evSliceLit_sound hK sh h (qs := ps.map fun p => (p.1, a.eval p.2)) (by simpa using RelP_of hf ps.toList)
    exact wp_value (by simp [execOp, hr]) (hn _ _ ha)
  case load t x =>
    obtain ⟨v', hr, ha⟩ := evLoad_sound hK sh h (get x).1
    exact wp_value (by simp [execOp, hr]) (hn _ _ ha)
  case store t x y =>
    obtain ⟨w', hr, ha⟩ := evStore_sound hK sh h (get x).1 (get y).1 (get y).2
    exact wp_skip_ (by simp [execOp, hr]) (hn _ _ ha)
  case nilCheck x =>
    split at h
    · rename_i n i j hx
      have hx' := (get x).1
      have hl := (get x).2
      rw [hx] at hx' hl
      have hx'' : a.eval x = .pointer (some ⟨(r n).blk, (r n).off + (i * (r n).sz + j), none⟩) := hx'
      exact wp_value (by simp [execOp, hx'']) (hn _ _ (After.pure sh h (v := .pointer (some ⟨(r n).blk, (r n).off + (i * (r n).sz + j), none⟩)) rfl hl))
    · rename_i e sz b i j hx
      have hx' := (get x).1
      have hl := (get x).2
      rw [hx] at hx' hl
      have hx'' : a.eval x = .pointer (some ⟨b, i * sz + j, none⟩) := hx'
      exact wp_value (by simp [execOp, hx'']) (hn _ _ (After.pure sh h (v := .pointer (some ⟨b, i * sz + j, none⟩)) rfl hl))
    · exact h.elim
  case binOp op t x y t' =>
    have gx := get x
    have gy := get y
    split at h
    · rename_i l l' hx hy
      rw [hx] at gx
      rw [hy] at gy
      obtain ⟨hg, h⟩ := guardP_iff.1 h
      have hT : ∃ d, P.underlying t = some d ∧ isRowB d = true := by
        cases hu : P.underlying t with
        | none => simp [hu] at hg
        | some d => exact ⟨d, rfl, by simpa [hu] using hg⟩
      obtain ⟨v', hr, ha⟩ := evAgg_sound (P := P) sh (ox := x) (oy := y) h gx.1 gy.1 hT
      exact wp_value (by simp only [execOp, Sem.run_bind, hr, Result.andThen_ok, Sem.run_pure]) (hn _ _ ha)
    · obtain ⟨v', hr, ha⟩ := evBin_sound (P := P) sh (T := t) (ox := x) (oy := y) h gx.1 gy.1
      exact wp_value (by simp only [execOp, Sem.run_bind, hr, Result.andThen_ok, Sem.run_pure]) (hn _ _ ha)
  case unOp op t x =>
    obtain ⟨v', hr, ha⟩ := evUn_sound (P := P) sh h (get x).1
    exact wp_value (by simp [execOp, hr]) (hn _ _ ha)
  case convert s d x =>
    obtain ⟨v', hr, ha⟩ := evConv_sound sh h (get x).1
    exact wp_value (by simp [execOp, hr]) (hn _ _ ha)
  case makeSlice t l c =>
    obtain ⟨v', w', hr, ha⟩ := evMake_sound hK sh h (get l).1 (get c).1
    exact wp_value (by simp [execOp, hr]) (hn _ _ ha)
  case slice t x lo hi mx =>
    obtain ⟨v', hr, ha⟩ := evCut_sound hK sh h (get x).1 (get x).2 (OptIs_of hf lo) (OptIs_of hf hi) (OptIs_of hf mx)
    exact wp_value (by simp [execOp, hr]) (hn _ _ ha)
  case fieldAddr t x f =>
    obtain ⟨v', hr, ha⟩ := evFieldAddr_sound sh h (get x).1 (get x).2
    exact wp_value (by simp [execOp, hr]) (hn _ _ ha)
  case field t x f =>
    obtain ⟨v', hr, ha⟩ := evField_sound sh h (get x).1 (get x).2
    exact wp_value (by simp [execOp, hr]) (hn _ _ ha)
  case indexAddr t x i =>
    obtain ⟨v', hr, ha⟩ := evIndexAddr_sound hK sh h (get x).1 (get i).1 (get x).2
    exact wp_value (by simp [execOp, hr]) (hn _ _ ha)
  case index t x i =>
    obtain ⟨v', hr, ha⟩ := evIndex_sound sh h (get x).1 (get i).1 (get x).2
    exact wp_value (by simp [execOp, hr]) (hn _ _ ha)
  case extract x i =>
    obtain ⟨v', hr, ha⟩ := evExtract_sound (P := P) sh h (get x).1 (get x).2
    exact wp_value (by simp [execOp, hr]) (hn _ _ ha)
  case call c =>
    obtain ⟨callee, args, ats⟩ := c
    have hargs := Are_of hf args.toList
    cases callee with
    | builtin b =>
      simp only at h
      have hres : ∀ {m : Sem Value} {v' w'}, (execOp a.eval { dst, op := .call { callee := .builtin b, args, argTypes := ats }, type, pos, after, guard }) = (do pure (.value (← m))) → m.run P w = .ok v' w' →
          (execOp a.eval { dst, op := .call { callee := .builtin b, args, argTypes := ats }, type, pos, after, guard }).run P w = .ok (.value v') w' := fun he hm => by
        rw [he]; simp [hm]
      unfold evBuiltin at h
      split at h
      · rename_i t x hts hxs
        have e1 : ats = #[t] := by apply Array.ext'; simpa using hts
        obtain ⟨y, hy, hyx⟩ : ∃ y, args = #[y] ∧ getO fr y = x := by
          match hargs' : args.toList, hxs with
          | [y], hxs => exact ⟨y, by apply Array.ext'; simpa using hargs', by simpa [hargs'] using hxs⟩
          | [], hxs => simp [hargs'] at hxs
          | _ :: _ :: _, hxs => simp [hargs'] at hxs
        subst e1 hy hyx
        obtain ⟨v', hr, ha⟩ := evLen_sound (P := P) (ty := type) sh h (get y).1
        exact wp_value (hres (m := Builtin.len_ #[t] type #[a.eval y]) (by simp [execOp, resolve, invoke, builtin]) hr) (hn _ _ ha)
      · rename_i t t' x y hts hxs
        obtain ⟨x', y', hxy, hx', hy'⟩ : ∃ x' y', args = #[x', y'] ∧ getO fr x' = x ∧ getO fr y' = y := by
          match hargs' : args.toList, hxs with
          | [x', y'], hxs => exact ⟨x', y', by apply Array.ext'; simpa using hargs', by simp [hargs'] at hxs; exact hxs.1, by simp [hargs'] at hxs; exact hxs.2⟩
          | [], hxs => simp [hargs'] at hxs
          | [_], hxs => simp [hargs'] at hxs
          | _ :: _ :: _ :: _, hxs => simp [hargs'] at hxs
        subst hxy hx' hy'
        obtain ⟨v', hr, ha⟩ := evMax_sound (P := P) (ts := ats) (ty := type) sh h (get x').1 (get y').1
        exact wp_value (hres (m := Builtin.max_ ats type #[a.eval x', a.eval y']) (by simp [execOp, resolve, invoke, builtin]) hr) (hn _ _ ha)
      · rename_i t t' x y hts hxs
        obtain ⟨x', y', hxy, hx', hy'⟩ : ∃ x' y', args = #[x', y'] ∧ getO fr x' = x ∧ getO fr y' = y := by
          match hargs' : args.toList, hxs with
          | [x', y'], hxs => exact ⟨x', y', by apply Array.ext'; simpa using hargs', by simp [hargs'] at hxs; exact hxs.1, by simp [hargs'] at hxs; exact hxs.2⟩
          | [], hxs => simp [hargs'] at hxs
          | [_], hxs => simp [hargs'] at hxs
          | _ :: _ :: _ :: _, hxs => simp [hargs'] at hxs
        subst hxy hx' hy'
        obtain ⟨v', hr, ha⟩ := evMin_sound (P := P) (ts := ats) (ty := type) sh h (get x').1 (get y').1
        exact wp_value (hres (m := Builtin.min_ ats type #[a.eval x', a.eval y']) (by simp [execOp, resolve, invoke, builtin]) hr) (hn _ _ ha)
      · rename_i t t' x y hts hxs
        have e1 : ats = #[t, t'] := by apply Array.ext'; simpa using hts
        obtain ⟨x', y', hxy, hx', hy'⟩ : ∃ x' y', args = #[x', y'] ∧ getO fr x' = x ∧ getO fr y' = y := by
          match hargs' : args.toList, hxs with
          | [x', y'], hxs => exact ⟨x', y', by apply Array.ext'; simpa using hargs', by simp [hargs'] at hxs; exact hxs.1, by simp [hargs'] at hxs; exact hxs.2⟩
          | [], hxs => simp [hargs'] at hxs
          | [_], hxs => simp [hargs'] at hxs
          | _ :: _ :: _ :: _, hxs => simp [hargs'] at hxs
        subst e1 hxy hx' hy'
        obtain ⟨v', w', hr, ha⟩ := evAppend_sound (P := P) (ty := type) hK sh h (get x').1 (get y').1
        exact wp_value (hres (m := Builtin.append_ #[t, t'] type #[a.eval x', a.eval y']) (by simp [execOp, resolve, invoke, builtin]) hr) (hn _ _ ha)
      · rename_i t t' x y hts hxs
        have e1 : ats = #[t, t'] := by apply Array.ext'; simpa using hts
        obtain ⟨x', y', hxy, hx', hy'⟩ : ∃ x' y', args = #[x', y'] ∧ getO fr x' = x ∧ getO fr y' = y := by
          match hargs' : args.toList, hxs with
          | [x', y'], hxs => exact ⟨x', y', by apply Array.ext'; simpa using hargs', by simp [hargs'] at hxs; exact hxs.1, by simp [hargs'] at hxs; exact hxs.2⟩
          | [], hxs => simp [hargs'] at hxs
          | [_], hxs => simp [hargs'] at hxs
          | _ :: _ :: _ :: _, hxs => simp [hargs'] at hxs
        subst e1 hxy hx' hy'
        obtain ⟨v', w', hr, ha⟩ := evCopy_sound (P := P) (ty := type) hK sh h (get x').1 (get y').1
        exact wp_value (hres (m := Builtin.copy_ #[t, t'] type #[a.eval x', a.eval y']) (by simp [execOp, resolve, invoke, builtin]) hr) (hn _ _ ha)
      · exact h.elim
    | value f =>
      have dyn : ∀ f0 caps, getO fr f = .c (.fn f0 caps) → evStatic tab f0 (args.toList.map (getO fr) ++ caps.map capV) H k → ({ dst, op := .call { callee := .value f, args, argTypes := ats }, type, pos, after, guard } : Oper).wp P a w next Q := fun f0 caps hfn h => by
        simp only [evStatic] at h
        split at h
        · rename_i ct ks τ hp
          have hct := tab.ok _ _ _ _ _ _ hp
          have hcalls := evCall_sound hK hct sh h (vals := args.toList.map a.eval ++ caps.map fun p : TypeId × Nat => Value.pointer (some ⟨p.2, 0, none⟩)) (Are.append hargs (capV_are caps)) (fun x hx => by
            rcases List.mem_append.1 hx with hx | hx
            · obtain ⟨y, _, rfl⟩ := List.mem_map.1 hx; exact (get y).2
            · obtain ⟨p, _, rfl⟩ := List.mem_map.1 hx; exact lt_of_nm rfl)
          have hval := (get f).1
          rw [hfn] at hval
          have hval : a.eval f = .func (.func f0) #[] (caps.map fun p : TypeId × Nat => Value.pointer (some ⟨p.2, 0, none⟩)).toArray := hval
          have hrun : (execOp a.eval { dst, op := .call { callee := .value f, args, argTypes := ats }, type, pos, after, guard }).run P w = .ok (.enter f0 (args.toList.map a.eval ++ caps.map fun p : TypeId × Nat => Value.pointer (some ⟨p.2, 0, none⟩)).toArray) w := by
            have e : (args.toList.map a.eval ++ caps.map fun p : TypeId × Nat => Value.pointer (some ⟨p.2, 0, none⟩)).toArray = args.map a.eval ++ (caps.map fun p : TypeId × Nat => Value.pointer (some ⟨p.2, 0, none⟩)).toArray := by
              apply Array.ext'; simp
            rw [e]
            simp [execOp, resolve, hval, Deferred.ofValue, invoke, hct.enter]
          unfold Oper.wp
          rw [hrun]
          refine hcalls.mono ?_
          rintro e w' ⟨v', rfl, ha⟩
          exact hn _ _ ha
        · exact h.elim
      cases f with
      | func f =>
        refine dyn f [] rfl ?_
        simpa using h
      | tmp t =>
        simp only at h
        split at h
        · rename_i f0 caps hfn
          exact dyn f0 caps hfn h
        · exact h.elim
      | const v =>
        simp only at h
        split at h
        · rename_i f0 caps hfn
          exact dyn f0 caps hfn h
        · exact h.elim
      | global g => exact h.elim
    | invoke _ _ => exact h.elim
  case makeFunc f first caps =>
    split at h
    · rename_i f0 l hf0 hc
      have hcs := capsOf_are hc (Are_of hf caps.toList)
      have hfirst : first = #[] := by apply Array.ext'; simpa using hf0
      subst hfirst
      refine wp_value (v := .func (.func f0) #[] (l.map fun p : TypeId × Nat => Value.pointer (some ⟨p.2, 0, none⟩)).toArray) ?_ (hn _ _ (After.pure sh h rfl (lt_of_nm rfl)))
      have e : (l.map fun p : TypeId × Nat => Value.pointer (some ⟨p.2, 0, none⟩)).toArray = caps.map a.eval := by
        rw [← hcs]; apply Array.ext'; simp
      rw [e]
      simp [execOp, Instr.makeFunc]
    · exact h.elim
  all_goals exact h.elim
end Go.Proofs.YtndlpbheifalhaaGreatDoor.E
