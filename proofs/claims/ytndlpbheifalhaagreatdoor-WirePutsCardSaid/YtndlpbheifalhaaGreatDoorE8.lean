/- Contracts of functions, told of their own small state; a call within a greater one. -/
import Derived.Test.YtndlpbheifalhaaGreatDoorE7
namespace Go.Proofs.YtndlpbheifalhaaGreatDoor.E
set_option linter.unusedVariables false
set_option linter.unusedSimpArgs false
variable {K : Kinds} {P : Program} {S : Nat → Prop} {w0 w : World} {r : Nat → Ref} {H : VH K}
structure Ct (K : Kinds) where
  need : Prop
  pre : VH K
  args : List VV
  Y : Type
  ok : Y → Prop
  ret : Y → VV
  post : Y → VH K
def Ours (r : Nat → Ref) (H : VH K) (b : Nat) : Prop := ∃ m, blkOf r H m b
def Ct.Post (ct : Ct K) (v : VV) (H' : VH K) : Prop := ∃ y, ct.ok y ∧ v = ct.ret y ∧ H' = ct.post y
structure CtOk (P : Program) (f : FuncId) (ct : Ct K) : Prop where
  enter : ∀ args w, (callFunc f args).run P w = .ok (.enter f args) w
  calls : ct.need → ∀ (r : Nat → Ref) (w : World) (vals : List Value), HeapOK (Ours r ct.pre) w r ct.pre w → Are r ct.args vals → (∀ x ∈ ct.args, x.lt ct.pre.length) →
    Calls P f vals.toArray w fun e w' => ∃ v', e = .returned v' ∧ After (Ours r ct.pre) w r ct.pre ct.Post v' w'
def C.ren (g : Nat → Nat) : C → C
  | .ptr n i j => .ptr (g n) i j
  | .slc n lo len cap => .slc (g n) lo len cap
  | c => c
def V1.ren (g : Nat → Nat) : V1 → V1
  | .c x => .c (x.ren g)
  | .agg l => .agg (l.map (C.ren g))
def VV.ren (g : Nat → Nat) : VV → VV
  | .one x => .one (x.ren g)
  | .tup l => .tup (l.map (V1.ren g))
  | .any => .any
def Atom.ren (g : Nat → Nat) : Atom K → Atom K
  | .cells T cs => .cells T (cs.map (C.ren g))
  | a => a
section ren
variable {r' : Nat → Ref} {g : Nat → Nat} {N : Nat}
theorem C.ren_is (hg : ∀ n, n < N → r' (g n) = r n) {c : C} {v : Value} (hl : c.lt N) (h : c.is r v) : (c.ren g).is r' v := by
  cases c with
  | ptr n i j => have := hg n (hl n rfl); simp only [C.is, C.ren] at h ⊢; rw [this]; exact h
  | slc n lo len cap => have := hg n (hl n rfl); simp only [C.is, C.ren] at h ⊢; rw [this]; exact h
  | _ => exact h
theorem C.ren_lt {M : Nat} (hg : ∀ n, n < N → g n < M) {c : C} (hl : c.lt N) : (c.ren g).lt M := by
  intro m hm
  cases c with
  | ptr n i j => simp [C.ren, C.nm] at hm; subst hm; exact hg n (hl n rfl)
  | slc n lo len cap => simp [C.ren, C.nm] at hm; subst hm; exact hg n (hl n rfl)
  | _ => cases hm
theorem C.ren_one {c : C} (h : c.one = true) : (c.ren g).one = true := by cases c <;> first | rfl | exact h
theorem Rel.ren (hg : ∀ n, n < N → r' (g n) = r n) : ∀ {cs : List C} {vs : List Value}, (∀ c ∈ cs, c.lt N) → Rel r cs vs → Rel r' (cs.map (C.ren g)) vs
  | [], [], _, _ => trivial
  | c :: cs, v :: vs, hl, h => ⟨C.ren_is hg (hl c (by simp)) h.1, Rel.ren hg (fun c hc => hl c (by simp [hc])) h.2⟩
  | [], _ :: _, _, h => h.elim
  | _ :: _, [], _, h => h.elim
theorem V1.ren_is (hg : ∀ n, n < N → r' (g n) = r n) {c : V1} {v : Value} (hl : c.lt N) (h : c.is r v) : (c.ren g).is r' v := by
  cases c with
  | c x => exact C.ren_is hg hl h
  | agg l => obtain ⟨vs, e, hr⟩ := h; exact ⟨vs, e, Rel.ren hg hl hr⟩
theorem V1.ren_lt {M : Nat} (hg : ∀ n, n < N → g n < M) {c : V1} (hl : c.lt N) : (c.ren g).lt M := by
  cases c with
  | c x => exact C.ren_lt hg hl
  | agg l => intro c hc; obtain ⟨d, hd, rfl⟩ := List.mem_map.1 hc; exact C.ren_lt hg (hl d hd)
theorem RelV.ren (hg : ∀ n, n < N → r' (g n) = r n) : ∀ {cs : List V1} {vs : List Value}, (∀ c ∈ cs, c.lt N) → RelV r cs vs → RelV r' (cs.map (V1.ren g)) vs
  | [], [], _, _ => trivial
  | c :: cs, v :: vs, hl, h => ⟨V1.ren_is hg (hl c (by simp)) h.1, RelV.ren hg (fun c hc => hl c (by simp [hc])) h.2⟩
  | [], _ :: _, _, h => h.elim
  | _ :: _, [], _, h => h.elim
theorem VV.ren_is (hg : ∀ n, n < N → r' (g n) = r n) {c : VV} {v : Value} (hl : c.lt N) (h : c.is r v) : (c.ren g).is r' v := by
  cases c with
  | one x => exact V1.ren_is hg hl h
  | tup l => obtain ⟨vs, e, hr⟩ := h; exact ⟨vs, e, RelV.ren hg hl hr⟩
  | any => trivial
theorem VV.ren_lt {M : Nat} (hg : ∀ n, n < N → g n < M) {c : VV} (hl : c.lt N) : (c.ren g).lt M := by
  cases c with
  | one x => exact V1.ren_lt hg hl
  | tup l => intro c hc; obtain ⟨d, hd, rfl⟩ := List.mem_map.1 hc; exact V1.ren_lt hg (hl d hd)
  | any => trivial
theorem Atom.ren_ok (hg : ∀ n, n < N → r' (g n) = r n) {a : Atom K} {x : Ref} (hl : a.lt N) (h : a.ok r x w) : (a.ren g).ok r' x w := by
  cases a with
  | cells T cs => obtain ⟨hn, vs, hv, hr⟩ := h; exact ⟨hn, vs, hv, Rel.ren hg (fun c hc => (hl c hc).1) hr⟩
  | _ => exact h
theorem Atom.ren_lt {M : Nat} (hg : ∀ n, n < N → g n < M) {a : Atom K} (hl : a.lt N) : (a.ren g).lt M := by
  cases a with
  | cells T cs => intro c hc; obtain ⟨d, hd, rfl⟩ := List.mem_map.1 hc; exact ⟨C.ren_lt hg (hl d hd).1, C.ren_one (hl d hd).2⟩
  | _ => exact hl
theorem Atom.ren_has {a : Atom K} {x : Ref} : (a.ren g).has x = a.has x := by cases a <;> rfl
end ren
def setAll (H : VH K) : List Nat → VH K → VH K
  | n :: τ, a :: l => setAll (H.set n a) τ l
  | _, _ => H
theorem setAll_len : ∀ (τ : List Nat) (l : VH K) (H : VH K), (setAll H τ l).length = H.length
  | n :: τ, a :: l, H => by simp only [setAll]; rw [setAll_len τ l]; simp
  | [], _, H => by simp [setAll]
  | _ :: _, [], H => by simp [setAll]
theorem setAll_other : ∀ (τ : List Nat) (l : VH K) (H : VH K) (n : Nat), n ∉ τ → at_ (setAll H τ l) n = at_ H n
  | m :: τ, a :: l, H, n, h => by
    simp only [List.mem_cons, not_or] at h
    simp only [setAll]
    rw [setAll_other τ l _ n h.2]
    simp only [at_, List.getD_eq_getElem?_getD, List.getElem?_set]
    rw [if_neg (Ne.symm h.1)]
  | [], _, H, n, _ => by simp [setAll]
  | _ :: _, [], H, n, _ => by simp [setAll]
theorem setAll_at : ∀ (τ : List Nat) (l : VH K) (H : VH K) (m : Nat), nodupB τ = true → (∀ n ∈ τ, n < H.length) → m < τ.length → m < l.length → at_ (setAll H τ l) (τ.getD m 0) = at_ l m
  | n :: τ, a :: l, H, 0, hnd, hl, _, _ => by
    simp only [setAll, List.getD_cons_zero]
    simp only [nodupB, Bool.and_eq_true, Bool.not_eq_true', List.contains_eq_mem, decide_eq_false_iff_not] at hnd
    rw [setAll_other τ l _ n hnd.1]
    rw [at_set (hl n (by simp)), if_pos rfl]
    simp [at_]
  | n :: τ, a :: l, H, m + 1, hnd, hl, hm, hm' => by
    simp only [nodupB, Bool.and_eq_true] at hnd
    simp only [setAll, List.getD_cons_succ]
    rw [setAll_at τ l _ m hnd.2 (fun q hq => by simpa using hl q (by simp [hq])) (by simpa using hm) (by simpa using hm')]
    simp [at_]
  | [], _, _, m, _, _, hm, _ => by simp at hm
  | _ :: _, [], _, m, _, _, _, hm => by simp at hm
def newName (M : Nat) (τ : List Nat) (m : Nat) : Nat := match τ[m]? with | some n => n | none => M + (m - τ.length)
def frameH (H1 : VH K) (τ : List Nat) (post : VH K) : VH K := setAll H1 τ post ++ post.drop τ.length
/-- What the callee only reads stays what it is to the caller. -/
def keepRo (H1 : VH K) : List Nat → VH K → VH K → VH K
  | n :: τ, a :: pre, b :: post => (match a.isRo with | true => at_ H1 n | false => b) :: keepRo H1 τ pre post
  | _, _, post => post
theorem keepRo_len {H1 : VH K} : ∀ {τ : List Nat} {pre post : VH K}, (keepRo H1 τ pre post).length = post.length
  | n :: τ, a :: pre, b :: post => by simp [keepRo, keepRo_len (τ := τ)]
  | [], _, _ => by simp [keepRo]
  | _ :: _, [], _ => by simp [keepRo]
  | _ :: _, _ :: _, [] => by simp [keepRo]
theorem keepRo_no {H1 : VH K} : ∀ {τ : List Nat} {pre post : VH K} (m : Nat), (at_ pre m).isRo = false → at_ (keepRo H1 τ pre post) m = at_ post m
  | n :: τ, a :: pre, b :: post, 0, h => by
    have : a.isRo = false := by simpa [at_] using h
    simp [keepRo, this, at_]
  | n :: τ, a :: pre, b :: post, m + 1, h => by
    have := keepRo_no (H1 := H1) (τ := τ) (pre := pre) (post := post) m (by simpa [at_] using h)
    simpa [keepRo, at_] using this
  | [], _, _, _, _ => by simp [keepRo]
  | _ :: _, [], _, _, _ => by simp [keepRo]
  | _ :: _, _ :: _, [], _, _ => by simp [keepRo]
theorem keepRo_yes {H1 : VH K} : ∀ {τ : List Nat} {pre post : VH K} (m : Nat), m < τ.length → m < post.length → (at_ pre m).isRo = true → at_ (keepRo H1 τ pre post) m = at_ H1 (τ.getD m 0)
  | n :: τ, a :: pre, b :: post, 0, _, _, h => by
    have : a.isRo = true := by simpa [at_] using h
    simp [keepRo, this, at_]
  | n :: τ, a :: pre, b :: post, m + 1, h1, h2, h => by
    have := keepRo_yes (H1 := H1) (τ := τ) (pre := pre) (post := post) m (by simpa using h1) (by simpa using h2) (by simpa [at_] using h)
    simpa [keepRo, at_] using this
  | [], _, _, _, h, _, _ => by simp at h
  | _ :: _, [], _, _, _, _, h => by simp [at_, Atom.isRo] at h
  | _ :: _, _ :: _, [], _, _, h, _ => by simp at h
theorem RoKeep.nils {H : VH K} : ∀ (ks : List K.Kd), RoKeep H (H ++ nilsOf ks) := fun ks m hm => by
  rcases Nat.lt_or_ge m H.length with h | h
  · refine ⟨h, ?_⟩
    simp [at_, List.getD_eq_getElem?_getD, List.getElem?_append_left h]
  · exfalso
    simp only [at_, List.getD_eq_getElem?_getD, List.getElem?_append_right h, nilsOf, List.getElem?_map] at hm
    cases hk : ks[m - H.length]? <;> rw [hk] at hm <;> simp [Atom.isRo] at hm
theorem Atom.ren_ro {g : Nat → Nat} {a : Atom K} : (a.ren g).isRo = a.isRo := by cases a <;> rfl
def evCall (ct : Ct K) (ks : List K.Kd) (τ : List Nat) (args : List VV) (H : VH K) (k : VV → VH K → Prop) : Prop :=
  ct.need ∧ guardP (nodupB τ) (Into 0 ks τ args H ct.args ct.pre) ∧ ∀ y, ct.ok y → k ((ct.ret y).ren (newName (H.length + ks.length) τ)) (frameH (H ++ nilsOf ks) τ (keepRo (H ++ nilsOf ks) τ ct.pre ((ct.post y).map (Atom.ren (newName (H.length + ks.length) τ)))))
theorem at_map {g : Nat → Nat} {l : VH K} {m : Nat} : at_ (l.map (Atom.ren g)) m = (at_ l m).ren g := by
  simp only [at_, List.getD_eq_getElem?_getD, List.getElem?_map]
  cases l[m]? <;> rfl
theorem Out.refl (S : Nat → Prop) (w : World) : Out S w w := ⟨rfl, rfl, rfl, Nat.le_refl _, fun _ _ _ => rfl⟩
theorem evCall_sound (hK : K.Ok) {f : FuncId} {ct : Ct K} {ks : List K.Kd} {τ : List Nat} {args : List VV} {k : VV → VH K → Prop} (hct : CtOk P f ct) (st : HeapOK S w0 r H w) (h : evCall ct ks τ args H k) {vals : List Value} (ha : Are r args vals) (hal : ∀ x ∈ args, x.lt H.length) :
    Calls P f vals.toArray w fun e w' => ∃ v', e = .returned v' ∧ After S w0 r H k v' w' := by
  obtain ⟨hneed, hinto, hk⟩ := h
  obtain ⟨hnd, hinto⟩ := guardP_iff.1 hinto
  obtain ⟨hg, hV, hH⟩ := guardP_iff.1 hinto
  simp only [Bool.and_eq_true, List.all_eq_true, Nat.blt_eq, Nat.ble_eq] at hg
  obtain ⟨hndl, hlt, hpre, hN0, hus, hatl⟩ := hg
  obtain ⟨r1, st1, hr1, hn1⟩ := HeapOK.nils ks st
  have hlen := EqH_len hH
  have hM : (H ++ nilsOf ks).length = H.length + ks.length := by simp [nilsOf]
  -- the callee's state
  have entry : ∃ rc : Nat → Ref, (∀ m, m < ct.pre.length → rc m = r1 (τ.getD m 0)) ∧ HeapOK S w0 rc ct.pre w ∧ (∀ m b, blkOf rc ct.pre m b → m < ct.pre.length ∧ blkOf r1 (H ++ nilsOf ks) (τ.getD m 0) b) ∧ Are rc ct.args vals := by
    by_cases hpos : 0 < H.length + ks.length
    · have hf : ∀ n, τ.getD n 0 < H.length + ks.length := fun n => by
        rcases Nat.lt_or_ge n τ.length with h' | h'
        · rw [List.getD_eq_getElem?_getD, List.getElem?_eq_getElem h', Option.getD_some]; exact hlt _ (List.getElem_mem h')
        · rw [List.getD_eq_getElem?_getD, List.getElem?_eq_none h']; exact hpos
      obtain ⟨st2, hb2⟩ := st1.sub hK hn1 hf hndl hH (by simpa using hatl)
      exact ⟨_, fun _ _ => rfl, st2, hb2, EqVs_sound hn1 hf hV (ha.congr hr1 hal)⟩
    · have hτ : τ = [] := by
        cases τ with
        | nil => rfl
        | cons x τ => have := hlt x (by simp); omega
      subst hτ
      have hp : ct.pre = [] := List.eq_nil_of_length_eq_zero (by simpa using hlen.symm)
      have hHn : H = [] := List.eq_nil_of_length_eq_zero (by omega)
      subst hHn
      have hus' : ∀ x ∈ ct.args, x.lt 0 := fun x hx => by have := VV.ltB_lt (hus x hx); rwa [hp] at this
      refine ⟨r, fun m hm => by rw [hp] at hm; simp at hm, ?_, fun m b hb => ?_, ?_⟩
      · rw [hp]; exact st
      · rw [hp] at hb; simp [blkOf, at_, Atom.has] at hb
      · have hne : Nils 0 1 (fun _ => nilRef 0) := fun n _ _ => ⟨rfl, rfl⟩
        have h1 := EqVs_sound (r := fun _ => nilRef 0) (M := 1) hne (fun n => by simp) hV (ha.congr (N := 0) (fun n hn => by omega) (by simpa using hal))
        exact h1.congr (N := 0) (fun n hn => by omega) hus'
  obtain ⟨rc, hrc, stc, hbc, hac⟩ := entry
  have stc' : HeapOK (Ours rc ct.pre) w rc ct.pre w := ⟨stc.ok, stc.lt, stc.inj, fun n b hb => .inl ⟨n, hb⟩, stc.ro, Out.refl _ w⟩
  refine (hct.calls hneed rc w vals stc' hac (fun x hx => VV.ltB_lt (hus x hx))).mono ?_
  rintro e w' ⟨v', rfl, r2, vv, H2, ⟨y, hy, rfl, rfl⟩, hvis, hvlt, hle, hr2, hrk, st2⟩
  refine ⟨v', rfl, ?_⟩
  have hk' := hk y hy
  generalize ct.post y = H2 at *
  generalize ct.ret y = vv at *
  let M := H.length + ks.length
  let g := newName M τ
  have hτle : τ.length ≤ H2.length := by omega
  let R : Nat → Ref := fun n => if n < M then r1 n else r2 (τ.length + (n - M))
  have g1 : ∀ m, m < τ.length → g m = τ.getD m 0 := fun m hm => by
    simp only [g, newName, List.getD_eq_getElem?_getD, List.getElem?_eq_getElem hm, Option.getD_some]
  have g2 : ∀ m, τ.length ≤ m → g m = M + (m - τ.length) := fun m hm => by
    simp only [g, newName, List.getElem?_eq_none hm]
  have mem : ∀ m, m < τ.length → τ.getD m 0 ∈ τ := fun m hm => by
    rw [List.getD_eq_getElem?_getD, List.getElem?_eq_getElem hm]; exact List.getElem_mem hm
  have gR : ∀ m, m < H2.length → R (g m) = r2 m := fun m hm => by
    rcases Nat.lt_or_ge m τ.length with h' | h'
    · rw [g1 m h']
      have := hlt _ (mem m h')
      simp only [R, M, this, if_true]
      rw [hr2 m (by omega), hrc m (by omega)]
    · rw [g2 m h']
      simp only [R]
      rw [if_neg (by omega)]
      congr 1; omega
  let L : VH K := keepRo (H ++ nilsOf ks) τ ct.pre (H2.map (Atom.ren g))
  have hLl : L.length = H2.length := by simp only [L]; rw [keepRo_len, List.length_map]
  have hsl : (setAll (H ++ nilsOf ks) τ L).length = M := by rw [setAll_len, hM]
  have h3l : (frameH (H ++ nilsOf ks) τ L).length = M + (H2.length - τ.length) := by
    rw [frameH, List.length_append, hsl, List.length_drop, hLl]
  have gl : ∀ m, m < H2.length → g m < (frameH (H ++ nilsOf ks) τ L).length := fun m hm => by
    rw [h3l]
    rcases Nat.lt_or_ge m τ.length with h' | h'
    · rw [g1 m h']; have := hlt _ (mem m h'); show _ < H.length + ks.length + _; omega
    · rw [g2 m h']; omega
  have atL : ∀ m, m < H2.length → at_ (frameH (H ++ nilsOf ks) τ L) (g m) = at_ L m := fun m hm => by
    rcases Nat.lt_or_ge m τ.length with h' | h'
    · have hlt' := hlt _ (mem m h')
      rw [g1 m h', ← setAll_at τ L (H ++ nilsOf ks) m hnd (fun n hn => by rw [hM]; exact hlt n hn) h' (by rw [hLl]; exact hm)]
      simp only [at_, frameH, List.getD_eq_getElem?_getD]
      rw [List.getElem?_append_left (by rw [hsl]; exact hlt')]
    · rw [g2 m h']
      simp only [at_, frameH, List.getD_eq_getElem?_getD]
      rw [List.getElem?_append_right (by rw [hsl]; omega), hsl, List.getElem?_drop]
      congr 2; omega
  have at3 : ∀ m, m < H2.length → (at_ ct.pre m).isRo = false → at_ (frameH (H ++ nilsOf ks) τ L) (g m) = (at_ H2 m).ren g := fun m hm hnr => by
    rw [atL m hm, ← at_map]; exact keepRo_no m hnr
  have old3 : ∀ n, n < M → n ∉ τ → at_ (frameH (H ++ nilsOf ks) τ L) n = at_ (H ++ nilsOf ks) n := fun n hn hnt => by
    rw [← setAll_other τ L (H ++ nilsOf ks) n hnt]
    simp only [at_, frameH, List.getD_eq_getElem?_getD]
    rw [List.getElem?_append_left (by rw [hsl]; exact hn)]
  have find : ∀ n, n < (frameH (H ++ nilsOf ks) τ L).length → ((∃ m, m < τ.length ∧ τ.getD m 0 = n ∧ (at_ ct.pre m).isRo = false) ∨ (H ++ nilsOf ks).length ≤ n) → ∃ m, m < H2.length ∧ n = g m ∧ (at_ ct.pre m).isRo = false := fun n hn hc => by
    rw [h3l] at hn
    rw [hM] at hc
    rcases hc with hc | hc
    · obtain ⟨m, hm, hmn, hnr⟩ := hc
      exact ⟨m, by omega, by rw [g1 m hm, hmn], hnr⟩
    · have hc' : M ≤ n := hc
      exact ⟨τ.length + (n - M), by omega, by rw [g2 _ (by omega)]; omega, by rw [at_ge (by omega)]; rfl⟩
  have blk3 : ∀ m, m < H2.length → (at_ ct.pre m).isRo = false → blkOf R (frameH (H ++ nilsOf ks) τ L) (g m) = blkOf r2 H2 m := fun m hm hnr => by
    rw [blkOf, at3 m hm hnr, Atom.ren_has, gR m hm]; rfl
  have inb : ∀ n b, blkOf R (frameH (H ++ nilsOf ks) τ L) n b → n < (frameH (H ++ nilsOf ks) τ L).length := fun n b hb =>
    at_lt fun e => by rw [blkOf, e] at hb; simp [Atom.has] at hb
  have hRK : RoKeep (H ++ nilsOf ks) (frameH (H ++ nilsOf ks) τ L) := fun n hn => by
    have hnl : n < (frameH (H ++ nilsOf ks) τ L).length := at_lt fun e => by rw [e] at hn; cases hn
    have hno : ∀ m, m < H2.length → n = g m → (at_ ct.pre m).isRo = false → False := fun m hm e hnr => by
      rw [e, at3 m hm hnr, Atom.ren_ro] at hn
      have := (hrk m hn).2
      rw [this, hnr] at hn; cases hn
    rcases Nat.lt_or_ge n M with h' | h'
    · refine ⟨by rw [hM]; exact h', ?_⟩
      by_cases ht : n ∈ τ
      · obtain ⟨m, hm, hmn⟩ := List.mem_iff_getElem.1 ht
        have hmn' : n = τ.getD m 0 := by rw [List.getD_eq_getElem?_getD, List.getElem?_eq_getElem hm, Option.getD_some, hmn]
        have hg : n = g m := by rw [g1 m hm, hmn']
        cases hp : (at_ ct.pre m).isRo with
        | false => exact (hno m (by omega) hg hp).elim
        | true =>
          have h1 : at_ L m = at_ (H ++ nilsOf ks) (τ.getD m 0) := keepRo_yes m hm (by rw [List.length_map]; omega) hp
          rw [hg, atL m (by omega), h1, ← hmn', ← hg]
      · exact old3 n h' ht
    · rw [h3l] at hnl
      exact (hno (τ.length + (n - M)) (by omega) (by rw [g2 _ (by omega)]; omega) (by rw [at_ge (by omega)]; rfl)).elim
  refine ⟨R, vv.ren g, frameH (H ++ nilsOf ks) τ L, hk', VV.ren_is gR hvlt hvis, VV.ren_lt gl hvlt, by rw [h3l]; show _ ≤ H.length + ks.length + _; omega, fun n hn => ?_, (RoKeep.nils ks).trans hRK, ?_⟩
  · simp only [R]; rw [if_pos (show n < H.length + ks.length by omega)]; exact hr1 n hn
  · refine st1.evolve (fun n => ∃ m, m < τ.length ∧ τ.getD m 0 = n ∧ (at_ ct.pre m).isRo = false) hRK (by rw [hM, h3l]; exact Nat.le_add_right _ _) (fun n hn => ?_) (fun n hn ht => ?_) st2.out.os st2.out.tape st2.out.output st2.out.size (fun b hb hne => ?_) (fun n hn hc => ?_) (fun n b hc hb => ?_) (fun n m b hne hc hc' hb hb' => ?_)
    · rw [hM] at hn; simp only [R]; exact if_pos hn
    · rw [hM] at hn
      by_cases hmem : n ∈ τ
      · obtain ⟨m, hm, hmn⟩ := List.mem_iff_getElem.1 hmem
        have hmn' : n = τ.getD m 0 := by rw [List.getD_eq_getElem?_getD, List.getElem?_eq_getElem hm, Option.getD_some, hmn]
        have hg : n = g m := by rw [g1 m hm, hmn']
        cases hp : (at_ ct.pre m).isRo with
        | false => exact absurd ⟨m, hm, hmn'.symm, hp⟩ ht
        | true =>
          have h1 : at_ L m = at_ (H ++ nilsOf ks) (τ.getD m 0) := keepRo_yes m hm (by rw [List.length_map]; omega) hp
          rw [hg, atL m (by omega), h1, ← hmn', ← hg]
      · exact old3 n hn hmem
    · refine st2.out.block b hb fun hs => ?_
      obtain ⟨m, hm⟩ := hs
      obtain ⟨h1, h2⟩ := hbc m b hm
      refine hne _ ⟨m, by omega, rfl, ?_⟩ h2
      cases hp : at_ ct.pre m <;> first | rfl | (rw [blkOf, hp] at hm; cases hm)
    · obtain ⟨m, hm, rfl, hnr⟩ := find n hn hc
      rw [at3 m hm hnr, gR m hm]
      exact ⟨Atom.ren_ok gR (st2.lt m) (st2.ok m), Atom.ren_lt gl (st2.lt m)⟩
    · obtain ⟨m, hm, rfl, hnr⟩ := find n (inb n b hb) hc
      rw [blk3 m hm hnr] at hb
      rcases st2.own m b hb with ⟨q, hq⟩ | hge
      · obtain ⟨h1, h2⟩ := hbc q b hq
        refine .inl ⟨_, ⟨q, by omega, rfl, ?_⟩, h2⟩
        cases hp : at_ ct.pre q <;> first | rfl | (rw [blkOf, hp] at hq; cases hq)
      · exact .inr hge
    · obtain ⟨p, hp, rfl, hnp⟩ := find n (inb n b hb) hc
      obtain ⟨q, hq, rfl, hnq⟩ := find m (inb m b hb') hc'
      rw [blk3 p hp hnp] at hb
      rw [blk3 q hq hnq] at hb'
      exact st2.inj p q b (fun e => hne (by rw [e])) hb hb'
end Go.Proofs.YtndlpbheifalhaaGreatDoor.E
