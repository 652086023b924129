/- One state by names seen as another: names told anew, what isn't needed left out. -/
import Derived.Test.YtndlpbheifalhaaGreatDoorE6
namespace Go.Proofs.YtndlpbheifalhaaGreatDoor.E
set_option linter.unusedVariables false
set_option linter.unusedSimpArgs false
variable {K : Kinds} {P : Program} {S : Nat → Prop} {w0 w : World} {r : Nat → Ref} {H : VH K}
/-- 'c', in a state whose lists from name N on are nil, is c' told by other names. -/
def EqC (N : Nat) (f : Nat → Nat) : C → C → Prop
  | .bool a, .bool b => a = b
  | .int k a, .int k' b => guardP (decide (k = k')) (a = b)
  | .str a, .str b => a = b
  | .ptr n i j, .ptr n' i' j' => guardP (n == f n' && j == j') (i = i')
  | .nilp, .nilp => True
  | .nils, .nils => True
  | .nils, .slc n' lo len cap => guardP (Nat.ble N (f n') && cap.isNone) (lo = 0 ∧ len = 0)
  | .slc n lo len cap, .slc n' lo' len' cap' => guardP (n == f n') (lo = lo' ∧ len = len' ∧ cap = cap')
  | .lit v, .lit v' => v = v'
  | .rs e sz x, .rs e' sz' x' => guardP (e == e' && sz == sz') (x = x')
  | .nils, .rs _ _ x' => x' = .nil
  | .rp e sz b i j, .rp e' sz' b' i' j' => guardP (e == e' && (sz == sz' && j == j')) (b = b' ∧ i = i')
  | .fn g l, .fn g' l' => guardP (g == g') (l = l')
  | _, _ => False
def EqCs (N : Nat) (f : Nat → Nat) : List C → List C → Prop
  | [], [] => True
  | c :: cs, d :: ds => EqC N f c d ∧ EqCs N f cs ds
  | _, _ => False
def EqV1 (N : Nat) (f : Nat → Nat) : V1 → V1 → Prop
  | .c x, .c y => EqC N f x y
  | .agg l, .agg l' => EqCs N f l l'
  | _, _ => False
def EqV1s (N : Nat) (f : Nat → Nat) : List V1 → List V1 → Prop
  | [], [] => True
  | c :: cs, d :: ds => EqV1 N f c d ∧ EqV1s N f cs ds
  | _, _ => False
def EqV (N : Nat) (f : Nat → Nat) : VV → VV → Prop
  | .one x, .one y => EqV1 N f x y
  | .tup l, .tup l' => EqV1s N f l l'
  | _, _ => False
def EqVs (N : Nat) (f : Nat → Nat) : List VV → List VV → Prop
  | [], [] => True
  | _ :: vs, .any :: us => EqVs N f vs us
  | v :: vs, u :: us => EqV N f v u ∧ EqVs N f vs us
  | _, _ => False
def EqA (N : Nat) (f : Nat → Nat) : Atom K → Atom K → Prop
  | _, .gone => True
  | .cells T cs, .cells T' cs' => guardP (T == T') (EqCs N f cs cs')
  | .arr k xs, .arr k' xs' => match K.deq k k' with
    | .isTrue e => castK K e xs = xs'
    | .isFalse _ => False
  | .arr k xs, .ro k' xs' => match K.deq k k' with
    | .isTrue e => castK K e xs = xs'
    | .isFalse _ => False
  | .ro k xs, .ro k' xs' => match K.deq k k' with
    | .isTrue e => castK K e xs = xs'
    | .isFalse _ => False
  | .bag φ, .bag φ' => φ = φ'
  | _, _ => False
def EqH (N : Nat) (f : Nat → Nat) (H1 : VH K) : List Nat → VH K → Prop
  | [], [] => True
  | n :: τ, a :: H' => EqA N f (at_ H1 n) a ∧ EqH N f H1 τ H'
  | _, _ => False
def nmB (N : Nat) (c : C) : Bool := match c with
  | .ptr n _ _ => Nat.blt n N
  | .slc n _ _ _ => Nat.blt n N
  | _ => true
theorem nmB_lt {N : Nat} {c : C} (h : nmB N c = true) : c.lt N := by
  intro n hn
  cases c <;> simp_all [C.nm, nmB, Nat.blt_eq]
def V1.ltB (N : Nat) : V1 → Bool
  | .c x => nmB N x
  | .agg l => l.all (nmB N)
def VV.ltB (N : Nat) : VV → Bool
  | .one x => x.ltB N
  | .tup l => l.all (V1.ltB N)
  | .any => true
theorem V1.ltB_lt {N : Nat} {x : V1} (h : x.ltB N = true) : x.lt N := by
  cases x with
  | c x => exact nmB_lt h
  | agg l => exact fun c hc => nmB_lt (List.all_eq_true.1 h c hc)
theorem VV.ltB_lt {N : Nat} {x : VV} (h : x.ltB N = true) : x.lt N := by
  cases x with
  | one x => exact V1.ltB_lt h
  | tup l => exact fun c hc => V1.ltB_lt (List.all_eq_true.1 h c hc)
  | any => trivial
def Atom.ltB (N : Nat) : Atom K → Bool
  | .cells _ cs => cs.all fun c => nmB N c && c.one
  | _ => true
theorem Atom.ltB_lt {N : Nat} {a : Atom K} (h : a.ltB N = true) : a.lt N := by
  cases a with
  | cells T cs => exact fun c hc => by have := List.all_eq_true.1 h c hc; simp only [Bool.and_eq_true] at this; exact ⟨nmB_lt this.1, this.2⟩
  | _ => trivial
/-! ### what matching says -/
def nilRef (size : Nat) : Ref := ⟨0, size, 0, true, 0⟩
/-- The names from N on stand for nil lists. -/
def Nils (N M : Nat) (r : Nat → Ref) : Prop := ∀ n, N ≤ n → n < M → (r n).nl = true ∧ (r n).cap = 0
theorem EqC_sound {N M : Nat} {f : Nat → Nat} (hn : Nils N M r) (hf : ∀ n, f n < M) {c d : C} {v : Value} (h : EqC N f c d) (hc : c.is r v) : d.is (fun n => r (f n)) v := by
  unfold EqC at h
  split at h
  · subst h; exact hc
  · obtain ⟨hg, h'⟩ := guardP_iff.1 h
    clear h
    have := of_decide_eq_true hg
    subst this h'; exact hc
  · subst h; exact hc
  · obtain ⟨hg, h'⟩ := guardP_iff.1 h
    clear h
    simp only [Bool.and_eq_true, beq_iff_eq] at hg
    obtain ⟨rfl, rfl⟩ := hg
    subst h'; exact hc
  · exact hc
  · exact hc
  · obtain ⟨hg, hlo, hlen⟩ := guardP_iff.1 h
    simp only [Bool.and_eq_true, Nat.ble_eq, Option.isNone_iff_eq_none] at hg
    obtain ⟨hN, rfl⟩ := hg
    subst hlo hlen
    obtain ⟨h1, h2⟩ := hn _ hN (hf _)
    simp only [C.is, C.plain] at hc
    subst hc
    exact ⟨none, by simp [h2], .inr (by simp [h1])⟩
  · obtain ⟨hg, hlo, hlen, hcap⟩ := guardP_iff.1 h
    simp only [beq_iff_eq] at hg
    subst hg hlo hlen hcap
    exact hc
  · subst h; exact hc
  · obtain ⟨hg, h'⟩ := guardP_iff.1 h
    simp only [Bool.and_eq_true, beq_iff_eq] at hg
    obtain ⟨rfl, rfl⟩ := hg
    subst h'; exact hc
  · subst h; exact hc
  · obtain ⟨hg, h1, h2⟩ := guardP_iff.1 h
    simp only [Bool.and_eq_true, beq_iff_eq] at hg
    obtain ⟨rfl, rfl, rfl⟩ := hg
    subst h1 h2; exact hc
  · obtain ⟨hg, h1⟩ := guardP_iff.1 h
    simp only [beq_iff_eq] at hg
    subst hg h1; exact hc
  · exact h.elim
theorem EqCs_sound {N M : Nat} {f : Nat → Nat} (hn : Nils N M r) (hf : ∀ n, f n < M) : ∀ {cs ds : List C} {vs : List Value}, EqCs N f cs ds → Rel r cs vs → Rel (fun n => r (f n)) ds vs
  | [], [], [], _, _ => trivial
  | c :: cs, d :: ds, v :: vs, h, hr => ⟨EqC_sound hn hf h.1 hr.1, EqCs_sound hn hf h.2 hr.2⟩
  | [], [], _ :: _, _, h => h.elim
  | _ :: _, [], _, h, _ => h.elim
  | [], _ :: _, _, h, _ => h.elim
  | _ :: _, _ :: _, [], _, h => h.elim
theorem EqV1_sound {N M : Nat} {f : Nat → Nat} (hn : Nils N M r) (hf : ∀ n, f n < M) {x y : V1} {v : Value} (h : EqV1 N f x y) (hx : x.is r v) : y.is (fun n => r (f n)) v := by
  unfold EqV1 at h
  split at h
  · exact EqC_sound hn hf h hx
  · obtain ⟨vs, e, hr⟩ := hx; exact ⟨vs, e, EqCs_sound hn hf h hr⟩
  · exact h.elim
theorem EqV1s_sound {N M : Nat} {f : Nat → Nat} (hn : Nils N M r) (hf : ∀ n, f n < M) : ∀ {cs ds : List V1} {vs : List Value}, EqV1s N f cs ds → RelV r cs vs → RelV (fun n => r (f n)) ds vs
  | [], [], [], _, _ => trivial
  | c :: cs, d :: ds, v :: vs, h, hr => ⟨EqV1_sound hn hf h.1 hr.1, EqV1s_sound hn hf h.2 hr.2⟩
  | [], [], _ :: _, _, h => h.elim
  | _ :: _, [], _, h, _ => h.elim
  | [], _ :: _, _, h, _ => h.elim
  | _ :: _, _ :: _, [], _, h => h.elim
theorem EqV_sound {N M : Nat} {f : Nat → Nat} (hn : Nils N M r) (hf : ∀ n, f n < M) {x y : VV} {v : Value} (h : EqV N f x y) (hx : x.is r v) : y.is (fun n => r (f n)) v := by
  unfold EqV at h
  split at h
  · exact EqV1_sound hn hf h hx
  · obtain ⟨vs, e, hr⟩ := hx; exact ⟨vs, e, EqV1s_sound hn hf h hr⟩
  · exact h.elim
/-- Values stand for values, in order. -/
def Are (r : Nat → Ref) : List VV → List Value → Prop
  | [], [] => True
  | x :: xs, v :: vs => x.is r v ∧ Are r xs vs
  | _, _ => False
theorem Are.length {r : Nat → Ref} : ∀ {xs : List VV} {vs : List Value}, Are r xs vs → vs.length = xs.length
  | [], [], _ => rfl
  | c :: cs, v :: vs, h => by simp [Are.length h.2]
  | [], _ :: _, h => h.elim
  | _ :: _, [], h => h.elim
theorem Are.get {r : Nat → Ref} : ∀ {xs : List VV} {vs : List Value}, Are r xs vs → ∀ i, (xs.getD i .any).is r (vs.getD i undef)
  | [], [], _, i => by simp [VV.is]
  | x :: xs, v :: vs, h, 0 => by simpa using h.1
  | x :: xs, v :: vs, h, i + 1 => by simpa using Are.get h.2 i
  | [], _ :: _, h, _ => h.elim
  | _ :: _, [], h, _ => h.elim
theorem Are.of_get {r : Nat → Ref} : ∀ {xs : List VV} {vs : List Value}, vs.length = xs.length → (∀ i, i < xs.length → (xs.getD i .any).is r (vs.getD i undef)) → Are r xs vs
  | [], [], _, _ => trivial
  | x :: xs, v :: vs, hl, h => ⟨by simpa using h 0 (by simp), Are.of_get (by simpa using hl) fun i hi => by simpa using h (i + 1) (by simpa using hi)⟩
  | [], _ :: _, hl, _ => by simp at hl
  | _ :: _, [], hl, _ => by simp at hl
theorem Are.congr {r r' : Nat → Ref} {N : Nat} (h : ∀ n, n < N → r' n = r n) : ∀ {xs : List VV} {vs : List Value}, (∀ x ∈ xs, x.lt N) → Are r xs vs → Are r' xs vs
  | [], [], _, _ => trivial
  | c :: cs, v :: vs, hl, hr => ⟨VV.is_congr (hl c (by simp)) h hr.1, Are.congr h (fun c hc => hl c (by simp [hc])) hr.2⟩
  | [], _ :: _, _, h => h.elim
  | _ :: _, [], _, h => h.elim
theorem EqVs_sound {N M : Nat} {f : Nat → Nat} (hn : Nils N M r) (hf : ∀ n, f n < M) : ∀ {xs ys : List VV} {vs : List Value}, EqVs N f xs ys → Are r xs vs → Are (fun n => r (f n)) ys vs
  | [], [], [], _, _ => trivial
  | x :: xs, y :: ys, v :: vs, h, hr => by
    cases y with
    | any => exact ⟨trivial, EqVs_sound hn hf (by simpa [EqVs] using h) hr.2⟩
    | one y => simp only [EqVs] at h; exact ⟨EqV_sound hn hf h.1 hr.1, EqVs_sound hn hf h.2 hr.2⟩
    | tup y => simp only [EqVs] at h; exact ⟨EqV_sound hn hf h.1 hr.1, EqVs_sound hn hf h.2 hr.2⟩
  | [], [], _ :: _, _, h => h.elim
  | x :: xs, [], _, h, _ => by simp [EqVs] at h
  | [], y :: ys, _, h, _ => by cases y <;> simp [EqVs] at h
  | _ :: _, _ :: _, [], _, h => h.elim
theorem EqA_sound (hK : K.Ok) {N M : Nat} {f : Nat → Nat} (hn : Nils N M r) (hf : ∀ n, f n < M) {a b : Atom K} {x : Ref} (h : EqA N f a b) (ha : a.ok r x w) : b.ok (fun n => r (f n)) x w ∧ (∀ c, b.has x c → a.has x c) ∧ (∀ c, b.rb x = some c → (∀ d, ¬ b.has x d) ∧ (a.has x c ∨ a.rb x = some c)) := by
  unfold EqA at h
  split at h
  · exact ⟨trivial, fun c hc => hc.elim, fun c hc => by simp [Atom.rb] at hc⟩
  · obtain ⟨hg, h'⟩ := guardP_iff.1 h
    clear h
    simp only [beq_iff_eq] at hg
    subst hg
    obtain ⟨hn', vs, hv, hr⟩ := ha
    exact ⟨⟨hn', vs, hv, EqCs_sound hn hf h' hr⟩, fun c hc => hc, fun c hc => by simp [Atom.rb] at hc⟩
  · split at h
    · rename_i e _
      subst e
      simp only [castK_rfl] at h
      subst h
      exact ⟨ha, fun c hc => hc, fun c hc => by simp [Atom.rb] at hc⟩
    · exact h.elim
  · split at h
    · rename_i k xs _ _ _ e _
      subst e
      simp only [castK_rfl] at h
      subst h
      obtain ⟨h1, h2, h3, h4⟩ := lst_ok hK (a := .arr k xs) rfl ha
      refine ⟨⟨h1, h2, ha.2.1, fun hne => ⟨?_, h4 (List.length_pos_iff.2 hne)⟩⟩, fun c hc => hc.elim, fun c hc => ⟨fun d hd => hd.elim, .inl ?_⟩⟩
      · have hnl := h3 (List.length_pos_iff.2 hne)
        exact (World.ownsRow.lt ha.2.2 x.blk (by simp [Ref.val, hnl, Value.ownBlock])).2
      · cases xs with
        | nil => simp [Atom.rb] at hc
        | cons y ys => have hnl := h3 (by simp); simp only [Atom.rb, Option.some.injEq] at hc; exact ⟨hnl, hc⟩
    · exact h.elim
  · split at h
    · rename_i e _
      subst e
      simp only [castK_rfl] at h
      subst h
      exact ⟨ha, fun c hc => hc.elim, fun c hc => ⟨fun d hd => hd.elim, .inr hc⟩⟩
    · exact h.elim
  · subst h; exact ⟨ha, fun c hc => hc, fun c hc => by simp [Atom.rb] at hc⟩
  · exact h.elim
theorem EqH_get {N : Nat} {f : Nat → Nat} {H1 : VH K} : ∀ {τ : List Nat} {H' : VH K}, EqH N f H1 τ H' → ∀ m, m < H'.length → EqA N f (at_ H1 (τ.getD m 0)) (at_ H' m)
  | n :: τ, a :: H', h, 0, _ => by simpa [at_] using h.1
  | n :: τ, a :: H', h, m + 1, hm => by simpa [at_] using EqH_get h.2 m (by simpa using hm)
  | [], [], _, m, hm => by simp at hm
  | [], _ :: _, h, _, _ => h.elim
  | _ :: _, [], _, _, hm => by simp at hm
theorem EqH_len {N : Nat} {f : Nat → Nat} {H1 : VH K} : ∀ {τ : List Nat} {H' : VH K}, EqH N f H1 τ H' → τ.length = H'.length
  | n :: τ, a :: H', h => by simp [EqH_len h.2]
  | [], [], _ => rfl
  | [], _ :: _, h => h.elim
  | _ :: _, [], h => h.elim
/-- Nil lists under new names. -/
def nilsOf (ks : List K.Kd) : VH K := ks.map fun k => .arr k []
theorem HeapOK.nils : ∀ (ks : List K.Kd) {r : Nat → Ref} {H : VH K} (st : HeapOK S w0 r H w), ∃ r1, HeapOK S w0 r1 (H ++ nilsOf ks) w ∧ (∀ n, n < H.length → r1 n = r n) ∧ Nils H.length (H.length + ks.length) r1
  | [], r, H, st => ⟨r, by simpa [nilsOf] using st, fun _ _ => rfl, fun n h1 h2 => by simp at h2; omega⟩
  | k :: ks, r, H, st => by
    have ho : w.ownsRow 0 (K.elem k) (K.size k) (.slice none 0 0) ([] : List (K.α k)).length ((flat k []).map C.plain) := World.ownsRow_nil w 0 _ _
    obtain ⟨x, hx, hsz, st2⟩ := st.owned none (row := none) ⟨rfl, rfl, rfl, Nat.le_refl _, fun _ _ _ => rfl⟩ (fun b hb => by cases hb) ho (fun b hb => by simp [Value.ownBlock] at hb)
    have hnl : x.nl = true ∧ x.cap = 0 := by
      simp only [Ref.val, Value.slice.injEq] at hx
      cases hn : x.nl with
      | true => exact ⟨rfl, hx.2.2.symm⟩
      | false => simp [hn] at hx
    obtain ⟨r1, st1, hr1, hn1⟩ := HeapOK.nils ks st2
    have hl : (kill H none ++ [Atom.arr k ([] : List (K.α k))]).length = H.length + 1 := by simp [kill]
    refine ⟨r1, by simpa [nilsOf, kill, List.append_assoc] using st1, fun n hn => ?_, fun n h1 h2 => ?_⟩
    · rw [hr1 n (by omega), upd_old hn]
    · by_cases e : n = H.length
      · subst e
        rw [hr1 _ (by omega), upd_new]; exact hnl
      · exact hn1 n (by omega) (by simp at h2; omega)
def nodupB : List Nat → Bool
  | [] => true
  | x :: xs => !(xs.contains x) && nodupB xs
theorem nodupB_inj : ∀ {τ : List Nat}, nodupB τ = true → ∀ i j, i < τ.length → j < τ.length → τ.getD i 0 = τ.getD j 0 → i = j
  | x :: xs, h, i, j, hi, hj, e => by
    simp only [nodupB, Bool.and_eq_true, Bool.not_eq_true', List.contains_eq_mem, decide_eq_false_iff_not] at h
    have mem : ∀ q, q < xs.length → xs.getD q 0 ∈ xs := fun q hq => by
      rw [List.getD_eq_getElem?_getD, List.getElem?_eq_getElem hq]; exact List.getElem_mem hq
    match i, j with
    | 0, 0 => rfl
    | 0, j + 1 =>
      simp only [List.getD_cons_zero, List.getD_cons_succ] at e
      exact absurd (e ▸ mem j (by simpa using hj)) h.1
    | i + 1, 0 =>
      simp only [List.getD_cons_zero, List.getD_cons_succ] at e
      exact absurd (e ▸ mem i (by simpa using hi)) h.1
    | i + 1, j + 1 =>
      simp only [List.getD_cons_succ] at e
      rw [nodupB_inj h.2 i j (by simpa using hi) (by simpa using hj) e]
  | [], _, i, _, hi, _, _ => by simp at hi
def prefB (N0 : Nat) (τ : List Nat) : Bool := τ.take N0 == List.range N0
/-- The names of what isn't gone. -/
def live : List Nat → VH K → List Nat
  | _ :: τ, .gone :: H => live τ H
  | n :: τ, _ :: H => n :: live τ H
  | _, _ => []
theorem live_mem : ∀ {τ : List Nat} {H : VH K} (i : Nat), i < τ.length → at_ H i ≠ .gone → τ.getD i 0 ∈ live τ H
  | n :: τ, a :: H, 0, _, h => by
    cases a <;> first | exact absurd rfl h | simp [live]
  | n :: τ, a :: H, i + 1, hi, h => by
    have ih := live_mem (τ := τ) (H := H) i (by simpa using hi) (by simpa [at_] using h)
    cases a <;> simp only [live, List.getD_cons_succ] <;> first | exact ih | exact List.mem_cons_of_mem _ ih
  | n :: τ, [], i, _, h => absurd (by simp [at_]) h
  | [], _, i, hi, _ => by simp at hi
theorem live_inj : ∀ {τ : List Nat} {H : VH K}, nodupB (live τ H) = true → ∀ i j, i < τ.length → j < τ.length → at_ H i ≠ .gone → at_ H j ≠ .gone → τ.getD i 0 = τ.getD j 0 → i = j
  | n :: τ, a :: H, h, i, j, hi, hj, gi, gj, e => by
    have hd : a ≠ .gone → (n ∉ live τ H) ∧ nodupB (live τ H) = true := fun ha => by
      have h' : nodupB (n :: live τ H) = true := by cases a <;> first | exact absurd rfl ha | exact h
      simp only [nodupB, Bool.and_eq_true, Bool.not_eq_true', List.contains_eq_mem, decide_eq_false_iff_not] at h'
      exact h'
    have tl : nodupB (live τ H) = true := by
      by_cases ha : a = .gone
      · subst ha; exact h
      · exact (hd ha).2
    match i, j with
    | 0, 0 => rfl
    | 0, j + 1 =>
      have ha : a ≠ .gone := by simpa [at_] using gi
      simp only [List.getD_cons_zero, List.getD_cons_succ] at e
      exact absurd (e ▸ live_mem j (by simpa using hj) (by simpa [at_] using gj)) (hd ha).1
    | i + 1, 0 =>
      have ha : a ≠ .gone := by simpa [at_] using gj
      simp only [List.getD_cons_zero, List.getD_cons_succ] at e
      exact absurd (e ▸ live_mem i (by simpa using hi) (by simpa [at_] using gi)) (hd ha).1
    | i + 1, j + 1 =>
      simp only [List.getD_cons_succ] at e
      rw [live_inj tl i j (by simpa using hi) (by simpa using hj) (by simpa [at_] using gi) (by simpa [at_] using gj) e]
  | n :: τ, [], _, i, j, _, _, gi, _, _ => absurd (by simp [at_]) gi
  | [], _, _, i, _, hi, _, _, _, _ => by simp at hi
/-- The state (vs, H) seen as (us, H'). -/
def Into (N0 : Nat) (ks : List K.Kd) (τ : List Nat) (vs : List VV) (H : VH K) (us : List VV) (H' : VH K) : Prop :=
  guardP (nodupB (live τ H') && (τ.all (fun n => Nat.blt n (H.length + ks.length)) && (prefB N0 τ && (Nat.ble N0 H'.length && (us.all (VV.ltB H'.length) && (H'.all (Atom.ltB H'.length)))))))
    (EqVs H.length (fun n => τ.getD n 0) vs us ∧ EqH H.length (fun n => τ.getD n 0) (H ++ nilsOf ks) τ H')
theorem HeapOK.sub (hK : K.Ok) {τ : List Nat} {H1 H' : VH K} {N M : Nat} (st : HeapOK S w0 r H1 w) (hn : Nils N M r) (hf : ∀ n, τ.getD n 0 < M) (hnd : nodupB (live τ H') = true) (h : EqH N (fun n => τ.getD n 0) H1 τ H') (hl : H'.all (Atom.ltB H'.length) = true) :
    HeapOK S w0 (fun n => r (τ.getD n 0)) H' w ∧ ∀ m b, blkOf (fun n => r (τ.getD n 0)) H' m b → m < H'.length ∧ blkOf r H1 (τ.getD m 0) b := by
  have hlen := EqH_len h
  have key : ∀ m, m < H'.length → (at_ H' m).ok (fun n => r (τ.getD n 0)) (r (τ.getD m 0)) w ∧ (∀ c, (at_ H' m).has (r (τ.getD m 0)) c → (at_ H1 (τ.getD m 0)).has (r (τ.getD m 0)) c) ∧
      (∀ c, (at_ H' m).rb (r (τ.getD m 0)) = some c → (∀ d, ¬ (at_ H' m).has (r (τ.getD m 0)) d) ∧ ((at_ H1 (τ.getD m 0)).has (r (τ.getD m 0)) c ∨ (at_ H1 (τ.getD m 0)).rb (r (τ.getD m 0)) = some c)) :=
    fun m hm => EqA_sound hK hn hf (EqH_get h m hm) (st.ok _)
  have blk : ∀ m b, blkOf (fun n => r (τ.getD n 0)) H' m b → m < H'.length ∧ blkOf r H1 (τ.getD m 0) b := fun m b hb => by
    have hm : m < H'.length := at_lt fun e => by rw [blkOf, e] at hb; simp [Atom.has] at hb
    exact ⟨hm, (key m hm).2.1 b hb⟩
  refine ⟨⟨fun n => ?_, fun n => ?_, fun n m b hne hb hb' => ?_, fun n b hb => st.own _ b (blk n b hb).2, fun n m b hn hm => ?_, st.out⟩, blk⟩
  · rcases Nat.lt_or_ge n H'.length with h' | h'
    · exact (key n h').1
    · rw [at_ge h']; trivial
  · rcases Nat.lt_or_ge n H'.length with h' | h'
    · have : at_ H' n ∈ H' := by
        simp only [at_, List.getD_eq_getElem?_getD, List.getElem?_eq_getElem h', Option.getD_some]; exact List.getElem_mem h'
      exact Atom.ltB_lt (List.all_eq_true.1 hl _ this)
    · rw [at_ge h']; trivial
  · obtain ⟨h1, h1'⟩ := blk n b hb
    obtain ⟨h2, h2'⟩ := blk m b hb'
    refine st.inj _ _ b (fun e => hne ?_) h1' h2'
    have gn : at_ H' n ≠ .gone := fun e => by rw [blkOf, e] at hb; exact hb.elim
    have gm : at_ H' m ≠ .gone := fun e => by rw [blkOf, e] at hb'; exact hb'.elim
    exact live_inj hnd n m (by omega) (by omega) gn gm e
  · have hnlt : n < H'.length := at_lt fun e => by rw [rbOf, e] at hn; simp [Atom.rb] at hn
    obtain ⟨hnb, hor⟩ := (key n hnlt).2.2 b hn
    obtain ⟨hm1, hm2⟩ := blk m b hm
    rcases hor with h1 | h1
    · have hne : n ≠ m := fun e => by
        subst e
        exact hnb b hm
      have gn : at_ H' n ≠ .gone := fun e => by rw [rbOf, e] at hn; simp [Atom.rb] at hn
      have gm : at_ H' m ≠ .gone := fun e => by rw [blkOf, e] at hm; exact hm.elim
      exact st.inj (τ.getD n 0) (τ.getD m 0) b (fun e => hne (live_inj hnd n m (by omega) (by omega) gn gm e)) h1 hm2
    · exact st.ro (τ.getD n 0) (τ.getD m 0) b h1 hm2
theorem Into_sound (hK : K.Ok) {N0 : Nat} {ks : List K.Kd} {τ : List Nat} {vs us : List VV} {H' : VH K} {vals : List Value} (st : HeapOK S w0 r H w) (hv : Are r vs vals) (hvl : ∀ x ∈ vs, x.lt H.length) (h : Into N0 ks τ vs H us H') :
    ∃ r', HeapOK S w0 r' H' w ∧ N0 ≤ H'.length ∧ (∀ n, n < N0 → n < H.length → r' n = r n) ∧ Are r' us vals ∧ ∀ x ∈ us, x.lt H'.length := by
  obtain ⟨hg, hV, hH⟩ := guardP_iff.1 h
  simp only [Bool.and_eq_true, List.all_eq_true, Nat.blt_eq, Nat.ble_eq] at hg
  obtain ⟨hnd, hlt, hpre, hN0, hus, hal⟩ := hg
  obtain ⟨r1, st1, hr1, hn1⟩ := HeapOK.nils ks st
  have hlen := EqH_len hH
  by_cases hpos : 0 < H.length + ks.length
  · have hf : ∀ n, τ.getD n 0 < H.length + ks.length := fun n => by
      rcases Nat.lt_or_ge n τ.length with h' | h'
      · rw [List.getD_eq_getElem?_getD, List.getElem?_eq_getElem h', Option.getD_some]; exact hlt _ (List.getElem_mem h')
      · rw [List.getD_eq_getElem?_getD, List.getElem?_eq_none h']; exact hpos
    obtain ⟨st2, _⟩ := st1.sub hK hn1 hf hnd hH (by simpa using hal)
    refine ⟨_, st2, hN0, fun n hn hnH => ?_, EqVs_sound hn1 hf hV (hv.congr hr1 hvl), fun x hx => VV.ltB_lt (hus x hx)⟩
    have hp : τ.take N0 = List.range N0 := by simpa [prefB] using hpre
    have : τ.getD n 0 = n := by
      have h1 : (τ.take N0)[n]? = some n := by rw [hp]; simp [hn]
      rw [List.getElem?_take, if_pos hn] at h1
      rw [List.getD_eq_getElem?_getD, h1]; rfl
    simp only [this]
    exact hr1 n hnH
  · have hτ : τ = [] := by
      cases τ with
      | nil => rfl
      | cons x τ => have := hlt x (by simp); omega
    subst hτ
    have hH' : H' = [] := List.eq_nil_of_length_eq_zero (by simpa using hlen.symm)
    subst hH'
    have hks : ks = [] := List.eq_nil_of_length_eq_zero (by omega)
    have hHn : H = [] := List.eq_nil_of_length_eq_zero (by omega)
    subst hks hHn
    refine ⟨r, st, hN0, fun _ _ _ => rfl, ?_, fun x hx => VV.ltB_lt (hus x hx)⟩
    have hne : Nils 0 1 (fun _ => nilRef 0) := fun n _ _ => ⟨rfl, rfl⟩
    have h1 := EqVs_sound (r := fun _ => nilRef 0) (M := 1) hne (fun n => by simp) hV (hv.congr (N := 0) (fun n hn => by omega) (by simpa using hvl))
    exact h1.congr (N := 0) (fun n hn => by omega) (fun x hx => VV.ltB_lt (hus x hx))
end Go.Proofs.YtndlpbheifalhaaGreatDoor.E
