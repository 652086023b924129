/- How a state by names is read, written, and grows: the laws of one step, with no operation of the program in sight. -/
import Derived.Test.YtndlpbheifalhaaGreatDoorE0
namespace Go.Proofs.YtndlpbheifalhaaGreatDoor.E
set_option linter.unusedVariables false
set_option linter.unusedSimpArgs false
variable {K : Kinds}
/-- 'b', or there is nothing to show. -/
def guardP (b : Bool) (X : Prop) : Prop := match b with | true => X | false => False
theorem guardP_iff {b : Bool} {X : Prop} : guardP b X ↔ b = true ∧ X := by cases b <;> simp [guardP]
def ite2 (b : Bool) (T F : Prop) : Prop := match b with | true => T | false => F
theorem ite2_of {b : Bool} {T F : Prop} (h : ite2 b T F) : (b = true ∧ T) ∨ (b = false ∧ F) := by cases b <;> simp_all [ite2]
theorem ite2_mk {b : Bool} {T F : Prop} (h : b = true → T) (k : b = false → F) : ite2 b T F := by
  cases b with
  | true => exact h rfl
  | false => exact k rfl
theorem ite2_decide {p : Prop} [Decidable p] {T F : Prop} (h : p → T) (k : ¬ p → F) : ite2 (decide p) T F := by
  by_cases hp : p
  · simp only [hp, decide_true, ite2]; exact h hp
  · simp only [hp, decide_false, ite2]; exact k hp
theorem flat_length (hK : K.Ok) (k : K.Kd) : ∀ xs : List (K.α k), (flat k xs).length = xs.length * K.size k
  | [] => by simp [flat]
  | x :: xs => by have := flat_length hK k xs; simp only [flat, List.flatMap_cons, List.length_append, List.length_cons, hK.len] at this ⊢; rw [this, Nat.add_mul]; omega
theorem flat_append (k : K.Kd) (xs ys : List (K.α k)) : flat k (xs ++ ys) = flat k xs ++ flat k ys := by simp [flat]
theorem flat_one (hK : K.Ok) (k : K.Kd) (xs : List (K.α k)) : ∀ c ∈ flat k xs, c.one = true := by
  intro c hc
  obtain ⟨x, _, hx⟩ := List.mem_flatMap.1 hc
  exact hK.one k x c hx
theorem flat_nm (hK : K.Ok) (k : K.Kd) (xs : List (K.α k)) : ∀ c ∈ flat k xs, c.nm = none := by
  intro c hc
  obtain ⟨x, _, hx⟩ := List.mem_flatMap.1 hc
  exact hK.nm k x c hx
theorem flat_at (hK : K.Ok) (k : K.Kd) (d : K.α k) : ∀ (xs : List (K.α k)) (i l : Nat), i < xs.length → l < K.size k → (flat k xs)[i * K.size k + l]? = (K.enc k (xs.getD i d))[l]?
  | x :: xs, 0, l, _, hl => by simp only [flat, List.flatMap_cons, Nat.zero_mul, Nat.zero_add, List.getD_cons_zero]; rw [List.getElem?_append_left (by rw [hK.len]; exact hl)]
  | x :: xs, i + 1, l, hi, hl => by
    have ih := flat_at hK k d xs i l (by simpa using hi) hl
    simp only [flat, List.flatMap_cons, List.getD_cons_succ] at ih ⊢
    rw [List.getElem?_append_right (by rw [hK.len]; rw [Nat.add_mul]; omega), hK.len, ← ih]
    congr 1
    rw [Nat.add_mul]; omega
  | [], i, l, hi, _ => by simp at hi
theorem flat_take (hK : K.Ok) (k : K.Kd) : ∀ (xs : List (K.α k)) (n : Nat), flat k (xs.take n) = (flat k xs).take (n * K.size k)
  | [], n => by simp [flat]
  | x :: xs, 0 => by simp [flat]
  | x :: xs, n + 1 => by
    have ih := flat_take hK k xs n
    simp only [flat, List.take_succ_cons, List.flatMap_cons] at ih ⊢
    rw [ih, Nat.add_mul, Nat.one_mul, Nat.add_comm, List.take_append]
    simp [hK.len, List.take_of_length_le]
theorem flat_drop (hK : K.Ok) (k : K.Kd) : ∀ (xs : List (K.α k)) (n : Nat), flat k (xs.drop n) = (flat k xs).drop (n * K.size k)
  | [], n => by simp [flat]
  | x :: xs, 0 => by simp [flat]
  | x :: xs, n + 1 => by
    have ih := flat_drop hK k xs n
    simp only [flat, List.drop_succ_cons, List.flatMap_cons] at ih ⊢
    rw [ih, Nat.add_mul, Nat.one_mul, Nat.add_comm, ← List.drop_drop, List.drop_append]
    simp [hK.len, List.drop_eq_nil_of_le]
theorem map_at {α β : Type} (f : α → β) (l : List α) (i : Nat) : (l.map f)[i]? = (l[i]?).map f := by simp
/-! ### reading -/
/-- An element, or the kind's own where there is none. -/
def rd {α : Type} (xs : List α) (i : Nat) (d : α) : α := xs.getD i d
def readAt (a : Atom K) (i j m : Nat) (k : List C → Prop) : Prop :=
  match a with
  | .gone => False
  | .cells _ cs => guardP (i == 0 && Nat.ble (j + m) cs.length) (k ((cs.drop j).take m))
  | .arr kd xs => i < xs.length ∧ guardP (Nat.ble (j + m) (K.size kd)) (k (((K.enc kd (rd xs i (K.dflt kd))).drop j).take m))
  | .ro kd xs => i < xs.length ∧ guardP (Nat.ble (j + m) (K.size kd)) (k (((K.enc kd (rd xs i (K.dflt kd))).drop j).take m))
  | .bag _ => False
theorem nl_false {kd : K.Kd} {xs : List (K.α kd)} {x : Ref} {w : World} {r : Nat → Ref} (h : Atom.ok r x w (.arr kd xs)) (hp : 0 < xs.length) : x.nl = false := by
  obtain ⟨_, _, _, h4⟩ := h
  cases hx : x.nl with
  | false => rfl
  | true =>
    rcases h4 with ⟨_, h0⟩ | ⟨g, cap, cur, hv, _⟩
    · omega
    · simp [Ref.val, hx] at hv
theorem val_of {x : Ref} (h : x.nl = false) (n : Nat) : x.val n = .slice (some ⟨x.blk, 0, none⟩) n x.cap := by simp [Ref.val, h]
/-- A list, owned or only read. -/
theorem lst_ok (hK : K.Ok) {a : Atom K} {kd : K.Kd} {xs : List (K.α kd)} {x : Ref} {w : World} {r : Nat → Ref} (hl : a.lst = some ⟨kd, xs⟩) (h : a.ok r x w) :
    x.sz = K.size kd ∧ xs.length ≤ x.cap ∧ (0 < xs.length → x.nl = false) ∧ (0 < xs.length → ∀ j u, ((flat kd xs).map C.plain)[j]? = some u → w.cell? ⟨x.blk, x.off + j, none⟩ = some u) := by
  cases a with
  | gone => cases hl
  | cells T cs => cases hl
  | bag φ => cases hl
  | arr kd' xs' =>
    simp only [Atom.lst, Option.some.injEq, Sigma.mk.injEq] at hl
    obtain ⟨rfl, hl⟩ := hl
    have hl := eq_of_heq hl
    subst hl
    have hnl := fun hp => nl_false h hp
    obtain ⟨⟨hsz, hoff⟩, hnc, ho⟩ := h
    have hcap : xs'.length ≤ x.cap := by
      rcases ho.2 with ⟨_, h0⟩ | ⟨g, c, cur, h', _, _, hnc', _⟩
      · omega
      · simp only [Ref.val, Value.slice.injEq] at h'; omega
    refine ⟨hsz, hcap, hnl, fun hp j u hj => ?_⟩
    rw [val_of (hnl hp)] at ho
    have hlt := (List.getElem?_eq_some_iff.1 hj).1
    rw [List.length_map, flat_length hK] at hlt
    rw [hoff, Nat.zero_add, ho.cellAt _ hlt]
    exact hj
  | ro kd' xs' =>
    simp only [Atom.lst, Option.some.injEq, Sigma.mk.injEq] at hl
    obtain ⟨rfl, hl⟩ := hl
    have hl := eq_of_heq hl
    subst hl
    obtain ⟨hsz, hcap, hnc, hc⟩ := h
    refine ⟨hsz, hcap, fun hp => ?_, fun hp => (hc (by intro e; subst e; simp at hp)).2⟩
    cases hn : x.nl with
    | false => rfl
    | true => have := hnc hn; omega
theorem readL (hK : K.Ok) {a : Atom K} {kd : K.Kd} {xs : List (K.α kd)} {x : Ref} {w : World} {r : Nat → Ref} {N i j m : Nat} {k : List C → Prop}
    (h : i < xs.length ∧ guardP (Nat.ble (j + m) (K.size kd)) (k (((K.enc kd (rd xs i (K.dflt kd))).drop j).take m))) (hl : a.lst = some ⟨kd, xs⟩) (ha : a.ok r x w) :
    ∃ cs vs, k cs ∧ Rel r cs vs ∧ cs.length = m ∧ (∀ c ∈ cs, c.lt N ∧ c.one = true) ∧ w.rangeAt x.blk (x.off + (i * x.sz + j)) vs := by
  obtain ⟨hi, hg⟩ := h
  obtain ⟨hg, hk⟩ := guardP_iff.1 hg
  simp only [Nat.ble_eq] at hg
  obtain ⟨hsz, _, _, hcell⟩ := lst_ok hK hl ha
  have hcell := hcell (by omega)
  have hpl : ∀ c ∈ ((K.enc kd (xs.getD i (K.dflt kd))).drop j).take m, c ∈ K.enc kd (xs.getD i (K.dflt kd)) := fun c hc => List.mem_of_mem_drop (List.mem_of_mem_take hc)
  refine ⟨_, _, hk, Rel.plain fun c hc => hK.nm kd _ c (hpl c hc), by simp [hK.len]; omega, fun c hc => ⟨fun n hn => (by rw [hK.nm kd _ c (hpl c hc)] at hn; cases hn), hK.one kd _ c (hpl c hc)⟩, ?_⟩
  intro l v hlv
  simp only [rd] at hlv
  rw [List.getElem?_map, List.getElem?_take] at hlv
  split at hlv
  · rename_i hlm
    rw [List.getElem?_drop] at hlv
    have := hcell (i * x.sz + j + l) v (by rw [hsz, List.getElem?_map, Nat.add_assoc, flat_at hK kd (K.dflt kd) xs i (j + l) hi (by omega)]; exact hlv)
    rw [Nat.add_assoc]
    exact this
  · simp at hlv
theorem readAt_sound (hK : K.Ok) {r : Nat → Ref} {x : Ref} {w : World} {N : Nat} {a : Atom K} {i j m : Nat} {k : List C → Prop} (h : readAt a i j m k) (ha : a.ok r x w) (hl : a.lt N) :
    ∃ cs vs, k cs ∧ Rel r cs vs ∧ cs.length = m ∧ (∀ c ∈ cs, c.lt N ∧ c.one = true) ∧ w.rangeAt x.blk (x.off + (i * x.sz + j)) vs := by
  cases a with
  | gone => exact h.elim
  | cells T cs =>
    obtain ⟨hg, hk⟩ := guardP_iff.1 h
    simp only [Bool.and_eq_true, beq_iff_eq, Nat.ble_eq] at hg
    obtain ⟨rfl, hjm⟩ := hg
    obtain ⟨⟨_, hoff⟩, vs, hv, hr⟩ := ha
    rw [hoff]
    refine ⟨_, (vs.drop j).take m, hk, (hr.drop j).take m, by simp; omega, fun c hc => hl c (List.mem_of_mem_drop (List.mem_of_mem_take hc)), ?_⟩
    intro l v hlv
    rw [List.getElem?_take] at hlv
    split at hlv
    · rw [List.getElem?_drop] at hlv
      simp only [Nat.zero_mul, Nat.zero_add, World.cell?, hv]
      simpa using hlv
    · cases hlv
  | arr kd xs => exact readL hK h rfl ha
  | ro kd xs => exact readL hK h rfl ha
  | bag φ => exact h.elim
/-! ### writing -/
def splice (l : List C) (j : Nat) (cs : List C) : List C := l.take j ++ cs ++ l.drop (j + cs.length)
def writeAt (H : VH K) (n i j : Nat) (cs : List C) (k : VH K → Prop) : Prop :=
  match at_ H n with
  | .gone => False
  | .cells T old => guardP (i == 0 && Nat.ble (j + cs.length) old.length && cs.all C.one) (k (H.set n (.cells T (splice old j cs))))
  | .arr kd xs => i < xs.length ∧ guardP (Nat.ble (j + cs.length) (K.size kd)) (match K.dec kd (splice (K.enc kd (rd xs i (K.dflt kd))) j cs) with
      | some x => k (H.set n (.arr kd (xs.set i x)))
      | none => False)
  | .ro _ _ => False
  | .bag _ => False
theorem at_set {H : VH K} {n : Nat} (h : n < H.length) (a : Atom K) (m : Nat) : at_ (H.set n a) m = if m = n then a else at_ H m := by
  unfold at_
  simp only [List.getD_eq_getElem?_getD, List.getElem?_set]
  by_cases e : n = m
  · subst e; simp [h]
  · rw [if_neg e, if_neg (Ne.symm e)]
theorem RoKeep.set {H : VH K} {n : Nat} {a : Atom K} (h : n < H.length) (ha : a.isRo = false) : RoKeep H (H.set n a) := fun m hm => by
  rw [at_set h] at hm ⊢
  by_cases e : m = n
  · rw [if_pos e] at hm; rw [ha] at hm; cases hm
  · rw [if_neg e] at hm ⊢; exact RoKeep.refl H m hm
theorem splice_length {l : List C} {j : Nat} {cs : List C} (h : j + cs.length ≤ l.length) : (splice l j cs).length = l.length := by
  simp [splice]; omega
theorem flat_set (hK : K.Ok) (k : K.Kd) (d : K.α k) (j : Nat) (cs : List C) (x : K.α k) : ∀ (xs : List (K.α k)) (i : Nat), i < xs.length → j + cs.length ≤ K.size k → K.enc k x = splice (K.enc k (xs.getD i d)) j cs →
    flat k (xs.set i x) = (flat k xs).take (i * K.size k + j) ++ cs ++ (flat k xs).drop (i * K.size k + j + cs.length)
  | y :: ys, 0, _, hj, he => by
    simp only [flat, List.set_cons_zero, List.flatMap_cons, Nat.zero_mul, Nat.zero_add, List.getD_cons_zero] at he ⊢
    rw [he, List.take_append_of_le_length (by rw [hK.len]; omega), List.drop_append_of_le_length (by rw [hK.len]; omega)]
    simp [splice, List.append_assoc]
  | y :: ys, i + 1, hi, hj, he => by
    have ih := flat_set hK k d j cs x ys i (by simpa using hi) hj (by simpa using he)
    simp only [flat, List.set_cons_succ, List.flatMap_cons] at ih ⊢
    rw [ih]
    have e1 : (i + 1) * K.size k + j = (K.enc k y).length + (i * K.size k + j) := by rw [hK.len, Nat.add_mul]; omega
    have e2 : (i + 1) * K.size k + j + cs.length = (K.enc k y).length + (i * K.size k + j + cs.length) := by rw [hK.len, Nat.add_mul]; omega
    rw [e2, e1, List.take_length_add_append, List.drop_length_add_append]
    simp [List.append_assoc]
  | [], i, hi, _, _ => by simp at hi
theorem take_mid {α : Type} (L F M : List α) (a : Nat) (h : L.take F.length = F) (hl : a + M.length ≤ F.length) :
    (L.take a ++ M ++ L.drop (a + M.length)).take F.length = F.take a ++ M ++ F.drop (a + M.length) := by
  have e : L = F ++ L.drop F.length := by
    have := List.take_append_drop F.length L
    rw [h] at this
    exact this.symm
  generalize L.drop F.length = R at e
  subst e
  have e1 : (F ++ R).take a = F.take a := List.take_append_of_le_length (by omega)
  have e2 : (F ++ R).drop (a + M.length) = F.drop (a + M.length) ++ R := List.drop_append_of_le_length (by omega)
  rw [e1, e2, ← List.append_assoc]
  apply List.take_left'
  simp; omega
theorem writeAt_sound (hK : K.Ok) {S : Nat → Prop} {w0 w : World} {r : Nat → Ref} {H : VH K} {n i j : Nat} {cs : List C} {k : VH K → Prop} (h : writeAt H n i j cs k) (st : HeapOK S w0 r H w)
    {vs : List Value} (hr : Rel r cs vs) (hcl : ∀ c ∈ cs, c.lt H.length) :
    ∃ w' H', RoKeep H H' ∧ (∀ P : Program, (storeCells ⟨(r n).blk, (r n).off + (i * (r n).sz + j), none⟩ vs).run P w = .ok () w') ∧ k H' ∧ H'.length = H.length ∧ HeapOK S w0 r H' w' := by
  unfold writeAt at h
  simp only [rd] at h
  have hok := st.ok n
  have hlt := st.lt n
  cases ha : at_ H n with
  | gone => simp only [ha] at h
  | cells T old =>
    simp only [ha] at h hok hlt
    obtain ⟨hg, hk⟩ := guardP_iff.1 h
    simp only [Bool.and_eq_true, beq_iff_eq, Nat.ble_eq] at hg
    obtain ⟨⟨rfl, hjm⟩, hone⟩ := hg
    have hn : n < H.length := at_lt (by rw [ha]; simp)
    obtain ⟨⟨hnl, hoff⟩, us, hv, hru⟩ := hok
    rw [hoff, Nat.zero_add]
    have hone' : ∀ c ∈ cs, c.one = true := fun c hc => List.all_eq_true.1 hone c hc
    have hul := hru.length
    have hvl := hr.length
    refine ⟨w.setRow (r n).blk (us.take j ++ vs ++ us.drop (j + vs.length)).toArray, _, RoKeep.set hn rfl, fun P => ?_, hk, by simp, ?_⟩
    · have := run_storeCells_at P (r n).blk (0 * (r n).sz + j) T vs 0 us.toArray w hv (by simp; omega) (Rel.one hone' hr)
      simpa using this
    · refine st.evolve (fun m => m = n) (RoKeep.set hn rfl) (by simp) (fun _ _ => rfl) (fun m _ hm => by rw [at_set hn, if_neg hm]) rfl rfl rfl (by simp) (fun b hb hne => ?_) (fun m hm hmt => ?_) (fun m b hmt hb => ?_) (fun m m' b hne hm hm' hb => ?_)
      · exact setRow_other w _ b _ (fun e => hne n rfl (by simp [blkOf, ha, Atom.has, e]))
      · have hmn : m = n := hmt.resolve_right (by simp at hm; omega)
        subst hmn
        rw [at_set hn, if_pos rfl]
        refine ⟨⟨⟨hnl, hoff⟩, _, setRow_heap w _ _ _ T _ hv, ?_⟩, fun c hc => ?_⟩
        · rw [hvl]
          exact ((hru.take j).append hr).append (hru.drop (j + cs.length))
        · simp only [List.length_set]
          simp only [splice, List.mem_append] at hc
          rcases hc with (hc | hc) | hc
          · exact hlt c (List.mem_of_mem_take hc)
          · exact ⟨hcl c hc, hone' c hc⟩
          · exact hlt c (List.mem_of_mem_drop hc)
      · rcases hmt with rfl | hge
        · refine .inl ⟨m, rfl, ?_⟩
          simp only [blkOf, at_set hn, if_true, Atom.has] at hb
          simp only [blkOf, ha, Atom.has]; exact hb
        · simp [blkOf, at_ge (H := H.set n _) (by simpa using hge), Atom.has] at hb
      · rcases hm with rfl | hge
        · rcases hm' with rfl | hge'
          · exact absurd rfl hne
          · simp [blkOf, at_ge (H := H.set m _) (by simpa using hge'), Atom.has]
        · simp [blkOf, at_ge (H := H.set n _) (by simpa using hge), Atom.has] at hb
  | arr kd xs =>
    simp only [ha] at h hok hlt
    obtain ⟨hi, hg⟩ := h
    obtain ⟨hg, hk⟩ := guardP_iff.1 hg
    simp only [Nat.ble_eq] at hg
    have hn : n < H.length := at_lt (by rw [ha]; simp)
    have hnl := nl_false hok (by omega)
    obtain ⟨⟨hsz, hoff⟩, hnc, ho⟩ := hok
    rw [hoff, Nat.zero_add]
    rw [val_of hnl] at ho
    cases hd : K.dec kd (splice (K.enc kd (xs.getD i (K.dflt kd))) j cs) with
    | none => simp only [hd] at hk
    | some x =>
      simp only [hd] at hk
      have he := hK.dec kd _ _ hd
      have hcs : ∀ c ∈ cs, c.nm = none ∧ c.one = true := fun c hc => by
        have : c ∈ K.enc kd x := by rw [he]; simp [splice, hc]
        exact ⟨hK.nm kd x c this, hK.one kd x c this⟩
      obtain rfl := Rel.of_plain (fun c hc => (hcs c hc).1) hr
      obtain ⟨hl0, hoo⟩ := ho
      rcases hoo with ⟨h', _⟩ | ⟨g, cap, cur, h', hb, hgp, hnc', hcm, hcs', htake⟩
      · simp at h'
      · simp only [Value.slice.injEq, Option.some.injEq, Addr.mk.injEq, and_true, true_and] at h'
        obtain ⟨hgb, hcap⟩ := h'
        subst hgb
        have hcurl : xs.length * K.size kd ≤ cur.size := by rw [hcs']; exact Nat.mul_le_mul_right _ hnc'
        have hfit : i * K.size kd + j + cs.length ≤ xs.length * K.size kd := by
          have h1 : (i + 1) * K.size kd ≤ xs.length * K.size kd := Nat.mul_le_mul_right _ hi
          rw [Nat.add_mul] at h1; omega
        have hflat := flat_set hK kd (K.dflt kd) j cs x xs i hi hg he
        refine ⟨w.setRow (r n).blk (cur.toList.take (i * K.size kd + j) ++ cs.map C.plain ++ cur.toList.drop (i * K.size kd + j + cs.length)).toArray, _, RoKeep.set hn rfl, fun P => ?_, hk, by simp, ?_⟩
        · have := run_storeCells_at P (r n).blk (i * (r n).sz + j) (K.elem kd) (cs.map C.plain) 0 cur w hgp (by rw [hsz]; simp; omega)
            (fun v hv => by obtain ⟨c, hc, rfl⟩ := List.mem_map.1 hv; have := (hcs c hc).2; exact C.plain_one this)
          rw [hsz] at this
          simpa [hsz] using this
        · refine st.evolve (fun m => m = n) (RoKeep.set hn rfl) (by simp) (fun _ _ => rfl) (fun m _ hm => by rw [at_set hn, if_neg hm]) rfl rfl rfl (by simp) (fun b hb' hne => ?_) (fun m hm hmt => ?_) (fun m b hmt hb' => ?_) (fun m m' b hne hm hm' hb' => ?_)
          · exact setRow_other w _ b _ (fun e => hne n rfl (by simp [blkOf, ha, Atom.has, e, hnl]))
          · have hmn : m = n := hmt.resolve_right (by simp at hm; omega)
            subst hmn
            rw [at_set hn, if_pos rfl]
            refine ⟨⟨⟨hsz, hoff⟩, hnc, ?_⟩, trivial⟩
            rw [val_of hnl]
            refine ⟨by rw [List.length_map, flat_length hK], .inr ⟨(r m).blk, cap, _, ?_, Nat.zero_le _, setRow_heap w _ _ _ (K.elem kd) _ hgp, by simpa using hnc', hcm, ?_, ?_⟩⟩
            · rw [hcap]
            · simp only [List.size_toArray, List.length_append, List.length_take, List.length_map, List.length_drop, Array.length_toList]; omega
            · simp only [List.length_set]
              rw [hflat]
              simp only [List.map_append, List.map_take, List.map_drop]
              have hq := take_mid cur.toList ((flat kd xs).map C.plain) (cs.map C.plain) (i * K.size kd + j) (by rw [List.length_map, flat_length hK]; exact htake) (by rw [List.length_map, List.length_map, flat_length hK]; exact hfit)
              rw [List.length_map, List.length_map, flat_length hK] at hq
              exact hq
          · rcases hmt with rfl | hge
            · refine .inl ⟨m, rfl, ?_⟩
              simp only [blkOf, at_set hn, if_true, Atom.has] at hb'
              simp only [blkOf, ha, Atom.has]; exact hb'
            · simp [blkOf, at_ge (H := H.set n _) (by simpa using hge), Atom.has] at hb'
          · rcases hm with rfl | hge
            · rcases hm' with rfl | hge'
              · exact absurd rfl hne
              · simp [blkOf, at_ge (H := H.set m _) (by simpa using hge'), Atom.has]
            · simp [blkOf, at_ge (H := H.set n _) (by simpa using hge), Atom.has] at hb'
  | ro kd xs => simp only [ha] at h
  | bag φ => simp only [ha] at h
/-! ### what is known by its place -/
def bagsAt : VH K → Nat → List (Nat × Bag K)
  | [], _ => []
  | .bag φ :: t, n => (n, φ) :: bagsAt t (n + 1)
  | _ :: t, n => bagsAt t (n + 1)
def someBag : List (Nat × Bag K) → (Nat → Bag K → Prop) → Prop
  | [], _ => False
  | [(n, φ)], f => f n φ
  | (n, φ) :: (m, ψ) :: t, f => f n φ ∨ someBag ((m, ψ) :: t) f
def anyBag (H : VH K) (f : Nat → Bag K → Prop) : Prop := someBag (bagsAt H 0) f
theorem bagsAt_mem : ∀ {H : VH K} {n m : Nat} {φ : Bag K}, (m, φ) ∈ bagsAt H n → n ≤ m ∧ at_ H (m - n) = .bag φ
  | [], _, _, _, h => by simp [bagsAt] at h
  | a :: t, n, m, φ, h => by
    have tail : (m, φ) ∈ bagsAt t (n + 1) → n ≤ m ∧ at_ (a :: t) (m - n) = .bag φ := fun h => by
      obtain ⟨h1, h2⟩ := bagsAt_mem h
      refine ⟨by omega, ?_⟩
      rw [show m - n = (m - (n + 1)) + 1 by omega]
      simpa [at_] using h2
    cases a with
    | bag ψ =>
      simp only [bagsAt, List.mem_cons, Prod.mk.injEq] at h
      rcases h with ⟨rfl, rfl⟩ | h
      · exact ⟨Nat.le_refl _, by simp [at_]⟩
      · exact tail h
    | _ => exact tail (by simpa [bagsAt] using h)
theorem someBag_mem {f : Nat → Bag K → Prop} : ∀ {l : List (Nat × Bag K)}, someBag l f → ∃ n φ, (n, φ) ∈ l ∧ f n φ
  | [], h => h.elim
  | [(n, φ)], h => ⟨n, φ, by simp, h⟩
  | (n, φ) :: (m, ψ) :: t, h => by
    rcases h with h | h
    · exact ⟨n, φ, by simp, h⟩
    · obtain ⟨n', φ', h1, h2⟩ := someBag_mem h
      exact ⟨n', φ', List.mem_cons_of_mem _ h1, h2⟩
theorem anyBag_at {H : VH K} {f : Nat → Bag K → Prop} (h : anyBag H f) : ∃ n φ, at_ H n = .bag φ ∧ f n φ := by
  obtain ⟨n, φ, h1, h2⟩ := someBag_mem h
  exact ⟨n, φ, by simpa using (bagsAt_mem h1).2, h2⟩
theorem someBag_mono {f g : Nat → Bag K → Prop} (hfg : ∀ n φ, f n φ → g n φ) : ∀ {l : List (Nat × Bag K)}, someBag l f → someBag l g
  | [], h => h.elim
  | [(n, φ)], h => hfg n φ h
  | (n, φ) :: (m, ψ) :: t, h => by
    rcases h with h | h
    · exact .inl (hfg n φ h)
    · exact .inr (someBag_mono hfg h)
theorem someBag_pull {A : Type} {f : A → Nat → Bag K → Prop} : ∀ {l : List (Nat × Bag K)}, someBag l (fun n φ => ∃ a, f a n φ) → ∃ a, someBag l (f a)
  | [], h => h.elim
  | [(n, φ)], h => h
  | (n, φ) :: (m, ψ) :: t, h => by
    rcases h with ⟨a, h⟩ | h
    · exact ⟨a, .inl h⟩
    · obtain ⟨a, h⟩ := someBag_pull h
      exact ⟨a, .inr h⟩
def bput (φ : Bag K) (b : Nat) (i : BI K) : Bag K := fun c => if c = b then some i else φ c
theorem rowOk {b cap : Nat} {kd : K.Kd} {xs : List (K.α kd)} {w : World} {r : Nat → Ref} (h : BI.ok b w (.row kd cap xs)) : Atom.ok r ⟨b, K.size kd, cap, false, 0⟩ w (.arr kd xs) :=
  ⟨⟨rfl, rfl⟩, fun h => (by cases h), h⟩
def readRow (H : VH K) (e : TypeId) (sz b i j m : Nat) (k : List C → Prop) : Prop :=
  match K.ofType e with
  | some kd => guardP (sz == K.size kd) (anyBag H fun _ φ => ∃ cap xs, φ b = some (.row kd cap xs) ∧ readAt (.arr kd xs) i j m k)
  | none => False
theorem readRow_sound (hK : K.Ok) {S : Nat → Prop} {w0 w : World} {r : Nat → Ref} {H : VH K} (st : HeapOK S w0 r H w) {e : TypeId} {sz b i j m : Nat} {k : List C → Prop} (h : readRow H e sz b i j m k) :
    ∃ cs vs, k cs ∧ Rel r cs vs ∧ cs.length = m ∧ (∀ c ∈ cs, c.lt H.length ∧ c.one = true) ∧ w.rangeAt b (i * sz + j) vs := by
  unfold readRow at h
  split at h
  · rename_i kd hkd
    obtain ⟨hg, h'⟩ := guardP_iff.1 h
    clear h
    simp only [beq_iff_eq] at hg
    subst hg
    have h := h'
    obtain ⟨n, φ, hn, cap, xs, hφ, h⟩ := anyBag_at h
    have hok := st.ok n
    rw [hn] at hok
    have := readAt_sound (r := r) (N := H.length) hK h (rowOk (hok b _ hφ)) trivial
    simpa using this
  · exact h.elim
/-- Cells of a block that is known by its place. -/
def readBox (H : VH K) (b j m : Nat) (k : List C → Prop) : Prop := anyBag H fun _ φ => ∃ cs, cellsAt φ b = some cs ∧ j + m ≤ cs.length ∧ k ((cs.drop j).take m)
theorem boxOk {b : Nat} {T : TypeId} {cs : List C} {w : World} {r : Nat → Ref} (h : BI.ok (K := K) b w (.box T cs)) : Atom.ok (K := K) r ⟨b, 0, 0, false, 0⟩ w (.cells T cs) :=
  ⟨⟨rfl, rfl⟩, _, h.2, Rel.plain fun c hc => (h.1 c hc).1⟩
theorem readBox_sound (hK : K.Ok) {S : Nat → Prop} {w0 w : World} {r : Nat → Ref} {H : VH K} (st : HeapOK S w0 r H w) {b j m : Nat} {k : List C → Prop} (h : readBox H b j m k) :
    ∃ cs vs, k cs ∧ Rel r cs vs ∧ cs.length = m ∧ (∀ c ∈ cs, c.lt H.length ∧ c.one = true) ∧ w.rangeAt b j vs := by
  obtain ⟨n, φ, hn, cs, hφ, hl, h⟩ := anyBag_at h
  have hok := st.ok n
  rw [hn] at hok
  obtain ⟨i, hi, hw⟩ := cellsAt_of hφ
  obtain ⟨hcs, T, p, hv⟩ := hw w (hok b i hi)
  have mem : ∀ c ∈ (cs.drop j).take m, c ∈ cs := fun c hc => List.mem_of_mem_drop (List.mem_of_mem_take hc)
  refine ⟨_, ((cs.map C.plain).drop j).take m, h, ((Rel.plain fun c hc => (hcs c hc).1).drop j).take m, by simp; omega, fun c hc => ⟨fun n hn => (by rw [(hcs c (mem c hc)).1] at hn; cases hn), (hcs c (mem c hc)).2⟩, ?_⟩
  intro l v hlv
  rw [List.getElem?_take] at hlv
  split at hlv
  · rw [List.getElem?_drop] at hlv
    simp only [World.cell?, hv]
    simpa using hlv
  · cases hlv
def readRp (H : VH K) (e : TypeId) (sz b i j m : Nat) (k : List C → Prop) : Prop :=
  match sz with
  | 0 => readBox H b j m k
  | sz + 1 => readRow H e (sz + 1) b i j m k
theorem readRp_sound (hK : K.Ok) {S : Nat → Prop} {w0 w : World} {r : Nat → Ref} {H : VH K} (st : HeapOK S w0 r H w) {e : TypeId} {sz b i j m : Nat} {k : List C → Prop} (h : readRp H e sz b i j m k) :
    ∃ cs vs, k cs ∧ Rel r cs vs ∧ cs.length = m ∧ (∀ c ∈ cs, c.lt H.length ∧ c.one = true) ∧ w.rangeAt b (i * sz + j) vs := by
  cases sz with
  | zero => simpa using readBox_sound hK st h
  | succ sz => exact readRow_sound hK st h
/-- A place that is read. -/
def readPt (H : VH K) (p : VV) (m : Nat) (k : List C → Prop) : Prop :=
  match p with
  | .one (.c (.ptr n i j)) => readAt (at_ H n) i j m k
  | .one (.c (.rp e sz b i j)) => readRp H e sz b i j m k
  | _ => False
theorem readPt_sound (hK : K.Ok) {S : Nat → Prop} {w0 w : World} {r : Nat → Ref} {H : VH K} (st : HeapOK S w0 r H w) {p : VV} {m : Nat} {k : List C → Prop} (h : readPt H p m k) {v : Value} (hp : p.is r v) :
    ∃ b o cs vs, v = .pointer (some ⟨b, o, none⟩) ∧ k cs ∧ Rel r cs vs ∧ cs.length = m ∧ (∀ c ∈ cs, c.lt H.length ∧ c.one = true) ∧ w.rangeAt b o vs := by
  unfold readPt at h
  split at h
  · rename_i n i j
    simp only [VV.is, V1.is, C.is] at hp
    obtain ⟨cs, vs, h1⟩ := readAt_sound hK h (st.ok n) (st.lt n)
    exact ⟨_, _, cs, vs, hp, h1⟩
  · rename_i e sz b i j
    simp only [VV.is, V1.is, C.is, C.plain] at hp
    obtain ⟨cs, vs, h1⟩ := readRp_sound hK st h
    exact ⟨_, _, cs, vs, hp, h1⟩
  · exact h.elim
/-- A bag goes on, the rest stays. -/
theorem HeapOK.bagStep {S : Nat → Prop} {w0 w w' : World} {r : Nat → Ref} {H : VH K} (st : HeapOK S w0 r H w) {m : Nat} {φ φ' : Bag K} (hm : at_ H m = .bag φ)
    (os : w'.os = w.os) (tape : w'.tape = w.tape) (output : w'.output = w.output) (size : w.heap.size ≤ w'.heap.size)
    (hw : ∀ b, b < w.heap.size → (∀ i, φ b ≠ some i) → w'.heap[b]? = w.heap[b]?)
    (hok : ∀ b i, φ' b = some i → i.ok b w') (hdom : ∀ b i, φ' b = some i → (∃ i', φ b = some i') ∨ w.heap.size ≤ b) : HeapOK S w0 r (H.set m (.bag φ')) w' := by
  have hn : m < H.length := at_lt (by rw [hm]; simp)
  have hbm : ∀ b, blkOf r H m b ↔ ∃ i, φ b = some i := fun b => by simp only [blkOf, hm, Atom.has]
  refine st.evolve (fun n => n = m) (RoKeep.set hn rfl) (by simp) (fun _ _ => rfl) (fun n _ ht => by rw [at_set hn, if_neg ht]) os tape output size (fun b hb hne => ?_) (fun n hn' hc => ?_) (fun n b hc hb => ?_) (fun n n' b hne hc hc' hb hb' => ?_)
  · refine hw b hb fun i hi => hne m rfl ((hbm b).2 ⟨i, hi⟩)
  · have hnm : n = m := hc.resolve_right (by simp at hn'; omega)
    subst hnm
    rw [at_set hn, if_pos rfl]
    exact ⟨hok, trivial⟩
  · rcases hc with rfl | hge
    · simp only [blkOf, at_set hn, if_true, Atom.has] at hb
      obtain ⟨i, hi⟩ := hb
      rcases hdom b i hi with h | h
      · exact .inl ⟨n, rfl, (hbm b).2 h⟩
      · exact .inr h
    · simp [blkOf, at_ge (H := H.set m _) (by simpa using hge), Atom.has] at hb
  · rcases hc with rfl | hge
    · rcases hc' with rfl | hge'
      · exact hne rfl
      · simp [blkOf, at_ge (H := H.set n _) (by simpa using hge'), Atom.has] at hb'
    · simp [blkOf, at_ge (H := H.set m _) (by simpa using hge), Atom.has] at hb
/-- A row that is known by its place, as a state of its own. -/
theorem miniOK {b cap : Nat} {kd : K.Kd} {xs : List (K.α kd)} {w : World} (h : BI.ok b w (.row kd cap xs)) : HeapOK (fun c => b = c) w (fun _ => ⟨b, K.size kd, cap, false, 0⟩) [.arr kd xs] w := by
  have off : ∀ n, n ≠ 0 → at_ [Atom.arr kd xs] n = .gone := fun n hn => at_ge (by simp; omega)
  refine ⟨fun n => ?_, fun n => ?_, fun n m c hne h1 h2 => ?_, fun n c h1 => ?_, fun n m c h1 => ?_, ⟨rfl, rfl, rfl, Nat.le_refl _, fun _ _ _ => rfl⟩⟩
  · by_cases e : n = 0
    · subst e; exact rowOk h
    · rw [off n e]; trivial
  · by_cases e : n = 0
    · subst e; trivial
    · rw [off n e]; trivial
  · by_cases e : n = 0
    · have e' : m ≠ 0 := fun h => hne (by rw [e, h])
      rw [blkOf, off m e'] at h2; exact h2
    · rw [blkOf, off n e] at h1; exact h1
  · by_cases e : n = 0
    · subst e; exact .inl h1.2
    · rw [blkOf, off n e] at h1; exact h1.elim
  · by_cases e : n = 0
    · subst e; simp [rbOf, at_, Atom.rb] at h1
    · rw [rbOf, off n e] at h1; simp [Atom.rb] at h1
def writeRow (H : VH K) (e : TypeId) (sz b i j : Nat) (cs : List C) (k : VH K → Prop) : Prop :=
  match K.ofType e with
  | some kd => guardP (sz == K.size kd) (anyBag H fun n φ => ∃ cap xs, φ b = some (.row kd cap xs) ∧ i < xs.length ∧ guardP (Nat.ble (j + cs.length) (K.size kd)) (match K.dec kd (splice (K.enc kd (rd xs i (K.dflt kd))) j cs) with
      | some x => k (H.set n (.bag (bput φ b (.row kd cap (xs.set i x)))))
      | none => False))
  | none => False
theorem writeRow_sound (hK : K.Ok) {S : Nat → Prop} {w0 w : World} {r : Nat → Ref} {H : VH K} {e : TypeId} {sz b i j : Nat} {cs : List C} {k : VH K → Prop} (h : writeRow H e sz b i j cs k) (st : HeapOK S w0 r H w)
    {vs : List Value} (hr : Rel r cs vs) :
    ∃ w' H', RoKeep H H' ∧ (∀ P : Program, (storeCells ⟨b, i * sz + j, none⟩ vs).run P w = .ok () w') ∧ k H' ∧ H'.length = H.length ∧ HeapOK S w0 r H' w' := by
  unfold writeRow at h
  split at h
  · rename_i kd hkd
    obtain ⟨hg, h'⟩ := guardP_iff.1 h
    clear h
    simp only [beq_iff_eq] at hg
    subst hg
    have h := h'
    obtain ⟨n, φ, hn, cap, xs, hφ, hi, h⟩ := anyBag_at h
    obtain ⟨hfit, h⟩ := guardP_iff.1 h
    split at h
    · rename_i x hd
      have hok := st.ok n
      rw [hn] at hok
      have he := hK.dec kd _ _ hd
      have hcs : ∀ c ∈ cs, c.nm = none := fun c hc => by
        have : c ∈ K.enc kd x := by rw [he]; simp [splice, hc]
        exact hK.nm kd x c this
      have hvs := Rel.of_plain hcs hr
      have hr' : Rel (fun _ => (⟨b, K.size kd, cap, false, 0⟩ : Ref)) cs vs := by rw [hvs]; exact Rel.plain hcs
      have hw : writeAt [Atom.arr kd xs] 0 i j cs (fun H' => H' = [.arr kd (xs.set i x)]) := by
        show i < xs.length ∧ guardP (Nat.ble (j + cs.length) (K.size kd)) _
        refine ⟨hi, guardP_iff.2 ⟨hfit, ?_⟩⟩
        rw [hd]
        rfl
      obtain ⟨w', H', _, hrun, rfl, _, st'⟩ := writeAt_sound hK hw (miniOK (hok b _ hφ)) hr' (fun c hc n hn => by rw [hcs c hc] at hn; cases hn)
      have hrow : BI.ok b w' (.row kd cap (xs.set i x)) := (st'.ok 0).2.2
      have hn' : n < H.length := at_lt (by rw [hn]; simp)
      refine ⟨w', _, RoKeep.set hn' rfl, fun P => by simpa using hrun P, h, by simp, ?_⟩
      have out : ∀ c, c < w.heap.size → b ≠ c → w'.heap[c]? = w.heap[c]? := fun c hc hne => st'.out.block c hc hne
      refine st.bagStep hn st'.out.os st'.out.tape st'.out.output st'.out.size (fun c hc hno => out c hc fun e => hno _ (e ▸ hφ)) (fun c i' hc => ?_) (fun c i' hc => ?_)
      · unfold bput at hc
        split at hc
        · rename_i e
          injection hc with hc
          subst e hc; exact hrow
        · rename_i hne
          have := hok c i' hc
          exact BI.ok_keep (i := i') this (out c (BI.ok_lt (i := i') this) (Ne.symm hne))
      · unfold bput at hc
        split at hc
        · rename_i e; subst e; exact .inl ⟨_, hφ⟩
        · exact .inl ⟨_, hc⟩
    · exact h.elim
  · exact h.elim
def writeBox (H : VH K) (b j : Nat) (cs : List C) (k : VH K → Prop) : Prop :=
  anyBag H fun n φ => ∃ T old, φ b = some (.box T old) ∧ j + cs.length ≤ old.length ∧ guardP (cs.all fun c => c.nm.isNone && c.one) (k (H.set n (.bag (bput φ b (.box T (splice old j cs))))))
/-- Cells that are known by their place, as a state of their own. -/
theorem miniBox {b : Nat} {T : TypeId} {cs : List C} {w : World} (h : BI.ok (K := K) b w (.box T cs)) : HeapOK (K := K) (fun c => b = c) w (fun _ => ⟨b, 0, 0, false, 0⟩) [.cells T cs] w := by
  have off : ∀ n, n ≠ 0 → at_ ([Atom.cells T cs] : VH K) n = .gone := fun n hn => at_ge (by simp; omega)
  refine ⟨fun n => ?_, fun n => ?_, fun n m c hne h1 h2 => ?_, fun n c h1 => ?_, fun n m c h1 => ?_, ⟨rfl, rfl, rfl, Nat.le_refl _, fun _ _ _ => rfl⟩⟩
  · by_cases e : n = 0
    · subst e; exact boxOk h
    · rw [off n e]; trivial
  · by_cases e : n = 0
    · subst e; exact fun c hc => ⟨fun n hn => (by rw [(h.1 c hc).1] at hn; cases hn), (h.1 c hc).2⟩
    · rw [off n e]; trivial
  · by_cases e : n = 0
    · have e' : m ≠ 0 := fun h => hne (by rw [e, h])
      rw [blkOf, off m e'] at h2; exact h2
    · rw [blkOf, off n e] at h1; exact h1
  · by_cases e : n = 0
    · subst e; exact .inl h1
    · rw [blkOf, off n e] at h1; exact h1.elim
  · by_cases e : n = 0
    · subst e; simp [rbOf, at_, Atom.rb] at h1
    · rw [rbOf, off n e] at h1; simp [Atom.rb] at h1
theorem writeBox_sound (hK : K.Ok) {S : Nat → Prop} {w0 w : World} {r : Nat → Ref} {H : VH K} {b j : Nat} {cs : List C} {k : VH K → Prop} (h : writeBox H b j cs k) (st : HeapOK S w0 r H w)
    {vs : List Value} (hr : Rel r cs vs) :
    ∃ w' H', RoKeep H H' ∧ (∀ P : Program, (storeCells ⟨b, j, none⟩ vs).run P w = .ok () w') ∧ k H' ∧ H'.length = H.length ∧ HeapOK S w0 r H' w' := by
  obtain ⟨n, φ, hn, T, old, hφ, hl, h⟩ := anyBag_at h
  obtain ⟨hcs, h⟩ := guardP_iff.1 h
  have hcs : ∀ c ∈ cs, c.nm = none ∧ c.one = true := fun c hc => by
    have := List.all_eq_true.1 hcs c hc
    simpa using this
  have hok := st.ok n
  rw [hn] at hok
  have hb : BI.ok b w (.box T old) := hok b _ hφ
  have hvs := Rel.of_plain (fun c hc => (hcs c hc).1) hr
  have hr' : Rel (fun _ => (⟨b, 0, 0, false, 0⟩ : Ref)) cs vs := by rw [hvs]; exact Rel.plain fun c hc => (hcs c hc).1
  have hw : writeAt ([Atom.cells T old] : VH K) 0 0 j cs (fun H' => H' = [.cells T (splice old j cs)]) := by
    show guardP _ _
    refine guardP_iff.2 ⟨?_, rfl⟩
    simp only [beq_self_eq_true, Bool.true_and, Bool.and_eq_true, Nat.ble_eq]
    exact ⟨hl, List.all_eq_true.2 fun c hc => (hcs c hc).2⟩
  obtain ⟨w', H', _, hrun, rfl, _, st'⟩ := writeAt_sound hK hw (miniBox hb) hr' (fun c hc n hn => by rw [(hcs c hc).1] at hn; cases hn)
  have hbox : BI.ok (K := K) b w' (.box T (splice old j cs)) := by
    have hall : ∀ c ∈ splice old j cs, c.nm = none ∧ c.one = true := fun c hc => by
      simp only [splice, List.mem_append] at hc
      rcases hc with (hc | hc) | hc
      · exact hb.1 c (List.mem_of_mem_take hc)
      · exact hcs c hc
      · exact hb.1 c (List.mem_of_mem_drop hc)
    obtain ⟨_, us, hv, hru⟩ := st'.ok 0
    rw [Rel.of_plain (fun c hc => (hall c hc).1) hru] at hv
    exact ⟨hall, hv⟩
  have hn' : n < H.length := at_lt (by rw [hn]; simp)
  refine ⟨w', _, RoKeep.set hn' rfl, fun P => by simpa using hrun P, h, by simp, ?_⟩
  have out : ∀ c, c < w.heap.size → b ≠ c → w'.heap[c]? = w.heap[c]? := fun c hc hne => st'.out.block c hc hne
  refine st.bagStep hn st'.out.os st'.out.tape st'.out.output st'.out.size (fun c hc hno => out c hc fun e => hno _ (e ▸ hφ)) (fun c i' hc => ?_) (fun c i' hc => ?_)
  · unfold bput at hc
    split at hc
    · rename_i e
      injection hc with hc
      subst e hc; exact hbox
    · rename_i hne
      have := hok c i' hc
      exact BI.ok_keep (i := i') this (out c (BI.ok_lt (i := i') this) (Ne.symm hne))
  · unfold bput at hc
    split at hc
    · rename_i e; subst e; exact .inl ⟨_, hφ⟩
    · exact .inl ⟨_, hc⟩
def writeRp (H : VH K) (e : TypeId) (sz b i j : Nat) (cs : List C) (k : VH K → Prop) : Prop :=
  match sz with
  | 0 => writeBox H b j cs k
  | sz + 1 => writeRow H e (sz + 1) b i j cs k
theorem writeRp_sound (hK : K.Ok) {S : Nat → Prop} {w0 w : World} {r : Nat → Ref} {H : VH K} {e : TypeId} {sz b i j : Nat} {cs : List C} {k : VH K → Prop} (h : writeRp H e sz b i j cs k) (st : HeapOK S w0 r H w)
    {vs : List Value} (hr : Rel r cs vs) :
    ∃ w' H', RoKeep H H' ∧ (∀ P : Program, (storeCells ⟨b, i * sz + j, none⟩ vs).run P w = .ok () w') ∧ k H' ∧ H'.length = H.length ∧ HeapOK S w0 r H' w' := by
  cases sz with
  | zero => simpa using writeBox_sound hK h st hr
  | succ sz => exact writeRow_sound hK h st hr
end Go.Proofs.YtndlpbheifalhaaGreatDoor.E
