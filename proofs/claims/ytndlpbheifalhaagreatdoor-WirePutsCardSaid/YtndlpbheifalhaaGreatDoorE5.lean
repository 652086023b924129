/- Third part: what is built, made, laid on, copied, cut. -/
import Derived.Test.YtndlpbheifalhaaGreatDoorE4
namespace Go.Proofs.YtndlpbheifalhaaGreatDoor.E
set_option linter.unusedVariables false
set_option linter.unusedSimpArgs false
variable {K : Kinds} {P : Program} {S : Nat → Prop} {w0 w : World} {r : Nat → Ref} {H : VH K}
/-! ### struct and array literals -/
def fillC (place : Nat → Option (Nat × Nat)) (cs : List C) : List (Nat × VV) → Option (List C)
  | [] => some cs
  | (i, v) :: rest =>
    match place i, v.cs with
    | some (off, size), some vs => match vs.length == size && Nat.ble (off + vs.length) cs.length && vs.all C.one with
      | true => fillC place (splice cs off vs) rest
      | false => none
    | _, _ => none
def RelP (r : Nat → Ref) (N : Nat) : List (Nat × VV) → List (Nat × Value) → Prop
  | [], [] => True
  | (i, x) :: ps, (j, v) :: qs => i = j ∧ x.is r v ∧ x.lt N ∧ RelP r N ps qs
  | _, _ => False
theorem foldl_setIf (off : Nat) : ∀ (vs : List Value) (n : Nat) (cells : Array Value), off + n + vs.length ≤ cells.size →
    ((vs.zipIdx n).foldl (fun cs (p : Value × Nat) => cs.setIfInBounds (off + p.2) p.1) cells).toList = cells.toList.take (off + n) ++ vs ++ cells.toList.drop (off + n + vs.length)
  | [], n, cells, _ => by simp
  | v :: vs, n, cells, h => by
    simp only [List.zipIdx_cons, List.foldl_cons]
    rw [foldl_setIf off vs (n + 1) _ (by simp at h ⊢; omega)]
    have := list_seg_step cells.toList (off + n) v vs (by simp at h ⊢; omega)
    simp only [Array.toList_setIfInBounds, ← Nat.add_assoc] at this ⊢
    rw [this]
    simp [Nat.add_assoc]
theorem fill_sound {place : Nat → Option (Nat × Nat)} {N : Nat} : ∀ {ps : List (Nat × VV)} {qs : List (Nat × Value)} {cs : List C} {vs : List Value} {out : List C}, fillC place cs ps = some out → RelP r N ps qs → Rel r cs vs → (∀ c ∈ cs, c.lt N) →
    ∃ us, Instr.fill place vs.toArray qs = some us.toArray ∧ Rel r out us ∧ out.length = cs.length ∧ ∀ c ∈ out, c.lt N
  | [], [], cs, vs, out, h, _, hr, hl => by simp only [fillC, Option.some.injEq] at h; subst h; exact ⟨vs, rfl, hr, rfl, hl⟩
  | (i, x) :: ps, (j, v) :: qs, cs, vs, out, h, hp, hr, hl => by
    obtain ⟨rfl, hx, hxl, hp⟩ := hp
    simp only [fillC] at h
    split at h
    · rename_i off size xs hpl hcs
      split at h
      · rename_i hg
        simp only [Bool.and_eq_true, beq_iff_eq, Nat.ble_eq] at hg
        obtain ⟨⟨hsz, hfit⟩, hone⟩ := hg
        obtain ⟨us, hvc, hru, hc⟩ := cs_is hcs hx hxl hone
        have hul := hru.length
        have hvl := hr.length
        have hrs : Rel r (splice cs off xs) (vs.take off ++ us ++ vs.drop (off + us.length)) := by
          rw [hul]; exact ((hr.take off).append hru).append (hr.drop (off + xs.length))
        have hls : ∀ c ∈ splice cs off xs, c.lt N := fun c hc' => by
          simp only [splice, List.mem_append] at hc'
          rcases hc' with (hc' | hc') | hc'
          · exact hl c (List.mem_of_mem_take hc')
          · exact (hc c hc').1
          · exact hl c (List.mem_of_mem_drop hc')
        obtain ⟨out', ho, hro, hlen, hlo⟩ := fill_sound (qs := qs) h hp hrs hls
        refine ⟨out', ?_, hro, by rw [hlen, splice_length hfit], hlo⟩
        have hsize : v.cells.size = size := by rw [hvc]; simp; omega
        have hbound : ¬ (off + v.cells.size > vs.toArray.size) := by rw [hvc]; simp; omega
        have hfold : (v.cells.zipIdx.foldl (fun (cs : Array Value) (x : Value × Nat) => match x with | (c, j) => cs.setIfInBounds (off + j) c) vs.toArray) = (vs.take off ++ us ++ vs.drop (off + us.length)).toArray := by
          have := foldl_setIf off us 0 vs.toArray (by simp; omega)
          rw [hvc]
          apply Array.ext'
          simp only [Nat.add_zero] at this
          rw [← Array.foldl_toList]
          simpa using this
        simp only [Instr.fill, hpl, hsize]
        rw [if_neg (by simp; rw [← hsize]; simpa using hbound)]
        rw [hfold]
        exact ho
      · cases h
    · cases h
  | [], _ :: _, _, _, _, _, hp, _, _ => hp.elim
  | _ :: _, [], _, _, _, _, hp, _, _ => hp.elim
def builtC (P : Program) (t : TypeId) (ps : List (Nat × VV)) : Option (List C) :=
  match P.info? t, P.underlying t with
  | some it, some (.array _ e) =>
    match it.zero, P.info? e with
    | some z, some ie => fillC (fun i => some (i * ie.size, ie.size)) (z.cells.toList.map ofConstC) ps
    | _, _ => none
  | some it, some (.struct fields) =>
    match it.zero, fields.toList.mapM (fun f => (P.info? f.type).map fun i => (f.offset, i.size)) with
    | some z, some places => fillC (fun i => places[i]?) (z.cells.toList.map ofConstC) ps
    | _, _ => none
  | _, _ => none
def evBuild (P : Program) (t : TypeId) (ps : List (Nat × VV)) (f : VV → Prop) : Prop :=
  match builtC P t ps with
  | some cs => f (.agg cs)
  | none => False
theorem constL_lt (l : List Value) (N : Nat) : ∀ c ∈ l.map ofConstC, c.lt N := fun c hc => by obtain ⟨u, _, rfl⟩ := List.mem_map.1 hc; exact lt_of_nm (ofConstC_nm u)
theorem evBuild_sound (st : HeapOK S w0 r H w) {t : TypeId} {ps : List (Nat × VV)} {k : VV → VH K → Prop} (h : evBuild P t ps fun v => k v H) {qs : Array (Nat × Value)} (hp : RelP r H.length ps qs.toList) :
    ∃ v', (Instr.build t qs).run P w = .ok v' w ∧ After S w0 r H k v' w := by
  unfold evBuild at h
  split at h
  · rename_i cs hb
    have key : ∃ us : List Value, P.built t qs.toList = some us.toArray ∧ Rel r cs us ∧ ∀ c ∈ cs, c.lt H.length := by
      unfold builtC at hb
      unfold Program.built
      split at hb
      · rename_i it n e hi hu
        split at hb
        · rename_i z ie hz he
          obtain ⟨us, h1, h2, _, h3⟩ := fill_sound hb hp (ofConstL_rel z.cells.toList) (constL_lt _ _)
          refine ⟨us, ?_, h2, h3⟩
          simp only [hi, hu, hz, he]
          simpa using h1
        · cases hb
      · rename_i it fields hi hu
        split at hb
        · rename_i z places hz hpl
          obtain ⟨us, h1, h2, _, h3⟩ := fill_sound hb hp (ofConstL_rel z.cells.toList) (constL_lt _ _)
          refine ⟨us, ?_, h2, h3⟩
          simp only [hi, hu, hz, hpl]
          simpa using h1
        · cases hb
      · cases hb
    obtain ⟨us, h1, h2, h3⟩ := key
    exact ⟨.agg us.toArray, run_build w t qs _ h1, After.pure st h ⟨us, rfl, h2⟩ h3⟩
  · exact h.elim
/-! ### slice literals -/
def chunk (kd : K.Kd) : Nat → List C → Option (List (K.α kd))
  | 0, cs => match cs with | [] => some [] | _ => none
  | n + 1, cs => match K.dec kd (cs.take (K.size kd)), chunk kd n (cs.drop (K.size kd)) with
    | some x, some xs => some (x :: xs)
    | _, _ => none
theorem chunk_flat (hK : K.Ok) {kd : K.Kd} : ∀ {n : Nat} {cs : List C} {xs : List (K.α kd)}, chunk kd n cs = some xs → flat kd xs = cs ∧ xs.length = n
  | 0, cs, xs, h => by
    simp only [chunk] at h
    split at h
    · injection h with h; subst h; exact ⟨rfl, rfl⟩
    · cases h
  | n + 1, cs, xs, h => by
    simp only [chunk] at h
    split at h
    · rename_i x ys hx hys
      injection h with h; subst h
      obtain ⟨h1, h2⟩ := chunk_flat hK hys
      refine ⟨?_, by simp [h2]⟩
      have hd := hK.dec kd _ _ hx
      simp only [flat, List.flatMap_cons] at h1 ⊢
      rw [h1, hd, List.take_append_drop]
    · cases h
def evSliceLit0 (P : Program) (t : TypeId) (len : Nat) (ps : List (Nat × VV)) (H : VH K) (k : VV → VH K → Prop) : Prop :=
  match P.underlying t with
  | some (.slice e) => match P.info? e, K.ofType e with
    | some ie, some kd => match ie.zero with
      | some z => guardP (ie.size == K.size kd && (K.elem kd == e && (z.cells.size == ie.size && Nat.ble (len * ie.size) 16777216)))
          (match fillC (fun i => some (i * ie.size, ie.size)) ((List.replicate len (z.cells.toList.map ofConstC)).flatten) ps with
          | some cs => match chunk kd len cs with
            | some xs => k (.c (.slc H.length 0 len none)) (H ++ [.arr kd xs])
            | none => False
          | none => False)
      | none => False
    | _, _ => False
  | _ => False
theorem replicate_flatten_get (l : List Value) : ∀ (n j : Nat), j < n * l.length → ((List.replicate n l).flatten)[j]? = l[j % l.length]?
  | 0, j, h => by simp at h
  | n + 1, j, h => by
    rw [List.replicate_succ, List.flatten_cons]
    by_cases hj : j < l.length
    · rw [List.getElem?_append_left hj, Nat.mod_eq_of_lt hj]
    · rw [List.getElem?_append_right (by omega), replicate_flatten_get l n (j - l.length) (by rw [Nat.add_mul] at h; omega)]
      congr 1
      exact (Nat.mod_eq_sub_mod (by omega)).symm
theorem madeCells_flatten (z : Array Value) (n : Nat) : (madeCells z (n * z.size)).toList = (List.replicate n z.toList).flatten := by
  apply List.ext_getElem?
  intro j
  by_cases hj : j < n * z.size
  · rw [replicate_flatten_get z.toList n j (by simpa using hj)]
    have hp : 0 < z.size := by rcases Nat.eq_zero_or_pos z.size with h | h; (rw [h] at hj; omega); exact h
    have hm : j % z.size < z.size := Nat.mod_lt _ hp
    simp [madeCells, hj, hm]
  · have h1 : (madeCells z (n * z.size)).toList.length ≤ j := by rw [Array.length_toList, size_madeCells]; omega
    have h2 : ((List.replicate n z.toList).flatten).length ≤ j := by simp; omega
    rw [List.getElem?_eq_none h1, List.getElem?_eq_none h2]
theorem rel_replicate {cs : List C} {vs : List Value} (h : Rel r cs vs) : ∀ n, Rel r (List.replicate n cs).flatten (List.replicate n vs).flatten
  | 0 => trivial
  | n + 1 => by simp only [List.replicate_succ, List.flatten_cons]; exact h.append (rel_replicate h n)
theorem ownsRow_new {w : World} {e : TypeId} {size n cap : Nat} {cur : Array Value} {xs : List Value} (hc : cur.size = cap * size) (hn : n ≤ cap) (hm : cap ≤ maxLen) (ht : cur.toList.take (n * size) = xs) (hx : xs.length = n * size) :
    (w.alloc (.cells cur e)).ownsRow 0 e size (.slice (some ⟨w.heap.size, 0, none⟩) n cap) n xs :=
  ⟨hx, .inr ⟨w.heap.size, cap, cur, rfl, Nat.zero_le _, heap_alloc_new w _, hn, hm, hc, ht⟩⟩
theorem val_is {x : Ref} {R : Nat → Ref} {N n : Nat} (h : R N = x) (ho : x.off = 0) : (C.slc N 0 n none).is R (x.val n) :=
  ⟨if x.nl then none else some ⟨x.blk, 0, none⟩, by simp [Ref.val, h], .inr (by simp [h, ho])⟩
theorem After.newArr (hK : K.Ok) (st : HeapOK S w0 r H w) {kd : K.Kd} {xs : List (K.α kd)} {k : VV → VH K → Prop} (h : k (.c (.slc H.length 0 xs.length none)) (H ++ [.arr kd xs])) {n : Nat} (hn : n = xs.length) {cur : Array Value} {cap : Nat}
    (hc : cur.size = cap * K.size kd) (hle : n ≤ cap) (hm : cap ≤ maxLen) (ht : cur.toList.take (n * K.size kd) = (flat kd xs).map C.plain) :
    After S w0 r H k (.slice (some ⟨w.heap.size, 0, none⟩) n cap) (w.alloc (.cells cur (K.elem kd))) := by
  subst hn
  have ho := ownsRow_new (w := w) (e := K.elem kd) hc hle hm ht (by rw [List.length_map, flat_length hK])
  obtain ⟨x, hx, hsz, st'⟩ := st.owned (xs := xs) none (World.grownBy_alloc w _ none) (fun b hb => by cases hb) ho (fun b hb => .inr (by simp [Value.ownBlock] at hb; omega))
  refine ⟨_, _, _, h, ?_, fun m hm => by simp [C.nm] at hm; subst hm; simp, by simp, fun n hn => upd_old hn, RoKeep.push rfl, st'⟩
  rw [hx]
  exact val_is upd_new hsz.2
theorem evSliceLit0_sound (hK : K.Ok) (st : HeapOK S w0 r H w) {t : TypeId} {len : Nat} {ps : List (Nat × VV)} {k : VV → VH K → Prop} (h : evSliceLit0 P t len ps H k) {qs : Array (Nat × Value)} (hp : RelP r H.length ps qs.toList) :
    ∃ v' w', (Instr.buildSlice t len qs).run P w = .ok v' w' ∧ After S w0 r H k v' w' := by
  unfold evSliceLit0 at h
  split at h
  · rename_i e hu
    split at h
    · rename_i ie kd hi ho
      split at h
      · rename_i z hz
        obtain ⟨hg, h⟩ := guardP_iff.1 h
        simp only [Bool.and_eq_true, beq_iff_eq, Nat.ble_eq] at hg
        obtain ⟨hsz, hel, hzs, hbig⟩ := hg
        split at h
        · rename_i cs hf
          split at h
          · rename_i xs hc
            obtain ⟨hfl, hxl⟩ := chunk_flat hK hc
            have hpos := hK.pos kd
            obtain ⟨us, h1, h2, h3, h4⟩ := fill_sound hf hp (rel_replicate (ofConstL_rel z.cells.toList) len) (fun c hc => by
              obtain ⟨l, hl, hc⟩ := List.mem_flatten.1 hc
              obtain rfl := (List.mem_replicate.1 hl).2
              exact constL_lt _ _ c hc)
            have hus : us = (flat kd xs).map C.plain := by
              refine Rel.of_plain (r := r) (flat_nm hK kd xs) ?_
              rw [hfl]; exact h2
            have hlen : us.length = len * K.size kd := by rw [hus, List.length_map, flat_length hK, hxl]
            refine ⟨.slice (some ⟨w.heap.size, 0, none⟩) len len, w.alloc (.cells us.toArray e), ?_, ?_⟩
            · have hbig' : ¬ (len * ie.size > 2 ^ 24) := by omega
              by_cases h0 : len * ie.size = 0
              · have hl0 : len = 0 := by
                  rcases Nat.mul_eq_zero.1 h0 with h | h
                  · exact h
                  · omega
                subst hl0
                simp only [List.replicate_zero, List.flatten_nil] at h1
                simp [Instr.buildSlice, run_underlying hu, sizeOf, typeInfo, hi, newRow]
                rw [show (Array.map (fun x => (default : Value)) (Array.range 0)) = #[] from by apply Array.ext'; simp, h1]
                simp
              · have hcur : (Array.range (len * ie.size)).map (fun x => z.cells[x % z.cells.size]!) = ((List.replicate len z.cells.toList).flatten).toArray := by
                  have := madeCells_flatten z.cells len
                  rw [hzs] at this
                  apply Array.ext'
                  rw [← this]
                  simp [madeCells, hzs]
                simp only [Nat.not_lt, gt_iff_lt] at hbig'
                simp [Instr.buildSlice, run_underlying hu, sizeOf, typeInfo, hi, h0, hbig, zeroValue, hz, hcur, h1, newRow]
            · rw [← hel]
              refine After.newArr hK st (xs := xs) (by rw [hxl]; exact h) hxl.symm (by simp [hlen]) (Nat.le_refl _) ?_ ?_
              · simp only [maxLen]
                have : len ≤ len * ie.size := Nat.le_mul_of_pos_right _ (by omega)
                omega
              · rw [List.take_of_length_le (by simp [hlen])]
                exact hus
          · exact h.elim
        · exact h.elim
      · exact h.elim
    · exact h.elim
  · exact h.elim
/-! ### a list of one's own is known by its place from here on -/
theorem HeapOK.frz (st : HeapOK S w0 r H w) {n m : Nat} {kd : K.Kd} {xs : List (K.α kd)} {φ : Bag K} (hn : at_ H n = .arr kd xs) (hm : at_ H m = .bag φ) :
    ((r n).nl = true ∧ xs = [] ∧ (r n).cap = 0 ∧ HeapOK S w0 r (H.set n .gone) w) ∨
    ((r n).nl = false ∧ (r n).sz = K.size kd ∧ (r n).off = 0 ∧ φ (r n).blk = none ∧ xs.length ≤ (r n).cap ∧ HeapOK S w0 r ((H.set n .gone).set m (.bag (bput φ (r n).blk (.row kd (r n).cap xs)))) w) := by
  have hok := st.ok n
  rw [hn] at hok
  obtain ⟨⟨hsz, hoff⟩, hnc, ho⟩ := hok
  have hnl : n < H.length := at_lt (by rw [hn]; simp)
  have hml : m < H.length := at_lt (by rw [hm]; simp)
  have hne : n ≠ m := fun e => by rw [e, hm] at hn; cases hn
  have hgone : at_ (H.set n .gone) n = .gone := by rw [at_set hnl, if_pos rfl]
  cases hx : (r n).nl with
  | true =>
    left
    refine ⟨rfl, ?_, hnc hx, ?_⟩
    · cases xs with
      | nil => rfl
      | cons y ys => have := nl_false (r := r) (x := r n) ⟨⟨hsz, hoff⟩, hnc, ho⟩ (by simp); rw [hx] at this; cases this
    · refine st.evolve (fun q => q = n) (RoKeep.set hnl rfl) (by simp) (fun _ _ => rfl) (fun q _ ht => by rw [at_set hnl, if_neg ht]) rfl rfl rfl (Nat.le_refl _) (fun _ _ _ => rfl) (fun q hq hc => ?_) (fun q b hc hb => ?_) (fun q q' b hne hc hc' hb hb' => ?_)
      · have : q = n := hc.resolve_right (by simp at hq; omega)
        subst this; rw [hgone]; exact ⟨trivial, trivial⟩
      · rcases hc with rfl | hge
        · rw [blkOf, hgone] at hb; exact hb.elim
        · rw [blkOf, at_ge (by simpa using hge)] at hb; exact hb.elim
      · rcases hc with rfl | hge
        · rw [blkOf, hgone] at hb; exact hb.elim
        · rw [blkOf, at_ge (by simpa using hge)] at hb; exact hb.elim
  | false =>
    right
    have hbn : blkOf r H n (r n).blk := by rw [blkOf, hn]; exact ⟨hx, rfl⟩
    have hfree : φ (r n).blk = none := by
      cases hφ : φ (r n).blk with
      | none => rfl
      | some i => exact absurd (show blkOf r H m (r n).blk by rw [blkOf, hm]; exact ⟨i, hφ⟩) (st.inj n m _ hne hbn)
    rw [val_of hx] at ho
    have hcap : xs.length ≤ (r n).cap := by
      rcases ho.2 with ⟨h, _⟩ | ⟨g, c, cur, h', _, _, hnc', _⟩
      · simp at h
      · simp only [Value.slice.injEq] at h'; omega
    refine ⟨rfl, hsz, hoff, hfree, hcap, ?_⟩
    have hml' : m < (H.set n Atom.gone).length := by simpa using hml
    have atn : at_ ((H.set n .gone).set m (.bag (bput φ (r n).blk (.row kd (r n).cap xs)))) n = .gone := by rw [at_set hml', if_neg hne, hgone]
    have atm : at_ ((H.set n .gone).set m (.bag (bput φ (r n).blk (.row kd (r n).cap xs)))) m = .bag (bput φ (r n).blk (.row kd (r n).cap xs)) := by rw [at_set hml', if_pos rfl]
    refine st.evolve (fun q => q = n ∨ q = m) (RoKeep.trans (RoKeep.set hnl rfl) (RoKeep.set hml' rfl)) (by simp) (fun _ _ => rfl) (fun q _ ht => ?_) rfl rfl rfl (Nat.le_refl _) (fun _ _ _ => rfl) (fun q hq hc => ?_) (fun q b hc hb => ?_) (fun q q' b hne' hc hc' hb hb' => ?_)
    · rw [at_set hml', if_neg (fun e => ht (.inr e)), at_set hnl, if_neg (fun e => ht (.inl e))]
    · rcases hc.resolve_right (by simp at hq; omega) with rfl | rfl
      · rw [atn]; exact ⟨trivial, trivial⟩
      · rw [atm]
        refine ⟨fun b i hi => ?_, trivial⟩
        unfold bput at hi
        split at hi
        · rename_i e
          injection hi with hi
          subst e hi
          exact ho
        · have := st.ok q
          rw [hm] at this
          exact this b i hi
    · rcases hc with (rfl | rfl) | hge
      · rw [blkOf, atn] at hb; exact hb.elim
      · rw [blkOf, atm] at hb
        obtain ⟨i, hi⟩ := hb
        unfold bput at hi
        split at hi
        · rename_i e; subst e; exact .inl ⟨n, .inl rfl, hbn⟩
        · exact .inl ⟨q, .inr rfl, by rw [blkOf, hm]; exact ⟨i, hi⟩⟩
      · rw [blkOf, at_ge (by simpa using hge)] at hb; exact hb.elim
    · have only : ∀ p b, ((p = n ∨ p = m) ∨ H.length ≤ p) → blkOf r ((H.set n .gone).set m (.bag (bput φ (r n).blk (.row kd (r n).cap xs)))) p b → p = m := fun p b hc hb => by
        rcases hc with (rfl | rfl) | hge
        · rw [blkOf, atn] at hb; exact hb.elim
        · rfl
        · rw [blkOf, at_ge (by simpa using hge)] at hb; exact hb.elim
      exact hne' ((only q b hc hb).trans (only q' b hc' hb').symm)
/-- Cells of one's own are known by their place from here on. -/
theorem HeapOK.frzBox {S : Nat → Prop} {w0 w : World} {r : Nat → Ref} {H : VH K} (st : HeapOK S w0 r H w) {n m : Nat} {T : TypeId} {cs : List C} {φ : Bag K} (hn : at_ H n = .cells T cs) (hm : at_ H m = .bag φ) (hcs : ∀ c ∈ cs, c.nm = none ∧ c.one = true) :
    (r n).off = 0 ∧ φ (r n).blk = none ∧ HeapOK S w0 r ((H.set n .gone).set m (.bag (bput φ (r n).blk (.box T cs)))) w := by
  have hok := st.ok n
  rw [hn] at hok
  obtain ⟨⟨hnil, hoff⟩, vs, hv, hru⟩ := hok
  rw [Rel.of_plain (fun c hc => (hcs c hc).1) hru] at hv
  have hnl : n < H.length := at_lt (by rw [hn]; simp)
  have hml : m < H.length := at_lt (by rw [hm]; simp)
  have hne : n ≠ m := fun e => by rw [e, hm] at hn; cases hn
  have hgone : at_ (H.set n .gone) n = .gone := by rw [at_set hnl, if_pos rfl]
  have hbn : blkOf r H n (r n).blk := by rw [blkOf, hn]; exact rfl
  have hfree : φ (r n).blk = none := by
    cases hφ : φ (r n).blk with
    | none => rfl
    | some i => exact absurd (show blkOf r H m (r n).blk by rw [blkOf, hm]; exact ⟨i, hφ⟩) (st.inj n m _ hne hbn)
  refine ⟨hoff, hfree, ?_⟩
  have hml' : m < (H.set n Atom.gone).length := by simpa using hml
  have atn : at_ ((H.set n .gone).set m (.bag (bput φ (r n).blk (.box T cs)))) n = .gone := by rw [at_set hml', if_neg hne, hgone]
  have atm : at_ ((H.set n .gone).set m (.bag (bput φ (r n).blk (.box T cs)))) m = .bag (bput φ (r n).blk (.box T cs)) := by rw [at_set hml', if_pos rfl]
  have only : ∀ q b, (q = n ∨ q = m) ∨ H.length ≤ q → blkOf r ((H.set n .gone).set m (.bag (bput φ (r n).blk (.box T cs)))) q b → q = m := fun q b hc hb => by
    rcases hc with (rfl | rfl) | hge
    · rw [blkOf, atn] at hb; exact hb.elim
    · rfl
    · rw [blkOf, at_ge (by simpa using hge)] at hb; exact hb.elim
  have hbag := st.ok m
  rw [hm] at hbag
  refine st.evolve (fun q => q = n ∨ q = m) (RoKeep.trans (RoKeep.set hnl rfl) (RoKeep.set hml' rfl)) (by simp) (fun _ _ => rfl) (fun q _ ht => ?_) rfl rfl rfl (Nat.le_refl _) (fun _ _ _ => rfl) (fun q hq hc => ?_) (fun q b hc hb => ?_) (fun q q' b hne' hc hc' hb hb' => hne' ((only q b hc hb).trans (only q' b hc' hb').symm))
  · rw [at_set hml', if_neg (fun e => ht (.inr e)), at_set hnl, if_neg (fun e => ht (.inl e))]
  · rcases hc.resolve_right (by simp at hq; omega) with rfl | rfl
    · rw [atn]; exact ⟨trivial, trivial⟩
    · rw [atm]
      refine ⟨fun b i hi => ?_, trivial⟩
      unfold bput at hi
      split at hi
      · rename_i e
        injection hi with hi
        subst e hi
        exact ⟨hcs, hv⟩
      · exact hbag b i hi
  · obtain rfl := only q b hc hb
    rw [blkOf, atm] at hb
    obtain ⟨i, hi⟩ := hb
    left
    unfold bput at hi
    split at hi
    · rename_i e; subst e; exact ⟨n, .inl rfl, hbn⟩
    · exact ⟨q, .inr rfl, by rw [blkOf, hm]; exact ⟨i, hi⟩⟩
def evFrz (e2 : TypeId) (n len : Nat) (H : VH K) (κ : RS → VH K → Prop) : Prop :=
  match at_ H n, K.ofType e2 with
  | .arr kd xs, some k2 => match K.deq kd k2 with
    | .isTrue _ => len = xs.length ∧ anyBag H fun m φ => (xs = [] → κ .nil (H.set n .gone)) ∧ ∀ b c, φ b = none → xs.length ≤ c → κ (.mk b 0 len c) ((H.set n .gone).set m (.bag (bput φ b (.row kd c xs))))
    | .isFalse _ => False
  | _, _ => False
theorem evFrz_sound (st : HeapOK S w0 r H w) {e2 : TypeId} {n len : Nat} {κ : RS → VH K → Prop} (h : evFrz e2 n len H κ) {v : Value} (hv : (C.slc n 0 len none).is r v) {k2 : K.Kd} (hk2 : K.ofType e2 = some k2) :
    ∃ x H', κ x H' ∧ v = x.val (K.size k2) ∧ H'.length = H.length ∧ RoKeep H H' ∧ HeapOK S w0 r H' w := by
  unfold evFrz at h
  rw [hk2] at h
  split at h
  · rename_i kd xs _ k2' hn hk
    injection hk with hk
    subst hk
    split at h
    · rename_i e _
      subst e
      obtain ⟨rfl, h⟩ := h
      obtain ⟨m, φ, hm, h1, h2⟩ := anyBag_at h
      have hnl : n < H.length := at_lt (by rw [hn]; simp)
      have hml : m < (H.set n Atom.gone).length := by simpa using at_lt (H := H) (n := m) (by rw [hm]; simp)
      obtain ⟨a, rfl, ha⟩ := hv
      have ha : a = if (r n).nl then none else some ⟨(r n).blk, (r n).off + 0 * (r n).sz, none⟩ := ha.resolve_left (fun h => h.1 rfl)
      rcases st.frz hn hm with ⟨q1, q2, q3, q4⟩ | ⟨q1, q2, q3, q4, q5, q6⟩
      · subst q2
        refine ⟨_, _, h1 rfl, ?_, by simp, RoKeep.set hnl rfl, q4⟩
        rw [ha, q1]
        simp [RS.val, q3]
      · refine ⟨_, _, h2 _ _ q4 q5, ?_, by simp, RoKeep.trans (RoKeep.set hnl rfl) (RoKeep.set hml rfl), q6⟩
        rw [ha, q1, q3]
        simp [RS.val]
    · exact h.elim
  · exact h.elim
def frzPs (e2 : TypeId) (sz : Nat) : List (Nat × VV) → VH K → (List (Nat × VV) → VH K → Prop) → Prop
  | [], H, κ => κ [] H
  | (i, v) :: t, H, κ => match v with
    | .one (.c (.slc n 0 len none)) => evFrz e2 n len H fun x H' => frzPs e2 sz t H' fun t' H'' => κ ((i, .c (.rs e2 sz x)) :: t') H''
    | .one (.c .nils) => frzPs e2 sz t H fun t' H'' => κ ((i, .c (.rs e2 sz .nil)) :: t') H''
    | v => frzPs e2 sz t H fun t' H'' => κ ((i, v) :: t') H''
theorem frzPs_sound {e2 : TypeId} {k2 : K.Kd} (hk2 : K.ofType e2 = some k2) : ∀ {ps : List (Nat × VV)} {qs : List (Nat × Value)} {H : VH K} {κ : List (Nat × VV) → VH K → Prop} (st : HeapOK S w0 r H w), RelP r H.length ps qs → frzPs e2 (K.size k2) ps H κ →
    ∃ ps' H', κ ps' H' ∧ RelP r H'.length ps' qs ∧ H'.length = H.length ∧ RoKeep H H' ∧ HeapOK S w0 r H' w
  | [], qs, H, κ, st, hp, h => ⟨[], H, h, hp, rfl, RoKeep.refl H, st⟩
  | (i, v) :: t, [], H, κ, st, hp, h => hp.elim
  | (i, v) :: t, (j, u) :: qs, H, κ, st, hp, h => by
    obtain ⟨h1, h2, h3, h4⟩ := hp
    unfold frzPs at h
    split at h
    · rename_i n len
      obtain ⟨x, H1, hk, hv, hl, hro, st1⟩ := evFrz_sound st h h2 hk2
      obtain ⟨ps', H2, hk', hp', hl', hro', st2⟩ := frzPs_sound hk2 st1 (hl ▸ h4) hk
      exact ⟨_, H2, hk', ⟨h1, hv, lt_of_nm rfl, hp'⟩, hl'.trans hl, hro.trans hro', st2⟩
    · obtain ⟨ps', H2, hk', hp', hl', hro', st2⟩ := frzPs_sound hk2 st h4 h
      exact ⟨_, H2, hk', ⟨h1, h2, lt_of_nm rfl, hp'⟩, hl', hro', st2⟩
    · obtain ⟨ps', H2, hk', hp', hl', hro', st2⟩ := frzPs_sound hk2 st h4 h
      exact ⟨_, H2, hk', ⟨h1, h2, hl' ▸ h3, hp'⟩, hl', hro', st2⟩
/-- The kind of slices that a type's elements are. -/
def innerK (P : Program) (t : TypeId) : Option (TypeId × K.Kd) :=
  match P.underlying t with
  | some (.slice e) => match P.underlying e with
    | some (.slice e2) => (K.ofType e2).map fun k => (e2, k)
    | _ => none
  | _ => none
theorem innerK_of {P : Program} {t e2 : TypeId} {k2 : K.Kd} (h : innerK P t = some (e2, k2)) : K.ofType e2 = some k2 := by
  unfold innerK at h
  split at h
  · split at h
    · rename_i e _ e3 _
      cases hk : K.ofType e3 with
      | none => rw [hk] at h; cases h
      | some k => rw [hk] at h; simp only [Option.map_some, Option.some.injEq, Prod.mk.injEq] at h; obtain ⟨rfl, rfl⟩ := h; exact hk
    · cases h
  · cases h
def evSliceLit (P : Program) (t : TypeId) (len : Nat) (ps : List (Nat × VV)) (H : VH K) (k : VV → VH K → Prop) : Prop :=
  match innerK (K := K) P t with
  | some (e2, k2) => frzPs e2 (K.size k2) ps H fun ps' H' => evSliceLit0 P t len ps' H' k
  | none => evSliceLit0 P t len ps H k
theorem evSliceLit_sound (hK : K.Ok) (st : HeapOK S w0 r H w) {t : TypeId} {len : Nat} {ps : List (Nat × VV)} {k : VV → VH K → Prop} (h : evSliceLit P t len ps H k) {qs : Array (Nat × Value)} (hp : RelP r H.length ps qs.toList) :
    ∃ v' w', (Instr.buildSlice t len qs).run P w = .ok v' w' ∧ After S w0 r H k v' w' := by
  unfold evSliceLit at h
  split at h
  · rename_i e2 k2 hi
    obtain ⟨ps', H', hk, hp', hl, hro, st'⟩ := frzPs_sound (innerK_of hi) st hp h
    obtain ⟨v', w', hr, r', vv, H2, h1, h2, h3, h4, h5, h6, h7⟩ := evSliceLit0_sound hK st' hk hp'
    exact ⟨v', w', hr, r', vv, H2, h1, h2, h3, by omega, fun n hn => h5 n (by omega), hro.trans h6, h7⟩
  · exact evSliceLit0_sound hK st h hp
/-! ### make -/
def evMake (P : Program) (t : TypeId) (l c : VV) (H : VH K) (k : VV → VH K → Prop) : Prop :=
  match P.underlying t, l, c with
  | some (.slice e), .one (.c (.int _ a)), .one (.c (.int _ b)) => match P.info? e, K.ofType e with
    | some ie, some kd => match ie.zero with
      | some z => match K.dec kd (z.cells.toList.map ofConstC) with
        | some x => (0 ≤ a ∧ a ≤ b) ∧ (b ≤ 4611686018427387904 ∧ (ie.bytes : Int) * b ≤ 281474976710656) ∧ guardP (ie.size == K.size kd && K.elem kd == e)
            (k (.c (.slc H.length 0 a.toNat none)) (H ++ [.arr kd (List.replicate a.toNat x)]))
        | none => False
      | none => False
    | _, _ => False
  | _, _, _ => False
theorem map_plain_ofConst (l : List Value) : (l.map ofConstC).map C.plain = l := by
  have := Rel.of_plain (r := fun _ => ⟨0, 0, 0, false, 0⟩) (fun c hc => by obtain ⟨u, _, rfl⟩ := List.mem_map.1 hc; exact ofConstC_nm u) (ofConstL_rel l)
  exact this.symm
theorem evMake_sound (hK : K.Ok) (st : HeapOK S w0 r H w) {t : TypeId} {l c : VV} {k : VV → VH K → Prop} (h : evMake P t l c H k) {v u : Value} (hl : l.is r v) (hc : c.is r u) :
    ∃ v' w', (Instr.makeSlice t v u).run P w = .ok v' w' ∧ After S w0 r H k v' w' := by
  unfold evMake at h
  split at h
  · rename_i e ka a kb b hu
    simp only [VV.is, V1.is, C.is, C.plain] at hl hc
    subst hl hc
    split at h
    · rename_i ie kd hi ho
      split at h
      · rename_i z hz
        split at h
        · rename_i x hx
          obtain ⟨⟨ha, hab⟩, ⟨hb, hby⟩, h⟩ := h
          obtain ⟨hg, h⟩ := guardP_iff.1 h
          simp only [Bool.and_eq_true, beq_iff_eq] at hg
          obtain ⟨hsz, hel⟩ := hg
          have hd := hK.dec kd _ _ hx
          have hzp : (K.enc kd x).map C.plain = z.cells.toList := by rw [hd, map_plain_ofConst]
          have hzs : z.cells.size = K.size kd := by rw [← hK.len kd x, ← Array.length_toList, ← hzp, List.length_map]
          have hr := run_make (P := P) w t e ie z hu hi hz ka kb a b ha hab hby (by omega)
          refine ⟨_, _, hr, ?_⟩
          rw [← hel, hsz]
          refine After.newArr hK st (xs := List.replicate a.toNat x) (by simpa using h) (by simp) (size_madeCells _ _) (by omega) (by simp only [maxLen]; omega) ?_
          rw [← hzs, madeCells_flatten]
          have hsplit : b.toNat = a.toNat + (b.toNat - a.toNat) := by omega
          rw [hsplit, ← List.replicate_append_replicate, List.flatten_append]
          rw [List.take_left' (by simp)]
          rw [← hzp]
          simp only [flat, List.flatMap_def, List.map_replicate, List.map_flatten]
        · exact h.elim
      · exact h.elim
    · exact h.elim
  · exact h.elim
end Go.Proofs.YtndlpbheifalhaaGreatDoor.E
