/- Third part: what is built, made, laid on, copied, cut. -/
import Derived.Test.YtljamcgngojaeaaE4
namespace Go.Proofs.Ytljamcgngojaeaa.E
set_option linter.unusedVariables false
set_option linter.unusedSimpArgs false
variable {K : Kinds} {P : Program} {S : Nat → Prop} {w0 w : World} {r : Nat → Ref} {H : VH K}
/-! ### struct and array literals -/
def fillC (place : Nat → Option (Nat × Nat)) (cs : List C) : List (Nat × VV) → Option (List C)
  | [] => some cs
  | (i, v) :: rest =>
    match place i, v.cs with
    | some (off, size), some vs => match vs.length == size && Nat.ble (off + vs.length) cs.length && vs.all C.one with
      | true => fillC place (splice cs off vs) rest
      | false => none
    | _, _ => none
def RelP (r : Nat → Ref) (N : Nat) : List (Nat × VV) → List (Nat × Value) → Prop
  | [], [] => True
  | (i, x) :: ps, (j, v) :: qs => i = j ∧ x.is r v ∧ x.lt N ∧ RelP r N ps qs
  | _, _ => False
theorem foldl_setIf (off : Nat) : ∀ (vs : List Value) (n : Nat) (cells : Array Value), off + n + vs.length ≤ cells.size →
    ((vs.zipIdx n).foldl (fun cs (p : Value × Nat) => cs.setIfInBounds (off + p.2) p.1) cells).toList = cells.toList.take (off + n) ++ vs ++ cells.toList.drop (off + n + vs.length)
  | [], n, cells, _ => by simp
  | v :: vs, n, cells, h => by
    simp only [List.zipIdx_cons, List.foldl_cons]
    rw [foldl_setIf off vs (n + 1) _ (by simp at h ⊢; omega)]
    have := list_seg_step cells.toList (off + n) v vs (by simp at h ⊢; omega)
    simp only [Array.toList_setIfInBounds, ← Nat.add_assoc] at this ⊢
    rw [this]
    simp [Nat.add_assoc]
theorem fill_sound {place : Nat → Option (Nat × Nat)} {N : Nat} : ∀ {ps : List (Nat × VV)} {qs : List (Nat × Value)} {cs : List C} {vs : List Value} {out : List C}, fillC place cs ps = some out → RelP r N ps qs → Rel r cs vs → (∀ c ∈ cs, c.lt N) →
    ∃ us, Instr.fill place vs.toArray qs = some us.toArray ∧ Rel r out us ∧ out.length = cs.length ∧ ∀ c ∈ out, c.lt N
  | [], [], cs, vs, out, h, _, hr, hl => by simp only [fillC, Option.some.injEq] at h; subst h; exact ⟨vs, rfl, hr, rfl, hl⟩
  | (i, x) :: ps, (j, v) :: qs, cs, vs, out, h, hp, hr, hl => by
    obtain ⟨rfl, hx, hxl, hp⟩ := hp
    simp only [fillC] at h
    split at h
    · rename_i off size xs hpl hcs
      split at h
      · rename_i hg
        simp only [Bool.and_eq_true, beq_iff_eq, Nat.ble_eq] at hg
        obtain ⟨⟨hsz, hfit⟩, hone⟩ := hg
        obtain ⟨us, hvc, hru, hc⟩ := cs_is hcs hx hxl hone
        have hul := hru.length
        have hvl := hr.length
        have hrs : Rel r (splice cs off xs) (vs.take off ++ us ++ vs.drop (off + us.length)) := by
          rw [hul]; exact ((hr.take off).append hru).append (hr.drop (off + xs.length))
        have hls : ∀ c ∈ splice cs off xs, c.lt N := fun c hc' => by
          simp only [splice, List.mem_append] at hc'
          rcases hc' with (hc' | hc') | hc'
          · exact hl c (List.mem_of_mem_take hc')
          · exact (hc c hc').1
          · exact hl c (List.mem_of_mem_drop hc')
        obtain ⟨out', ho, hro, hlen, hlo⟩ := fill_sound (qs := qs) h hp hrs hls
        refine ⟨out', ?_, hro, by rw [hlen, splice_length hfit], hlo⟩
        have hsize : v.cells.size = size := by rw [hvc]; simp; omega
        have hbound : ¬ (off + v.cells.size > vs.toArray.size) := by rw [hvc]; simp; omega
        have hfold : (v.cells.zipIdx.foldl (fun (cs : Array Value) (x : Value × Nat) => match x with | (c, j) => cs.setIfInBounds (off + j) c) vs.toArray) = (vs.take off ++ us ++ vs.drop (off + us.length)).toArray := by
          have := foldl_setIf off us 0 vs.toArray (by simp; omega)
          rw [hvc]
          apply Array.ext'
          simp only [Nat.add_zero] at this
          rw [← Array.foldl_toList]
          simpa using this
        simp only [Instr.fill, hpl, hsize]
        rw [if_neg (by simp; rw [← hsize]; simpa using hbound)]
        rw [hfold]
        exact ho
      · cases h
    · cases h
  | [], _ :: _, _, _, _, _, hp, _, _ => hp.elim
  | _ :: _, [], _, _, _, _, hp, _, _ => hp.elim
def builtC (P : Program) (t : TypeId) (ps : List (Nat × VV)) : Option (List C) :=
  match P.info? t, P.underlying t with
  | some it, some (.array _ e) =>
    match it.zero, P.info? e with
    | some z, some ie => fillC (fun i => some (i * ie.size, ie.size)) (z.cells.toList.map ofConstC) ps
    | _, _ => none
  | some it, some (.struct fields) =>
    match it.zero, fields.toList.mapM (fun f => (P.info? f.type).map fun i => (f.offset, i.size)) with
    | some z, some places => fillC (fun i => places[i]?) (z.cells.toList.map ofConstC) ps
    | _, _ => none
  | _, _ => none
def evBuild (P : Program) (t : TypeId) (ps : List (Nat × VV)) (f : VV → Prop) : Prop :=
  match builtC P t ps with
  | some cs => f (.agg cs)
  | none => False
theorem constL_lt (l : List Value) (N : Nat) : ∀ c ∈ l.map ofConstC, c.lt N := fun c hc => by obtain ⟨u, _, rfl⟩ := List.mem_map.1 hc; exact lt_of_nm (ofConstC_nm u)
theorem evBuild_sound (st : HeapOK S w0 r H w) {t : TypeId} {ps : List (Nat × VV)} {k : VV → VH K → Prop} (h : evBuild P t ps fun v => k v H) {qs : Array (Nat × Value)} (hp : RelP r H.length ps qs.toList) :
    ∃ v', (Instr.build t qs).run P w = .ok v' w ∧ After S w0 r H k v' w := by
  unfold evBuild at h
  split at h
  · rename_i cs hb
    have key : ∃ us : List Value, P.built t qs.toList = some us.toArray ∧ Rel r cs us ∧ ∀ c ∈ cs, c.lt H.length := by
      unfold builtC at hb
      unfold Program.built
      split at hb
      · rename_i it n e hi hu
        split at hb
        · rename_i z ie hz he
          obtain ⟨us, h1, h2, _, h3⟩ := fill_sound hb hp (ofConstL_rel z.cells.toList) (constL_lt _ _)
          refine ⟨us, ?_, h2, h3⟩
          simp only [hi, hu, hz, he]
          simpa using h1
        · cases hb
      · rename_i it fields hi hu
        split at hb
        · rename_i z places hz hpl
          obtain ⟨us, h1, h2, _, h3⟩ := fill_sound hb hp (ofConstL_rel z.cells.toList) (constL_lt _ _)
          refine ⟨us, ?_, h2, h3⟩
          simp only [hi, hu, hz, hpl]
          simpa using h1
        · cases hb
      · cases hb
    obtain ⟨us, h1, h2, h3⟩ := key
    exact ⟨.agg us.toArray, run_build w t qs _ h1, After.pure st h ⟨us, rfl, h2⟩ h3⟩
  · exact h.elim
/-! ### slice literals -/
def chunk (kd : K.Kd) : Nat → List C → Option (List (K.α kd))
  | 0, cs => match cs with | [] => some [] | _ => none
  | n + 1, cs => match K.dec kd (cs.take (K.size kd)), chunk kd n (cs.drop (K.size kd)) with
    | some x, some xs => some (x :: xs)
    | _, _ => none
theorem chunk_flat (hK : K.Ok) {kd : K.Kd} : ∀ {n : Nat} {cs : List C} {xs : List (K.α kd)}, chunk kd n cs = some xs → flat kd xs = cs ∧ xs.length = n
  | 0, cs, xs, h => by
    simp only [chunk] at h
    split at h
    · injection h with h; subst h; exact ⟨rfl, rfl⟩
    · cases h
  | n + 1, cs, xs, h => by
    simp only [chunk] at h
    split at h
    · rename_i x ys hx hys
      injection h with h; subst h
      obtain ⟨h1, h2⟩ := chunk_flat hK hys
      refine ⟨?_, by simp [h2]⟩
      have hd := hK.dec kd _ _ hx
      simp only [flat, List.flatMap_cons] at h1 ⊢
      rw [h1, hd, List.take_append_drop]
    · cases h
def evSliceLit (P : Program) (t : TypeId) (len : Nat) (ps : List (Nat × VV)) (H : VH K) (k : VV → VH K → Prop) : Prop :=
  match P.underlying t with
  | some (.slice e) => match P.info? e, K.ofType e with
    | some ie, some kd => match ie.zero with
      | some z => guardP (ie.size == K.size kd && (K.elem kd == e && (z.cells.size == ie.size && Nat.ble (len * ie.size) 16777216)))
          (match fillC (fun i => some (i * ie.size, ie.size)) ((List.replicate len (z.cells.toList.map ofConstC)).flatten) ps with
          | some cs => match chunk kd len cs with
            | some xs => k (.c (.slc H.length 0 len none)) (H ++ [.arr kd xs])
            | none => False
          | none => False)
      | none => False
    | _, _ => False
  | _ => False
theorem replicate_flatten_get (l : List Value) : ∀ (n j : Nat), j < n * l.length → ((List.replicate n l).flatten)[j]? = l[j % l.length]?
  | 0, j, h => by simp at h
  | n + 1, j, h => by
    rw [List.replicate_succ, List.flatten_cons]
    by_cases hj : j < l.length
    · rw [List.getElem?_append_left hj, Nat.mod_eq_of_lt hj]
    · rw [List.getElem?_append_right (by omega), replicate_flatten_get l n (j - l.length) (by rw [Nat.add_mul] at h; omega)]
      congr 1
      exact (Nat.mod_eq_sub_mod (by omega)).symm
theorem madeCells_flatten (z : Array Value) (n : Nat) : (madeCells z (n * z.size)).toList = (List.replicate n z.toList).flatten := by
  apply List.ext_getElem?
  intro j
  by_cases hj : j < n * z.size
  · rw [replicate_flatten_get z.toList n j (by simpa using hj)]
    have hp : 0 < z.size := by rcases Nat.eq_zero_or_pos z.size with h | h; (rw [h] at hj; omega); exact h
    have hm : j % z.size < z.size := Nat.mod_lt _ hp
    simp [madeCells, hj, hm]
  · have h1 : (madeCells z (n * z.size)).toList.length ≤ j := by rw [Array.length_toList, size_madeCells]; omega
    have h2 : ((List.replicate n z.toList).flatten).length ≤ j := by simp; omega
    rw [List.getElem?_eq_none h1, List.getElem?_eq_none h2]
theorem rel_replicate {cs : List C} {vs : List Value} (h : Rel r cs vs) : ∀ n, Rel r (List.replicate n cs).flatten (List.replicate n vs).flatten
  | 0 => trivial
  | n + 1 => by simp only [List.replicate_succ, List.flatten_cons]; exact h.append (rel_replicate h n)
theorem ownsRow_new {w : World} {e : TypeId} {size n cap : Nat} {cur : Array Value} {xs : List Value} (hc : cur.size = cap * size) (hn : n ≤ cap) (hm : cap ≤ maxLen) (ht : cur.toList.take (n * size) = xs) (hx : xs.length = n * size) :
    (w.alloc (.cells cur e)).ownsRow 0 e size (.slice (some ⟨w.heap.size, 0, none⟩) n cap) n xs :=
  ⟨hx, .inr ⟨w.heap.size, cap, cur, rfl, Nat.zero_le _, heap_alloc_new w _, hn, hm, hc, ht⟩⟩
theorem val_is {x : Ref} {R : Nat → Ref} {N n : Nat} (h : R N = x) (ho : x.off = 0) : (C.slc N 0 n none).is R (x.val n) :=
  ⟨if x.nl then none else some ⟨x.blk, 0, none⟩, by simp [Ref.val, h], .inr (by simp [h, ho])⟩
theorem After.newArr (hK : K.Ok) (st : HeapOK S w0 r H w) {kd : K.Kd} {xs : List (K.α kd)} {k : VV → VH K → Prop} (h : k (.c (.slc H.length 0 xs.length none)) (H ++ [.arr kd xs])) {n : Nat} (hn : n = xs.length) {cur : Array Value} {cap : Nat}
    (hc : cur.size = cap * K.size kd) (hle : n ≤ cap) (hm : cap ≤ maxLen) (ht : cur.toList.take (n * K.size kd) = (flat kd xs).map C.plain) :
    After S w0 r H k (.slice (some ⟨w.heap.size, 0, none⟩) n cap) (w.alloc (.cells cur (K.elem kd))) := by
  subst hn
  have ho := ownsRow_new (w := w) (e := K.elem kd) hc hle hm ht (by rw [List.length_map, flat_length hK])
  obtain ⟨x, hx, hsz, st'⟩ := st.owned (xs := xs) none (World.grownBy_alloc w _ none) (fun b hb => by cases hb) ho (fun b hb => .inr (by simp [Value.ownBlock] at hb; omega))
  refine ⟨_, _, _, h, ?_, fun m hm => by simp [C.nm] at hm; subst hm; simp, by simp, fun n hn => upd_old hn, RoKeep.push rfl, st'⟩
  rw [hx]
  exact val_is upd_new hsz.2
theorem evSliceLit_sound (hK : K.Ok) (st : HeapOK S w0 r H w) {t : TypeId} {len : Nat} {ps : List (Nat × VV)} {k : VV → VH K → Prop} (h : evSliceLit P t len ps H k) {qs : Array (Nat × Value)} (hp : RelP r H.length ps qs.toList) :
    ∃ v' w', (Instr.buildSlice t len qs).run P w = .ok v' w' ∧ After S w0 r H k v' w' := by
  unfold evSliceLit at h
  split at h
  · rename_i e hu
    split at h
    · rename_i ie kd hi ho
      split at h
      · rename_i z hz
        obtain ⟨hg, h⟩ := guardP_iff.1 h
        simp only [Bool.and_eq_true, beq_iff_eq, Nat.ble_eq] at hg
        obtain ⟨hsz, hel, hzs, hbig⟩ := hg
        split at h
        · rename_i cs hf
          split at h
          · rename_i xs hc
            obtain ⟨hfl, hxl⟩ := chunk_flat hK hc
            have hpos := hK.pos kd
            obtain ⟨us, h1, h2, h3, h4⟩ := fill_sound hf hp (rel_replicate (ofConstL_rel z.cells.toList) len) (fun c hc => by
              obtain ⟨l, hl, hc⟩ := List.mem_flatten.1 hc
              obtain rfl := (List.mem_replicate.1 hl).2
              exact constL_lt _ _ c hc)
            have hus : us = (flat kd xs).map C.plain := by
              refine Rel.of_plain (r := r) (flat_nm hK kd xs) ?_
              rw [hfl]; exact h2
            have hlen : us.length = len * K.size kd := by rw [hus, List.length_map, flat_length hK, hxl]
            refine ⟨.slice (some ⟨w.heap.size, 0, none⟩) len len, w.alloc (.cells us.toArray e), ?_, ?_⟩
            · have hbig' : ¬ (len * ie.size > 2 ^ 24) := by omega
              by_cases h0 : len * ie.size = 0
              · have hl0 : len = 0 := by
                  rcases Nat.mul_eq_zero.1 h0 with h | h
                  · exact h
                  · omega
                subst hl0
                simp only [List.replicate_zero, List.flatten_nil] at h1
                simp [Instr.buildSlice, run_underlying hu, sizeOf, typeInfo, hi, newRow]
                rw [show (Array.map (fun x => (default : Value)) (Array.range 0)) = #[] from by apply Array.ext'; simp, h1]
                simp
              · have hcur : (Array.range (len * ie.size)).map (fun x => z.cells[x % z.cells.size]!) = ((List.replicate len z.cells.toList).flatten).toArray := by
                  have := madeCells_flatten z.cells len
                  rw [hzs] at this
                  apply Array.ext'
                  rw [← this]
                  simp [madeCells, hzs]
                simp only [Nat.not_lt, gt_iff_lt] at hbig'
                simp [Instr.buildSlice, run_underlying hu, sizeOf, typeInfo, hi, h0, hbig, zeroValue, hz, hcur, h1, newRow]
            · rw [← hel]
              refine After.newArr hK st (xs := xs) (by rw [hxl]; exact h) hxl.symm (by simp [hlen]) (Nat.le_refl _) ?_ ?_
              · simp only [maxLen]
                have : len ≤ len * ie.size := Nat.le_mul_of_pos_right _ (by omega)
                omega
              · rw [List.take_of_length_le (by simp [hlen])]
                exact hus
          · exact h.elim
        · exact h.elim
      · exact h.elim
    · exact h.elim
  · exact h.elim
/-! ### make -/
def evMake (P : Program) (t : TypeId) (l c : VV) (H : VH K) (k : VV → VH K → Prop) : Prop :=
  match P.underlying t, l, c with
  | some (.slice e), .one (.c (.int _ a)), .one (.c (.int _ b)) => match P.info? e, K.ofType e with
    | some ie, some kd => match ie.zero with
      | some z => match K.dec kd (z.cells.toList.map ofConstC) with
        | some x => (0 ≤ a ∧ a ≤ b) ∧ (b ≤ 4611686018427387904 ∧ (ie.bytes : Int) * b ≤ 281474976710656) ∧ guardP (ie.size == K.size kd && K.elem kd == e)
            (k (.c (.slc H.length 0 a.toNat none)) (H ++ [.arr kd (List.replicate a.toNat x)]))
        | none => False
      | none => False
    | _, _ => False
  | _, _, _ => False
theorem map_plain_ofConst (l : List Value) : (l.map ofConstC).map C.plain = l := by
  have := Rel.of_plain (r := fun _ => ⟨0, 0, 0, false, 0⟩) (fun c hc => by obtain ⟨u, _, rfl⟩ := List.mem_map.1 hc; exact ofConstC_nm u) (ofConstL_rel l)
  exact this.symm
theorem evMake_sound (hK : K.Ok) (st : HeapOK S w0 r H w) {t : TypeId} {l c : VV} {k : VV → VH K → Prop} (h : evMake P t l c H k) {v u : Value} (hl : l.is r v) (hc : c.is r u) :
    ∃ v' w', (Instr.makeSlice t v u).run P w = .ok v' w' ∧ After S w0 r H k v' w' := by
  unfold evMake at h
  split at h
  · rename_i e ka a kb b hu
    simp only [VV.is, V1.is, C.is, C.plain] at hl hc
    subst hl hc
    split at h
    · rename_i ie kd hi ho
      split at h
      · rename_i z hz
        split at h
        · rename_i x hx
          obtain ⟨⟨ha, hab⟩, ⟨hb, hby⟩, h⟩ := h
          obtain ⟨hg, h⟩ := guardP_iff.1 h
          simp only [Bool.and_eq_true, beq_iff_eq] at hg
          obtain ⟨hsz, hel⟩ := hg
          have hd := hK.dec kd _ _ hx
          have hzp : (K.enc kd x).map C.plain = z.cells.toList := by rw [hd, map_plain_ofConst]
          have hzs : z.cells.size = K.size kd := by rw [← hK.len kd x, ← Array.length_toList, ← hzp, List.length_map]
          have hr := run_make (P := P) w t e ie z hu hi hz ka kb a b ha hab hby (by omega)
          refine ⟨_, _, hr, ?_⟩
          rw [← hel, hsz]
          refine After.newArr hK st (xs := List.replicate a.toNat x) (by simpa using h) (by simp) (size_madeCells _ _) (by omega) (by simp only [maxLen]; omega) ?_
          rw [← hzs, madeCells_flatten]
          have hsplit : b.toNat = a.toNat + (b.toNat - a.toNat) := by omega
          rw [hsplit, ← List.replicate_append_replicate, List.flatten_append]
          rw [List.take_left' (by simp)]
          rw [← hzp]
          simp only [flat, List.flatMap_def, List.map_replicate, List.map_flatten]
        · exact h.elim
      · exact h.elim
    · exact h.elim
  · exact h.elim
end Go.Proofs.Ytljamcgngojaeaa.E
