/- Fourth part: append, copy, cuts. -/
import Derived.Test.YtndlpbheifalhaaGreatDoorE5
namespace Go.Proofs.YtndlpbheifalhaaGreatDoor.E
set_option linter.unusedVariables false
set_option linter.unusedSimpArgs false
variable {K : Kinds} {P : Program} {S : Nat → Prop} {w0 w : World} {r : Nat → Ref} {H : VH K}
def castK (K : Kinds) {a b : K.Kd} (h : a = b) (xs : List (K.α a)) : List (K.α b) := h ▸ xs
theorem castK_rfl {a : K.Kd} (xs : List (K.α a)) : castK K rfl xs = xs := rfl
def capLe (n : Nat) (q : Option Nat) : Prop := match q with | some c => n ≤ c | none => True
/-- What a slice that is known by its place holds. -/
def RS.row (φ : Bag K) (kd : K.Kd) : RS → Option (List (K.α kd))
  | .nil => some []
  | .mk b lo len cap => match φ b with
    | some (.row k c xs) => match K.deq k kd with
      | .isTrue e => if lo + len ≤ xs.length ∧ lo + cap ≤ c ∧ len ≤ cap then some (((castK K e xs).drop lo).take len) else none
      | .isFalse _ => none
    | _ => none
theorem castK_length {a b : K.Kd} (h : a = b) (xs : List (K.α a)) : (castK K h xs).length = xs.length := by subst h; rfl
theorem RS.row_mk {φ : Bag K} {kd : K.Kd} {b lo len cap : Nat} {ys : List (K.α kd)} (h : RS.row φ kd (.mk b lo len cap) = some ys) :
    ∃ c xs, φ b = some (.row kd c xs) ∧ lo + len ≤ xs.length ∧ lo + cap ≤ c ∧ len ≤ cap ∧ ys = (xs.drop lo).take len := by
  simp only [RS.row] at h
  split at h
  · rename_i k c xs hφ
    split at h
    · rename_i e _
      subst e
      simp only [castK_rfl] at h
      split at h
      · rename_i hc
        injection h with h
        exact ⟨c, xs, hφ, hc.1, hc.2.1, hc.2.2, h.symm⟩
      · cases h
    · cases h
  · cases h
theorem RS.row_of {φ : Bag K} {kd : K.Kd} {b lo len cap c : Nat} {xs : List (K.α kd)} (h : φ b = some (.row kd c xs)) (h1 : lo + len ≤ xs.length) (h2 : lo + cap ≤ c) (h3 : len ≤ cap) : RS.row φ kd (.mk b lo len cap) = some ((xs.drop lo).take len) := by
  simp only [RS.row, h]
  split
  · simp [castK_rfl, h1, h2, h3]
  · rename_i hne _; exact absurd rfl hne
theorem RS.row_len {φ : Bag K} {kd : K.Kd} {x : RS} {ys : List (K.α kd)} (h : x.row φ kd = some ys) : ys.length = x.len := by
  cases x with
  | nil => simp only [RS.row] at h; injection h with h; subst h; rfl
  | mk b lo len cap =>
    obtain ⟨c, xs, _, h1, _, _, rfl⟩ := RS.row_mk h
    simp only [RS.len, List.length_take, List.length_drop]; omega
/-- A text's bytes, as cells. -/
def strC (s : ByteArray) : List C := s.data.toList.map fun b => .int .u8 (b.toNat : Int)
theorem strC_plain (s : ByteArray) : (strC s).map C.plain = byteCells s := by simp [strC, byteCells, List.map_map, Function.comp_def, C.plain]
theorem strC_length (s : ByteArray) : (strC s).length = s.size := by
  rw [← List.length_map (f := C.plain), strC_plain, byteCells_length]
def srcK (P : Program) (tx : TypeId) (x : VV) (H : VH K) (kd : K.Kd) (f : List (K.α kd) → Prop) : Prop :=
  match P.underlying tx, x with
  | some (.slice _), .one (.c .nils) => f []
  | some (.slice _), .one (.c (.slc m lo len cap)) =>
    match (at_ H m).lst with
    | some ⟨kd', xs⟩ => (lo + len ≤ xs.length ∧ capLe len cap) ∧ match K.deq kd' kd with
      | .isTrue e => f (((castK K e xs).drop lo).take len)
      | .isFalse _ => False
    | _ => False
  | some (.slice _), .one (.c (.rs _ sz x)) => guardP (sz == K.size kd) (anyBag H fun _ φ => ∃ ys, x.row φ kd = some ys ∧ f ys)
  | some .string, .one (.c (.str s)) => guardP (K.size kd == 1) (∃ ys, flat kd ys = strC s ∧ f ys)
  | _, _ => False
theorem slc_addr (hK : K.Ok) {n lo len : Nat} {cap : Option Nat} {v : Value} (hx : (C.slc n lo len cap).is r v) {a : Atom K} {kd : K.Kd} {xs : List (K.α kd)} (hl : a.lst = some ⟨kd, xs⟩) (ha : a.ok r (r n) w) (hle : lo + len ≤ xs.length) (hcap : capLe len cap) (hpos : 0 < len) :
    (r n).nl = false ∧ v = .slice (some ⟨(r n).blk, (r n).off + lo * (r n).sz, none⟩) len (cap.getD ((r n).cap - lo)) := by
  obtain ⟨hsz, hxc, hnl, _⟩ := lst_ok hK hl ha
  have hnl := hnl (by omega)
  obtain ⟨b, rfl, hor⟩ := hx
  refine ⟨hnl, ?_⟩
  rcases hor with ⟨_, h0⟩ | h'
  · exfalso
    cases cap with
    | none => simp only [Option.getD_none] at h0; omega
    | some c => simp only [capLe] at hcap; simp only [Option.getD_some] at h0; omega
  · rw [h']; simp [hnl]
theorem lst_cells (hK : K.Ok) {x : Ref} {a : Atom K} {kd : K.Kd} {xs : List (K.α kd)} (hl : a.lst = some ⟨kd, xs⟩) (ha : a.ok r x w) (lo len : Nat) (hle : lo + len ≤ xs.length) (hpos : 0 < len) :
    ∀ j u, ((flat kd ((xs.drop lo).take len)).map C.plain)[j]? = some u → w.cell? (Addr.add ⟨x.blk, x.off + lo * x.sz, none⟩ j) = some u := by
  obtain ⟨hsz, _, _, hc⟩ := lst_ok hK hl ha
  have hc := hc (by omega)
  intro j u hj
  have hlt : j < len * K.size kd := by
    have h1 := (List.getElem?_eq_some_iff.1 hj).1
    rw [List.length_map, flat_length hK, List.length_take, List.length_drop] at h1
    have h2 : min len (xs.length - lo) = len := by omega
    rwa [h2] at h1
  rw [flat_take hK, flat_drop hK, List.map_take, List.map_drop, List.getElem?_take, if_pos hlt, List.getElem?_drop] at hj
  have := hc (lo * K.size kd + j) u hj
  rw [Addr.add_mid, hsz, Nat.add_assoc]
  exact this
theorem srcK_sound (hK : K.Ok) (st : HeapOK S w0 r H w) {tx : TypeId} {x : VV} {kd : K.Kd} {f : List (K.α kd) → Prop} (h : srcK P tx x H kd f) {v : Value} (hx : x.is r v) :
    ∃ ys, f ys ∧ Src P (K.size kd) tx v ys.length ((flat kd ys).map C.plain) w := by
  have one : ∀ ys : List (K.α kd), ∀ u ∈ (flat kd ys).map C.plain, u.oneCell' = true := fun ys u hu => by
    obtain ⟨c, hc, rfl⟩ := List.mem_map.1 hu
    have := flat_one hK kd ys c hc
    exact C.plain_one this
  unfold srcK at h
  split at h
  · rename_i e hu
    simp only [VV.is, V1.is, C.is, C.plain] at hx
    subst hx
    exact ⟨[], h, Src.ofNil w hu 0⟩
  · rename_i e m lo len cap hu
    split at h
    · rename_i kd' xs ha
      obtain ⟨⟨hle, hcap⟩, h⟩ := h
      split at h
      · rename_i e _
        subst e
        simp only [castK_rfl] at h
        refine ⟨_, h, ?_⟩
        have hok := st.ok m
        have hlen : ((xs.drop lo).take len).length = len := by simp; omega
        rcases Nat.eq_zero_or_pos len with h0 | hpos
        · subst h0
          obtain ⟨a, rfl, _⟩ := hx
          simp only [List.take_zero, List.length_nil]
          cases a with
          | none => exact ⟨.inl ⟨_, hu⟩, fun _ => rfl, by simp [Builtin.firstCells, flat], by simp [Builtin.firstCells, flat], by simp [flat], fun u hu => by simp [flat] at hu⟩
          | some a => exact Src.ofSlice w hu a 0 _ [] (by simp) (by simp) (by simp)
        · obtain ⟨hnl, rfl⟩ := slc_addr hK hx ha hok hle hcap hpos
          rw [hlen]
          exact Src.ofSlice w hu _ len _ _ (by rw [List.length_map, flat_length hK, hlen]) (lst_cells hK ha hok lo len hle hpos) (one _)
      · exact h.elim
    · exact h.elim
  · rename_i e e' sz x hu
    obtain ⟨hg, h'⟩ := guardP_iff.1 h
    clear h
    simp only [beq_iff_eq] at hg
    subst hg
    have h := h'
    obtain ⟨n, φ, hn, ys, hys, hf⟩ := anyBag_at h
    simp only [VV.is, V1.is, C.is, C.plain] at hx
    subst hx
    refine ⟨ys, hf, ?_⟩
    cases x with
    | nil => simp only [RS.row] at hys; injection hys with hys; subst hys; exact Src.ofNil w hu 0
    | mk b lo len cap =>
      obtain ⟨c, xs, hφ, h1, h2, h3, rfl⟩ := RS.row_mk hys
      have hok := st.ok n
      rw [hn] at hok
      have hrow := rowOk (r := fun _ => (⟨b, K.size kd, c, false, 0⟩ : Ref)) (hok b _ hφ)
      have hlen : ((xs.drop lo).take len).length = len := by simp; omega
      rw [hlen]
      rcases Nat.eq_zero_or_pos len with h0 | hpos
      · subst h0
        simp only [List.take_zero]
        exact Src.ofSlice w hu _ 0 _ [] (by simp) (by simp) (by simp)
      · have := Src.ofSlice w hu (⟨b, lo * K.size kd, none⟩ : Addr) len cap ((flat kd ((xs.drop lo).take len)).map C.plain) (by rw [List.length_map, flat_length hK, hlen]) (by simpa using lst_cells hK (a := .arr kd xs) rfl hrow lo len h1 hpos) (one _)
        exact this
  · rename_i s hu
    obtain ⟨hg, ys, hfl, hf⟩ := guardP_iff.1 h
    simp only [beq_iff_eq] at hg
    simp only [VV.is, V1.is, C.is, C.plain] at hx
    subst hx
    have hl : ys.length = s.size := by
      have h1 := flat_length hK kd ys
      rw [hfl, strC_length, hg] at h1
      omega
    refine ⟨ys, hf, ?_⟩
    rw [hg, hl, hfl, strC_plain]
    exact Src.ofString w hu s
  · exact h.elim
/-- The whole row of a slice that is known by its place. -/
def RS.full (φ : Bag K) (kd : K.Kd) : RS → Option (List (K.α kd))
  | .nil => some []
  | .mk b lo len cap => match φ b with
    | some (.row k c xs) => match K.deq k kd with
      | .isTrue e => if lo = 0 ∧ len = xs.length ∧ cap = c then some (castK K e xs) else none
      | .isFalse _ => none
    | _ => none
theorem RS.full_mk {φ : Bag K} {kd : K.Kd} {b lo len cap : Nat} {ys : List (K.α kd)} (h : RS.full φ kd (.mk b lo len cap) = some ys) :
    φ b = some (.row kd cap ys) ∧ lo = 0 ∧ len = ys.length := by
  simp only [RS.full] at h
  split at h
  · rename_i k c xs hφ
    split at h
    · rename_i e _
      subst e
      simp only [castK_rfl] at h
      split at h
      · rename_i hc
        injection h with h
        obtain ⟨h1, h2, h3⟩ := hc
        subst h h3
        exact ⟨hφ, h1, h2⟩
      · cases h
    · cases h
  · cases h
theorem RS.full_of {φ : Bag K} {kd : K.Kd} {b cap : Nat} {xs : List (K.α kd)} (h : φ b = some (.row kd cap xs)) : RS.full φ kd (.mk b 0 xs.length cap) = some xs := by
  simp only [RS.full, h]
  split
  · simp [castK_rfl]
  · rename_i hne _; exact absurd rfl hne
/-- What may have come of an append to a slice that is known by its place. -/
inductive App (φ : Bag K) (kd : K.Kd) (xs ys : List (K.α kd)) : RS → RS → Bag K → Prop where
  | none_ : xs = [] → ys = [] → App φ kd xs ys .nil .nil φ
  | room (b c : Nat) : φ b = some (.row kd c xs) → xs.length + ys.length ≤ c → App φ kd xs ys (.mk b 0 xs.length c) (.mk b 0 (xs.length + ys.length) c) (bput φ b (.row kd c (xs ++ ys)))
  | new (x : RS) (b c : Nat) : φ b = none → xs.length + ys.length ≤ c → App φ kd xs ys x (.mk b 0 (xs.length + ys.length) c) (bput φ b (.row kd c (xs ++ ys)))
def evAppend (P : Program) (t tx : TypeId) (s x : VV) (H : VH K) (k : VV → VH K → Prop) : Prop :=
  match P.underlying t with
  | some (.slice e) => match P.info? e with
    | some ie => match ie.zero with
      | some z => match s with
        | .one (.c .nils) => match K.ofType e with
          | some kd => guardP (ie.size == K.size kd && (K.elem kd == e && (z.cells.size == ie.size && Nat.ble 1 ie.bytes))) (srcK P tx x H kd fun ys =>
              ys.length * ie.bytes ≤ 140737488355328 ∧ k (.c (.slc H.length 0 ys.length none)) (H ++ [.arr kd ys]))
          | none => False
        | .one (.c (.slc n 0 len none)) => match at_ H n with
          | .arr kd xs => guardP (ie.size == K.size kd && (K.elem kd == e && (z.cells.size == ie.size && Nat.ble 1 ie.bytes))) (len = xs.length ∧ srcK P tx x H kd fun ys =>
              (xs.length + ys.length) * ie.bytes ≤ 140737488355328 ∧ k (.c (.slc H.length 0 (xs.length + ys.length) none)) (H.set n .gone ++ [.arr kd (xs ++ ys)]))
          | _ => False
        | .one (.c (.rs e' sz g)) => match K.ofType e with
          | some kd => guardP (ie.size == K.size kd && (K.elem kd == e && (z.cells.size == ie.size && (Nat.ble 1 ie.bytes && (e' == e && sz == K.size kd))))) (srcK P tx x H kd fun ys =>
              anyBag H fun n φ => ∃ xs, g.full φ kd = some xs ∧ (xs.length + ys.length) * ie.bytes ≤ 140737488355328 ∧ ∀ g' φ', App φ kd xs ys g g' φ' → k (.c (.rs e sz g')) (H.set n (.bag φ')))
          | none => False
        | _ => False
      | none => False
    | none => False
  | _ => False
theorem slc0_val {n len : Nat} {v : Value} (h : (C.slc n 0 len none).is r v) (ho : (r n).off = 0) : v = (r n).val len := by
  obtain ⟨a, rfl, hor⟩ := h
  rcases hor with ⟨h, _⟩ | h
  · exact absurd rfl h
  · rw [h]; simp [Ref.val, ho]
theorem evAppend_sound (hK : K.Ok) (st : HeapOK S w0 r H w) {t tx ty : TypeId} {s x : VV} {k : VV → VH K → Prop} (h : evAppend P t tx s x H k) {v u : Value} (hs : s.is r v) (hx : x.is r u) :
    ∃ v' w', (Builtin.append_ #[t, tx] ty #[v, u]).run P w = .ok v' w' ∧ After S w0 r H k v' w' := by
  unfold evAppend at h
  split at h
  · rename_i e hu
    split at h
    · rename_i ie hi
      split at h
      · rename_i z hz
        split at h
        · split at h
          · rename_i kd hkd
            obtain ⟨hg, h⟩ := guardP_iff.1 h
            simp only [Bool.and_eq_true, beq_iff_eq, Nat.ble_eq] at hg
            obtain ⟨hsz, hel, hzs, hby⟩ := hg
            obtain ⟨ys, ⟨hb, hk⟩, hsrc⟩ := srcK_sound hK st h hx
            simp only [VV.is, V1.is, C.is, C.plain] at hs
            subst hs
            have hpos := hK.pos kd
            rw [← hsz] at hsrc
            have hlen63 : 0 + ys.length ≤ maxLen := by
              have : ys.length ≤ ys.length * ie.bytes := Nat.le_mul_of_pos_right _ hby
              simp only [maxLen]; omega
            obtain ⟨v', w', hr, ho, hgr, hob⟩ := append_src (P := P) (ty := ty) hu hi hz hzs (by omega) (World.ownsRow_nil w 0 e ie.size) hsrc hlen63 (by simpa using hb)
            refine ⟨v', w', hr, ?_⟩
            simp only [Nat.zero_add, List.nil_append] at ho
            rw [← hel, hsz] at ho
            obtain ⟨y, hy, hy2, st'⟩ := st.owned (xs := ys) none hgr (fun b hb => by simp [Value.ownBlock] at hb) ho (fun b hb => .inr (by
              rcases hob with h1 | h1
              · rw [h1] at hb; simp [Value.ownBlock] at hb
              · rw [h1] at hb; injection hb with hb; omega))
            subst hy
            exact ⟨_, _, _, hk, val_is upd_new hy2.2, fun m hm => by simp [C.nm] at hm; subst hm; simp, by simp, fun n hn => upd_old hn, RoKeep.push rfl, st'⟩
          · exact h.elim
        · rename_i n len
          split at h
          · rename_i kd xs ha
            obtain ⟨hg, h2⟩ := guardP_iff.1 h
            clear h
            obtain ⟨hle, h⟩ := h2
            subst hle
            simp only [Bool.and_eq_true, beq_iff_eq, Nat.ble_eq] at hg
            obtain ⟨hsz, hel, hzs, hby⟩ := hg
            obtain ⟨ys, ⟨hb, hk⟩, hsrc⟩ := srcK_sound hK st h hx
            have hok := st.ok n
            rw [ha] at hok
            obtain ⟨⟨hrsz, hoff⟩, hnc, ho⟩ := hok
            have hv := slc0_val hs hoff
            subst hv
            have hpos := hK.pos kd
            rw [← hsz] at hsrc
            rw [hel, ← hsz] at ho
            have hlen63 : xs.length + ys.length ≤ maxLen := by
              have : xs.length + ys.length ≤ (xs.length + ys.length) * ie.bytes := Nat.le_mul_of_pos_right _ hby
              simp only [maxLen]; omega
            obtain ⟨v', w', hr, ho', hgr, hob⟩ := append_src (P := P) (ty := ty) hu hi hz hzs (by omega) ho hsrc hlen63 hb
            refine ⟨v', w', hr, ?_⟩
            rw [← List.map_append, ← flat_append, ← List.length_append, ← hel, hsz] at ho'
            have hown : ∀ b, ((r n).val xs.length).ownBlock = some b → blkOf r H n b := fun b hb => by
              rw [blkOf, ha]
              simp only [Atom.has]
              cases hnl : (r n).nl with
              | true => simp [Ref.val, hnl, Value.ownBlock] at hb
              | false => simp [Ref.val, hnl, Value.ownBlock] at hb; simp [hb]
            obtain ⟨y, hy, hy2, st'⟩ := st.owned (xs := xs ++ ys) (some n) hgr (fun b hb _ => ⟨n, rfl, hown b hb⟩) ho' (fun b hb => by
              rcases hob with h1 | h1
              · rw [h1] at hb; exact .inl ⟨n, rfl, hown b hb⟩
              · rw [h1] at hb; injection hb with hb; exact .inr (by omega))
            subst hy
            have hk : k (VV.c (C.slc (List.length H) 0 (xs ++ ys).length none)) (List.set H n Atom.gone ++ [Atom.arr kd (xs ++ ys)]) := by rw [List.length_append]; exact hk
            exact ⟨_, _, _, hk, val_is upd_new hy2.2, fun m hm => by simp [C.nm] at hm; subst hm; simp, by simp, fun n hn => upd_old hn, RoKeep.trans (RoKeep.kill (o := some n)) (by simpa [kill] using RoKeep.push rfl), st'⟩
          · exact h.elim
        · rename_i e' sz g
          split at h
          · rename_i kd hkd
            obtain ⟨hg, h2⟩ := guardP_iff.1 h
            clear h
            simp only [Bool.and_eq_true, beq_iff_eq, Nat.ble_eq] at hg
            obtain ⟨hsz, hel, hzs, hby, he, hs'⟩ := hg
            subst he hs'
            obtain ⟨ys, h3, hsrc⟩ := srcK_sound hK st h2 hx
            obtain ⟨n, φ, hn, xs, hfull, hb, hk⟩ := anyBag_at h3
            simp only [VV.is, V1.is, C.is, C.plain] at hs
            subst hs
            have hok : ∀ b i, φ b = some i → i.ok b w := by have := st.ok n; rw [hn] at this; exact this
            have hpos := hK.pos kd
            rw [← hsz] at hsrc
            have hlen63 : xs.length + ys.length ≤ maxLen := by
              have : xs.length + ys.length ≤ (xs.length + ys.length) * ie.bytes := Nat.le_mul_of_pos_right _ hby
              simp only [maxLen]; omega
            have hown : w.ownsRow 0 e' ie.size (g.val (K.size kd)) xs.length ((flat kd xs).map C.plain) := by
              cases g with
              | nil =>
                simp only [RS.full] at hfull
                injection hfull with hfull
                subst hfull
                exact World.ownsRow_nil w 0 _ _
              | mk b lo len cap =>
                obtain ⟨h4, rfl, rfl⟩ := RS.full_mk hfull
                have := hok b _ h4
                rw [← hel, hsz]
                have e1 : (RS.mk b 0 xs.length cap).val (K.size kd) = .slice (some ⟨b, 0, none⟩) xs.length cap := by simp [RS.val]
                rw [e1]
                exact this
            obtain ⟨v', w', hr, ho', hcase⟩ := append_src2 (P := P) (ty := ty) hu hi hz hzs (by omega) hown hsrc hlen63 hb
            refine ⟨v', w', hr, ?_⟩
            rw [← List.map_append, ← flat_append, ← List.length_append, ← hel, hsz] at ho'
            have hnl : n < H.length := at_lt (by rw [hn]; simp)
            rcases hcase with ⟨hgr, ⟨rfl, hv0, hm0⟩ | ⟨c, rfl, hc⟩⟩ | ⟨hgr, g', c, hv0, rfl, hc⟩
            · have hgn : g = .nil := by cases g with | nil => rfl | mk b lo len cap => simp [RS.val] at hv0
              subst hgn
              simp only [RS.full] at hfull
              injection hfull with hfull
              subst hfull
              have hy0 : ys = [] := List.eq_nil_of_length_eq_zero hm0
              have hst := st.bagStep (φ' := φ) hn hgr.os hgr.tape hgr.output hgr.size (fun b hb _ => hgr.block b hb (by simp)) (fun b i hi => BI.ok_keep (hok b i hi) (hgr.block b (BI.ok_lt (hok b i hi)) (by simp))) (fun b i hi => .inl ⟨i, hi⟩)
              exact ⟨r, _, _, hk _ _ (.none_ rfl hy0), rfl, lt_of_nm rfl, by simp, fun _ _ => rfl, RoKeep.set hnl rfl, hst⟩
            · have hfresh : φ w.heap.size = none := by
                cases hφ : φ w.heap.size with
                | none => rfl
                | some i => exact absurd (BI.ok_lt (hok _ i hφ)) (Nat.lt_irrefl _)
              have hst := st.bagStep (φ' := bput φ w.heap.size (.row kd c (xs ++ ys))) hn hgr.os hgr.tape hgr.output hgr.size (fun b hb _ => hgr.block b hb (by simp)) (fun b i hi => by
                unfold bput at hi
                split at hi
                · rename_i e1
                  injection hi with hi
                  subst e1 hi
                  simpa [BI.ok] using ho'
                · exact BI.ok_keep (hok b i hi) (hgr.block b (BI.ok_lt (hok b i hi)) (by simp))) (fun b i hi => by
                unfold bput at hi
                split at hi
                · rename_i e1; subst e1; exact .inr (Nat.le_refl _)
                · exact .inl ⟨i, hi⟩)
              exact ⟨r, _, _, hk _ _ (.new _ _ c hfresh hc), by simp [VV.is, V1.is, C.is, C.plain, RS.val], lt_of_nm rfl, by simp, fun _ _ => rfl, RoKeep.set hnl rfl, hst⟩
            · obtain ⟨b, hg2, hφ⟩ : ∃ b, g = .mk b 0 xs.length c ∧ φ b = some (.row kd c xs) ∧ b = g' := by
                cases g with
                | nil => simp [RS.val] at hv0
                | mk b lo len cap =>
                  obtain ⟨h4, rfl, rfl⟩ := RS.full_mk hfull
                  simp [RS.val] at hv0
                  obtain ⟨rfl, rfl⟩ := hv0
                  exact ⟨b, rfl, h4, rfl⟩
              obtain ⟨hφ, rfl⟩ := hφ
              subst hg2
              have hob : Value.ownBlock ((RS.mk b 0 xs.length c).val (K.size kd)) = some b := rfl
              rw [hob] at hgr
              have hst := st.bagStep (φ' := bput φ b (.row kd c (xs ++ ys))) hn hgr.os hgr.tape hgr.output hgr.size (fun b' hb' hno => hgr.block b' hb' (fun e1 => hno _ (by injection e1 with e1; subst e1; exact hφ))) (fun b' i hi => by
                unfold bput at hi
                split at hi
                · rename_i e1
                  injection hi with hi
                  subst e1 hi
                  simpa [BI.ok] using ho'
                · rename_i hne
                  exact BI.ok_keep (hok b' i hi) (hgr.block b' (BI.ok_lt (hok b' i hi)) (fun e1 => hne (by injection e1 with e1)))) (fun b' i hi => by
                unfold bput at hi
                split at hi
                · rename_i e1; subst e1; exact .inl ⟨_, hφ⟩
                · exact .inl ⟨i, hi⟩)
              exact ⟨r, _, _, hk _ _ (.room b c hφ hc), by simp [VV.is, V1.is, C.is, C.plain, RS.val], lt_of_nm rfl, by simp, fun _ _ => rfl, RoKeep.set hnl rfl, hst⟩
          · exact h.elim
        · exact h.elim
      · exact h.elim
    · exact h.elim
  · exact h.elim
/-! ### cuts -/
def optInt (dflt : Int) : Option VV → Option Int
  | none => some dflt
  | some (.one (.c (.int _ z))) => some z
  | some _ => none
def RS.cut (l h m : Nat) : RS → RS
  | .nil => .nil
  | .mk b lo _ _ => .mk b (if m = l then lo else lo + l) (h - l) (m - l)
def evCut (P : Program) (t : TypeId) (x : VV) (lo hi mx : Option VV) (H : VH K) (k : VV → VH K → Prop) : Prop :=
  match P.underlying t, x, optInt 0 lo with
  | some .string, .one (.c (.str s)), some l =>
    match mx, optInt (s.size : Int) hi with
    | none, some h => (0 ≤ l ∧ l ≤ h ∧ h ≤ (s.size : Int)) ∧ k (.c (.str (s.extract l.toNat h.toNat))) H
    | _, _ => False
  | some (.slice e), .one (.c (.slc n b len cap)), some l =>
    match (at_ H n).lst, optInt (len : Int) hi with
    | some ⟨kd, xs⟩, some h =>
      guardP (P.cellsOf e == K.size kd && (P.info? e).isSome) (
      match mx with
      | none => (0 ≤ l ∧ l ≤ h) ∧ (match cap with | some c => h ≤ (c : Int) | none => (b : Int) + h ≤ (xs.length : Int)) ∧
          k (.c (.slc n (b + l.toNat) (h - l).toNat (cap.map (· - l.toNat)))) H
      | some _ => match hi, optInt 0 mx with
        | some _, some m => (0 ≤ l ∧ l ≤ h ∧ h ≤ m) ∧ (match cap with | some c => m ≤ (c : Int) | none => (b : Int) + m ≤ (xs.length : Int)) ∧
          k (.c (.slc n (b + l.toNat) (h - l).toNat (some (m - l).toNat))) H
        | _, _ => False)
    | _, _ => False
  | some (.slice e), .one (.c (.rs e' sz x)), some l =>
    match optInt (x.len : Int) hi with
    | some h =>
      guardP (e == e' && (P.cellsOf e == sz && (P.info? e).isSome)) (
      match mx with
      | none => (0 ≤ l ∧ l ≤ h ∧ h ≤ (x.cap : Int)) ∧ k (.c (.rs e sz (RS.cut l.toNat h.toNat x.cap x))) H
      | some _ => match hi, optInt 0 mx with
        | some _, some m => (0 ≤ l ∧ l ≤ h ∧ h ≤ m ∧ m ≤ (x.cap : Int)) ∧ k (.c (.rs e sz (RS.cut l.toNat h.toNat m.toNat x))) H
        | _, _ => False)
    | none => False
  | _, _, _ => False
def OptIs (r : Nat → Ref) : Option VV → Option Value → Prop
  | none, none => True
  | some x, some v => x.is r v
  | _, _ => False
theorem run_sliceBound {k : IntKind} {i : Int} {y : Nat} {c : BoundsCode} (h0 : 0 ≤ i) (h1 : i ≤ (y : Int)) : (Instr.sliceBound (.int k i) y c).run P w = .ok i.toNat w := by
  simp [Instr.sliceBound, asIntOf, h0, h1]
theorem run_sliceBounds {isS : Bool} {len cap : Nat} {l h : Int} {lo hi : Option Value} (hlo : (lo = none ∧ l = 0) ∨ ∃ k, lo = some (.int k l)) (hhi : (hi = none ∧ h = len) ∨ ∃ k, hi = some (.int k h)) (h0 : 0 ≤ l) (hlh : l ≤ h) (hc : h ≤ (cap : Int)) :
    (Instr.sliceBounds isS len cap lo hi none).run P w = .ok (l.toNat, h.toNat, cap) w := by
  have h1 : 0 ≤ h := by omega
  have h2 : l ≤ ((h.toNat : Nat) : Int) := by omega
  have e1 := fun k c => run_sliceBound (P := P) (w := w) (k := k) (c := c) h0 h2
  have e2 := fun k c => run_sliceBound (P := P) (w := w) (k := k) (c := c) h1 hc
  rcases hlo with ⟨rfl, rfl⟩ | ⟨kl, rfl⟩ <;> rcases hhi with ⟨rfl, rfl⟩ | ⟨kh, rfl⟩ <;>
    simp_all [Instr.sliceBounds]
theorem run_sliceBounds3 {isS : Bool} {len cap : Nat} {l h m : Int} {lo hi : Option Value} {km : IntKind} (hlo : (lo = none ∧ l = 0) ∨ ∃ k, lo = some (.int k l)) (hhi : ∃ k, hi = some (.int k h)) (h0 : 0 ≤ l) (hlh : l ≤ h) (hm : h ≤ m) (hc : m ≤ (cap : Int)) :
    (Instr.sliceBounds isS len cap lo hi (some (.int km m))).run P w = .ok (l.toNat, h.toNat, m.toNat) w := by
  have h1 : 0 ≤ h := by omega
  have h2 : 0 ≤ m := by omega
  have h3 : h ≤ ((m.toNat : Nat) : Int) := by omega
  have h4 : l ≤ ((h.toNat : Nat) : Int) := by omega
  have e1 := fun k c => run_sliceBound (P := P) (w := w) (k := k) (c := c) h0 h4
  have e2 := fun k c => run_sliceBound (P := P) (w := w) (k := k) (c := c) h1 h3
  have e3 := fun k c => run_sliceBound (P := P) (w := w) (k := k) (c := c) h2 hc
  obtain ⟨kh, rfl⟩ := hhi
  rcases hlo with ⟨rfl, rfl⟩ | ⟨kl, rfl⟩ <;>
    simp_all [Instr.sliceBounds]
theorem optInt_of {d z : Int} {x : Option VV} {v : Option Value} (h : optInt d x = some z) (hx : OptIs r x v) : (v = none ∧ z = d) ∨ ∃ k, v = some (.int k z) := by
  unfold optInt at h
  split at h
  · injection h with h
    cases v with
    | none => exact .inl ⟨rfl, h.symm⟩
    | some v => exact hx.elim
  · rename_i kk z'
    injection h with h
    subst h
    cases v with
    | none => exact hx.elim
    | some v =>
      have hx : v = .int kk z' := hx
      subst hx
      exact .inr ⟨kk, rfl⟩
  · cases h
theorem cut_addr {n b len l hl : Nat} {cap : Option Nat} {v : Value} {e : TypeId} {m : Nat} {cap' : Option Nat} (hx : (C.slc n b len cap).is r v) (hm : ∀ c, cap.getD ((r n).cap - b) = c → l ≤ m ∧ m ≤ c)
    (hcap' : cap'.getD ((r n).cap - (b + l)) = m - l) :
    ∃ a, v = .slice a len (cap.getD ((r n).cap - b)) ∧ (C.slc n (b + l) hl cap').is r (.slice (if m = l then a else a.map (·.add (l * (r n).sz))) hl (m - l)) := by
  obtain ⟨a, rfl, hor⟩ := hx
  obtain ⟨hlm, hmc⟩ := hm _ rfl
  refine ⟨a, rfl, ?_⟩
  refine ⟨if m = l then a else a.map (·.add (l * (r n).sz)), by rw [hcap'], ?_⟩
  rw [hcap']
  by_cases e1 : m = l
  · subst e1
    simp only [if_true, Nat.sub_self]
    by_cases e2 : b + m = 0
    · have hb : b = 0 := by omega
      have hm0 : m = 0 := by omega
      subst hb hm0
      rcases hor with ⟨h, _⟩ | h
      · exact absurd rfl h
      · exact .inr (by simpa using h)
    · exact .inl ⟨e2, trivial⟩
  · simp only [e1, if_false]
    right
    rcases hor with ⟨_, h0⟩ | h
    · omega
    · rw [h]
      split
      · rfl
      · simp [Addr.add_mid, Nat.add_mul, Nat.add_assoc]
theorem evCut_sound (hK : K.Ok) (st : HeapOK S w0 r H w) {t : TypeId} {x : VV} {lo hi mx : Option VV} {k : VV → VH K → Prop} (h : evCut P t x lo hi mx H k) {v : Value} {vlo vhi vmx : Option Value} (hx : x.is r v) (hl : x.lt H.length)
    (hlo : OptIs r lo vlo) (hhi : OptIs r hi vhi) (hmx : OptIs r mx vmx) :
    ∃ v', (Instr.sliceAt t v vlo vhi vmx).run P w = .ok v' w ∧ After S w0 r H k v' w := by
  unfold evCut at h
  split at h
  · rename_i s l hu hol
    simp only [VV.is, V1.is, C.is, C.plain] at hx
    subst hx
    split at h
    · rename_i hh hoh
      obtain ⟨⟨h0, h1, h2⟩, h⟩ := h
      have hmn : vmx = none := by cases vmx with | none => rfl | some _ => exact hmx.elim
      subst hmn
      have hb := run_sliceBounds (P := P) (w := w) (isS := false) (len := s.size) (cap := s.size) (optInt_of hol hlo) (optInt_of hoh hhi) h0 h1 h2
      refine ⟨.string (s.extract l.toNat hh.toNat), ?_, After.pure st h rfl (lt_of_nm rfl)⟩
      simp [Instr.sliceAt, run_underlying hu, Instr.slice, hb]
    · exact h.elim
  · rename_i e n b len cap l hu hol
    split at h
    · rename_i kd xs hh ha hoh
      obtain ⟨hg, h⟩ := guardP_iff.1 h
      simp only [Bool.and_eq_true, beq_iff_eq] at hg
      obtain ⟨i, hi⟩ := Option.isSome_iff_exists.1 hg.2
      obtain ⟨hsz, hxc, _, _⟩ := lst_ok hK ha (st.ok n)
      have hcs : i.size = (r n).sz := by rw [hsz, ← hg.1]; simp [Program.cellsOf, hi]
      split at h
      · obtain ⟨⟨h0, h1⟩, h2, h⟩ := h
        have hmn : vmx = none := by cases vmx with | none => rfl | some _ => exact hmx.elim
        subst hmn
        have hhc : hh ≤ ((cap.getD ((r n).cap - b) : Nat) : Int) := by
          cases cap with
          | some c => simpa using h2
          | none => simp only [Option.getD_none]; simp only at h2; omega
        obtain ⟨a, hv, his⟩ := cut_addr (e := e) (l := l.toNat) (hl := (hh - l).toNat) (m := cap.getD ((r n).cap - b)) (cap' := cap.map (· - l.toNat)) hx (fun c hc => by omega)
          (by cases cap with | some c => simp | none => simp only [Option.map_none, Option.getD_none]; omega)
        subst hv
        have hb := run_sliceBounds (P := P) (w := w) (isS := true) (len := len) (cap := cap.getD ((r n).cap - b)) (optInt_of hol hlo) (optInt_of hoh hhi) h0 h1 hhc
        refine ⟨_, ?_, After.pure st h his (fun m hm => hl m hm)⟩
        simp [Instr.sliceAt, run_underlying hu, Instr.slice, hb, sizeOf, typeInfo, hi, hcs]
        omega
      · rename_i mv
        split at h
        · rename_i hv0 m hom
          obtain ⟨⟨h0, h1, h1'⟩, h2, h⟩ := h
          rcases optInt_of hom hmx with ⟨hn, _⟩ | ⟨km, rfl⟩
          · subst hn; exact hmx.elim
          · rcases optInt_of hoh hhi with ⟨hn, hlen⟩ | ⟨kh, rfl⟩
            · subst hn; exact hhi.elim
            · have hhc : m ≤ ((cap.getD ((r n).cap - b) : Nat) : Int) := by
                cases cap with
                | some c => simpa using h2
                | none => simp only [Option.getD_none]; simp only at h2; omega
              obtain ⟨a, hv, his⟩ := cut_addr (e := e) (l := l.toNat) (hl := (hh - l).toNat) (m := m.toNat) (cap' := some (m - l).toNat) hx (fun c hc => by omega) (by simp; omega)
              subst hv
              have hb := run_sliceBounds3 (P := P) (w := w) (isS := true) (len := len) (cap := cap.getD ((r n).cap - b)) (km := km) (optInt_of hol hlo) ⟨kh, rfl⟩ h0 h1 h1' hhc
              refine ⟨_, ?_, After.pure st h his (fun m hm => hl m hm)⟩
              simp [Instr.sliceAt, run_underlying hu, Instr.slice, hb, sizeOf, typeInfo, hi, hcs]
              omega
        · exact h.elim
    · exact h.elim
  · rename_i e e' sz x l hu hol
    simp only [VV.is, V1.is, C.is, C.plain] at hx
    subst hx
    split at h
    · rename_i hh hoh
      obtain ⟨hg, h'⟩ := guardP_iff.1 h
      clear h
      simp only [Bool.and_eq_true, beq_iff_eq] at hg
      obtain ⟨rfl, hsz, hsome⟩ := hg
      have h := h'
      clear h'
      obtain ⟨i, hi⟩ := Option.isSome_iff_exists.1 hsome
      have hcs : i.size = sz := by rw [← hsz]; simp [Program.cellsOf, hi]
      have fin : ∀ m : Nat, l.toNat ≤ m → hh.toNat ≤ m → m ≤ x.cap → (Instr.sliceBounds true x.len x.cap vlo vhi vmx).run P w = .ok (l.toNat, hh.toNat, m) w →
          (Instr.sliceAt t (x.val sz) vlo vhi vmx).run P w = .ok ((RS.cut l.toNat hh.toNat m x).val sz) w := fun m h1 h2 h3 hb => by
        cases x with
        | nil =>
          simp only [RS.cap, RS.len] at h3 hb
          obtain rfl : m = 0 := by omega
          have e1 : l.toNat = 0 := by omega
          have e2 : hh.toNat = 0 := by omega
          rw [e1, e2] at hb
          simp [RS.val, RS.cut, Instr.sliceAt, run_underlying hu, Instr.slice, hb, sizeOf, typeInfo, hi, hcs]
        | mk b lo len cap =>
          simp only [RS.cap, RS.len] at h3 hb
          by_cases e1 : m = l.toNat
          · subst e1
            simp [RS.val, RS.cut, Instr.sliceAt, run_underlying hu, Instr.slice, hb, sizeOf, typeInfo, hi, hcs]
          · simp [RS.val, RS.cut, Instr.sliceAt, run_underlying hu, Instr.slice, hb, sizeOf, typeInfo, hi, hcs, e1, Addr.add_lit, Nat.add_mul]
      split at h
      · obtain ⟨⟨h0, h1, h2⟩, h⟩ := h
        have hmn : vmx = none := by cases vmx with | none => rfl | some _ => exact hmx.elim
        subst hmn
        have hb := run_sliceBounds (P := P) (w := w) (isS := true) (len := x.len) (cap := x.cap) (optInt_of hol hlo) (optInt_of hoh hhi) h0 h1 h2
        exact ⟨_, fin x.cap (by omega) (by omega) (Nat.le_refl _) hb, After.pure st h rfl (lt_of_nm rfl)⟩
      · rename_i mv
        split at h
        · rename_i hv0 m hom
          obtain ⟨⟨h0, h1, h1', h2⟩, h⟩ := h
          rcases optInt_of hom hmx with ⟨hn, _⟩ | ⟨km, rfl⟩
          · subst hn; exact hmx.elim
          · rcases optInt_of hoh hhi with ⟨hn, hlen⟩ | ⟨kh, rfl⟩
            · subst hn; exact hhi.elim
            · have hb := run_sliceBounds3 (P := P) (w := w) (isS := true) (len := x.len) (cap := x.cap) (km := km) (optInt_of hol hlo) ⟨kh, rfl⟩ h0 h1 h1' h2
              exact ⟨_, fin m.toNat (by omega) (by omega) (by omega) hb, After.pure st h rfl (lt_of_nm rfl)⟩
        · exact h.elim
    · exact h.elim
  · exact h.elim
end Go.Proofs.YtndlpbheifalhaaGreatDoor.E
