/- Text 4 of 13 texts that prove the statement of Vx; it holds without conditions beyond the statement's own. -/
import Derived.Laws.AppendOwn
import Derived.Laws.OwnMore
import Derived.Deep.MidRow
import Derived.Calls
import Derived.Deep.AppendSrc
import Derived.Maps.AppendAt
import Derived.IntWalk
import Derived.Tactics
import Derived.Laws.StructEq
import Derived.Test.YtndlpbheifalhaaGreatDoorKM2
namespace Go.Proofs.YtndlpbheifalhaaGreatDoor
end Go.Proofs.YtndlpbheifalhaaGreatDoor
namespace Go.Proofs.YtndlpbheifalhaaGreatDoor.E
end Go.Proofs.YtndlpbheifalhaaGreatDoor.E
namespace Go.Proofs.YtndlpbheifalhaaGreatDoor.T
end Go.Proofs.YtndlpbheifalhaaGreatDoor.T
namespace Go.Proofs.YtndlpbheifalhaaGreatDoor.TwireMany
end Go.Proofs.YtndlpbheifalhaaGreatDoor.TwireMany
namespace Go.Proofs.YtndlpbheifalhaaGreatDoor.V
end Go.Proofs.YtndlpbheifalhaaGreatDoor.V
section
namespace Go.Proofs.YtndlpbheifalhaaGreatDoor.E
set_option linter.unusedVariables false
set_option linter.unusedSimpArgs false
variable {K : Kinds} {P : Program} {S : Nat → Prop} {w0 w : World} {r : Nat → Ref} {H : VH K}
def cutC (xs : List C) (off n : Nat) : List C := (xs.drop off).take n
def eqFs (P : Program) (rec : TypeId → List C → List C → Option Bool) (xs ys : List C) : List Field → Option Bool
  | [] => some true
  | f :: fs => match f.name == "_" with
    | true => eqFs P rec xs ys fs
    | false => match P.info? f.type with
      | some inf => match rec f.type (cutC xs f.offset inf.size) (cutC ys f.offset inf.size), eqFs P rec xs ys fs with
        | some a, some b => some (a && b)
        | _, _ => none
      | none => none
def eqEs (rec : List C → List C → Option Bool) (size : Nat) (xs ys : List C) : List Nat → Option Bool
  | [] => some true
  | i :: is => match rec (cutC xs (i * size) size) (cutC ys (i * size) size), eqEs rec size xs ys is with
    | some a, some b => some (a && b)
    | _, _ => none
theorem bytes_beq (a b : ByteArray) : (a.toList == b.toList) = decide (a.data = b.data) := by
  have h : a.toList = b.toList ↔ a.data = b.data := by
    rw [ByteArray.toList_eq, ByteArray.toList_eq]
    exact ⟨fun h => Array.ext' h, fun h => by rw [h]⟩
  by_cases h' : a.data = b.data
  · simp [h', h.2 h']
  · have : ¬ a.toList = b.toList := fun e => h' (h.1 e)
    simp [h', this]
def evEq (P : Program) : Nat → TypeId → List C → List C → Option Bool
  | 0, _, _, _ => none
  | d + 1, T, xs, ys => match P.underlying T with
    | some (.int _) => match xs, ys with
      | [.int k a], [.int k' b] => match decide (k = k') with
        | true => some (decide (a = b))
        | false => none
      | _, _ => none
    | some .bool => match xs, ys with
      | [.bool a], [.bool b] => some (a == b)
      | _, _ => none
    | some .string => match xs, ys with
      | [.str a], [.str b] => some (decide (a.data = b.data))
      | _, _ => none
    | some (.struct fs) => match P.stoodInHeld T with
      | true => none
      | false => eqFs P (evEq P d) xs ys fs.toList
    | some (.array n e) => match P.info? e with
      | some inf => eqEs (evEq P d e) inf.size xs ys (List.range n)
      | none => none
    | _ => none
/-- A value of a type, told by its cells. -/
def IsVal (P : Program) (T : TypeId) (v : Value) (vs : List Value) : Prop :=
  match P.underlying T with
  | some d => if isRowB d then v = .agg vs.toArray else vs = [v]
  | none => False
theorem part_val {T : TypeId} {inf : TypeInfo} (hi : P.info? T = some inf) {d : TypeDesc} (hu : P.underlying T = some d) {vs : List Value} {off : Nat} {xs : List C} (hr : Rel r xs vs) (hne : isRowB d = false → (cutC xs off inf.size).length = 1) :
    ∃ v, (part T vs.toArray off).run P w = .ok v w ∧ IsVal P T v ((vs.drop off).take inf.size) := by
  cases hrow : isRowB d with
  | true =>
    have hagg : (isAgg T).run P w = .ok true w := by
      unfold isAgg; rw [Sem.run_bind, run_underlying hu w]; cases d <;> simp_all [isRowB]
    refine ⟨.agg ((vs.drop off).take inf.size).toArray, ?_, by simp [IsVal, hu, hrow]⟩
    simp [part, hagg, sizeOf, typeInfo, hi, List.drop_take]
  | false =>
    have hagg : (isAgg T).run P w = .ok false w := by
      unfold isAgg; rw [Sem.run_bind, run_underlying hu w]; cases d <;> simp_all [isRowB]
    have hl := hne hrow
    have hl2 : ((vs.drop off).take inf.size).length = 1 := by rw [((hr.drop off).take inf.size).length]; exact hl
    match hh : (vs.drop off).take inf.size, hl2 with
    | [v], _ =>
      have hv : vs[off]? = some v := by
        have : ((vs.drop off).take inf.size)[0]? = some v := by rw [hh]; rfl
        rw [List.getElem?_take] at this
        split at this
        · rw [List.getElem?_drop] at this; simpa using this
        · cases this
      exact ⟨v, by simp [part, hagg, hv], by simp [IsVal, hu, hrow]⟩
theorem evEq_scalar {d : Nat} {T : TypeId} {xs ys : List C} {b : Bool} (h : evEq P d T xs ys = some b) {dd : TypeDesc} (hu : P.underlying T = some dd) (hrow : isRowB dd = false) : xs.length = 1 ∧ ys.length = 1 := by
  cases d with
  | zero => simp [evEq] at h
  | succ d =>
    simp only [evEq, hu] at h
    cases dd <;> simp_all [isRowB] <;> (split at h <;> first | exact ⟨rfl, rfl⟩ | cases h)
theorem evEq_sound : ∀ (d e : Nat) (T : TypeId) (xs ys : List C) (vs us : List Value) (v u : Value) (b : Bool), evEq P d T xs ys = some b → Rel r xs vs → Rel r ys us → IsVal P T v vs → IsVal P T u us → (Op.equalIn (d + e) T v u).run P w = .ok b w
  | 0, e, T, xs, ys, vs, us, v, u, b, h, _, _, _, _ => by simp [evEq] at h
  | d + 1, e, T, xs, ys, vs, us, v, u, b, h, hx, hy, hv, hu => by
    rw [show d + 1 + e = d + e + 1 by omega]
    simp only [evEq] at h
    split at h
    · rename_i k0 hT
      simp only [IsVal, hT, isRowB, Bool.false_eq_true, if_false] at hv hu
      split at h
      · rename_i k a k' b'
        split at h
        · rename_i hkk
          have := of_decide_eq_true hkk
          subst this hv hu
          injection h with h
          have h1 : v = .int k a := hx.1
          have h2 : u = .int k b' := hy.1
          subst h1 h2
          rw [run_equalIn_int w (d + e) T k k0 a b' hT, ← h]
          rfl
        · cases h
      · cases h
    · rename_i hT
      simp only [IsVal, hT, isRowB, Bool.false_eq_true, if_false] at hv hu
      split at h
      · injection h with h
        subst hv hu
        have h1 := hx.1
        have h2 := hy.1
        simp only [C.is, C.plain] at h1 h2
        subst h1 h2
        rw [run_equalIn_bool' w (d + e) T _ _ hT, h]
      · cases h
    · rename_i hT
      simp only [IsVal, hT, isRowB, Bool.false_eq_true, if_false] at hv hu
      split at h
      · injection h with h
        subst hv hu
        have h1 := hx.1
        have h2 := hy.1
        simp only [C.is, C.plain] at h1 h2
        subst h1 h2
        rw [run_equalIn_string w (d + e) T _ _ hT, bytes_beq, h]
      · cases h
    · rename_i fs hT
      simp only [IsVal, hT, isRowB, if_true] at hv hu
      subst hv hu
      split at h
      · cases h
      · rename_i hp
        have hfo : P.fieldsOf T = fs := by simp [Program.fieldsOf, hT]
        rw [run_equalIn_struct w (d + e) T vs.toArray us.toArray (by rw [hfo]; exact hT) hp, hfo]
        have key : ∀ (l : List Field) (b : Bool), eqFs P (evEq P d) xs ys l = some b → (Op.eqFields (d + e) vs.toArray us.toArray l).run P w = .ok b w := by
          intro l
          induction l with
          | nil => intro b h; simp only [eqFs, Option.some.injEq] at h; subst h; simp [Op.eqFields]
          | cons f l ih =>
            intro b h
            simp only [eqFs] at h
            split at h
            · rename_i hn
              have hn' : f.name = "_" := by simpa using hn
              simp only [Op.eqFields, hn', ne_eq, not_true, if_false]
              exact ih b h
            · rename_i hn
              have hn' : f.name ≠ "_" := by simpa using hn
              split at h
              · rename_i inf hi
                split at h
                · rename_i b1 b2 h1 h2
                  injection h with h
                  cases hd : P.underlying f.type with
                  | none =>
                    cases d with
                    | zero => simp [evEq] at h1
                    | succ d => simp [evEq, hd] at h1
                  | some dd =>
                    obtain ⟨v1, hr1, hv1⟩ := part_val (P := P) (w := w) hi hd hx (off := f.offset) (fun hrow => (evEq_scalar h1 hd hrow).1)
                    obtain ⟨u1, hr2, hu1⟩ := part_val (P := P) (w := w) hi hd hy (off := f.offset) (fun hrow => (evEq_scalar h1 hd hrow).2)
                    have hrun := evEq_sound d e f.type _ _ _ _ v1 u1 b1 h1 ((hx.drop f.offset).take inf.size) ((hy.drop f.offset).take inf.size) hv1 hu1
                    simp only [Op.eqFields, hn', ne_eq, not_false_eq_true, if_true, Sem.run_bind, hr1, hr2, Result.andThen_ok, hrun]
                    cases b1
                    · simp at h; subst h; simp
                    · simp at h; subst h
                      simp only [Bool.not_true, Bool.false_eq_true, if_false]
                      exact ih b2 h2
                · cases h
              · cases h
        exact key fs.toList b h
    · rename_i n el hT
      simp only [IsVal, hT, isRowB, if_true] at hv hu
      subst hv hu
      split at h
      · rename_i inf hi
        have hsz : (Go.sizeOf el).run P w = .ok inf.size w := by simp [Go.sizeOf, typeInfo, hi]
        simp only [Op.equalIn, Sem.run_bind, run_underlying hT, Result.andThen_ok, hsz]
        have key : ∀ (l : List Nat) (b : Bool), eqEs (evEq P d el) inf.size xs ys l = some b →
            (forIn l ((none, ()) : Option Bool × Unit) fun i (__s : Option Bool × Unit) => (do
              let a ← part el vs.toArray (i * inf.size)
              let c ← part el us.toArray (i * inf.size)
              let q ← Op.equalIn (d + e) el a c
              if (!q) = true then pure (ForInStep.done (some false, ())) else pure (ForInStep.yield (none, ())) : Sem (ForInStep (Option Bool × Unit)))).run P w = .ok (if b then (none, ()) else (some false, ())) w := by
          intro l
          induction l with
          | nil => intro b h; simp only [eqEs, Option.some.injEq] at h; subst h; simp
          | cons i l ih =>
            intro b h
            simp only [eqEs] at h
            split at h
            · rename_i b1 b2 h1 h2
              injection h with h
              cases hd : P.underlying el with
              | none =>
                cases d with
                | zero => simp [evEq] at h1
                | succ d => simp [evEq, hd] at h1
              | some dd =>
                obtain ⟨v1, hr1, hv1⟩ := part_val (P := P) (w := w) hi hd hx (off := i * inf.size) (fun hrow => (evEq_scalar h1 hd hrow).1)
                obtain ⟨u1, hr2, hu1⟩ := part_val (P := P) (w := w) hi hd hy (off := i * inf.size) (fun hrow => (evEq_scalar h1 hd hrow).2)
                have hrun := evEq_sound d e el _ _ _ _ v1 u1 b1 h1 ((hx.drop (i * inf.size)).take inf.size) ((hy.drop (i * inf.size)).take inf.size) hv1 hu1
                simp only [List.forIn_cons, Sem.run_bind, hr1, hr2, Result.andThen_ok, hrun]
                cases b1
                · simp at h; subst h; simp
                · simp at h; subst h
                  simp only [Bool.not_true, Bool.false_eq_true, if_false, Sem.run_pure, Result.andThen_ok]
                  exact ih b2 h2
            · cases h
        have hk := key (List.range n) b h
        simp only [Std.Legacy.Range.forIn_eq_forIn_range', Std.Legacy.Range.size, Nat.sub_zero, Nat.add_sub_cancel, Nat.div_one]
        rw [show List.range' 0 n = List.range n from (List.range_eq_range' ..).symm]
        rw [hk]
        cases b <;> simp
      · cases h
    · cases h
def evAgg (P : Program) (op : BinOp) (T : TypeId) (l l' : List C) (f : VV → Prop) : Prop :=
  match P.eqGuardType P.depth T, evEq P 100 T l l', op with
  | false, some b, .eql => ite2 b (f (.c (.bool true))) (f (.c (.bool false)))
  | false, some b, .neq => ite2 b (f (.c (.bool false))) (f (.c (.bool true)))
  | _, _, _ => False
theorem evAgg_sound (st : HeapOK S w0 r H w) {op : BinOp} {T : TypeId} {l l' : List C} {ox oy : Operand} {k : VV → VH K → Prop} (h : evAgg P op T l l' fun v => k v H) {v u : Value} (hx : (VV.agg l).is r v) (hy : (VV.agg l').is r u) (hT : ∃ d, P.underlying T = some d ∧ isRowB d = true) :
    ∃ v', (do eqGuard op T ox oy v u; binOp op T v u : Sem Value).run P w = .ok v' w ∧ After S w0 r H k v' w := by
  obtain ⟨vs, rfl, hr⟩ := hx
  obtain ⟨us, rfl, hr'⟩ := hy
  obtain ⟨d, hd, hrow⟩ := hT
  unfold evAgg at h
  split at h
  · rename_i b hg he
    have hrun := evEq_sound (w := w) 100 9900 T l l' vs us (.agg vs.toArray) (.agg us.toArray) b he hr hr' (by simp [IsVal, hd, hrow]) (by simp [IsVal, hd, hrow])
    have hrun' : (Op.equal T (.agg vs.toArray) (.agg us.toArray)).run P w = .ok b w := hrun
    refine done st (c := .bool b) rfl (by rcases ite2_of h with ⟨rfl, h⟩ | ⟨rfl, h⟩ <;> exact h) ?_
    simp [eqGuard, binOp, hg, hrun', C.plain]
  · rename_i b hg he
    have hrun := evEq_sound (w := w) 100 9900 T l l' vs us (.agg vs.toArray) (.agg us.toArray) b he hr hr' (by simp [IsVal, hd, hrow]) (by simp [IsVal, hd, hrow])
    have hrun' : (Op.equal T (.agg vs.toArray) (.agg us.toArray)).run P w = .ok b w := hrun
    refine done st (c := .bool (!b)) rfl (by rcases ite2_of h with ⟨rfl, h⟩ | ⟨rfl, h⟩ <;> exact h) ?_
    simp [eqGuard, binOp, hg, hrun', C.plain]
  · exact h.elim
theorem firstCells_str (s : ByteArray) (m : Nat) (w : World) (hm : m ≤ s.size) : (Builtin.firstCells 1 m (.string s)).run P w = .ok ((byteCells s).take m).toArray w := by
  simp only [Builtin.firstCells, byteCells]
  have : (s.extract 0 m).data.map (fun b => Value.int .u8 b.toNat) = ((s.data.toList.map fun b => Value.int .u8 (b.toNat : Int)).take m).toArray := by
    apply Array.ext'
    simp [ByteArray.data_extract, List.map_take]
  rw [this]; rfl
theorem srcK_first (hK : K.Ok) (st : HeapOK S w0 r H w) {tx : TypeId} {x : VV} {kd : K.Kd} {f : List (K.α kd) → Prop} (h : srcK P tx x H kd f) {v : Value} (hx : x.is r v) :
    ∃ ys, f ys ∧ (Builtin.lenOf v).run P w = .ok ys.length w ∧ ∀ m, m ≤ ys.length → (Builtin.firstCells (K.size kd) m v).run P w = .ok ((flat kd (ys.take m)).map C.plain).toArray w := by
  unfold srcK at h
  split at h
  · simp only [VV.is, V1.is, C.is, C.plain] at hx
    subst hx
    refine ⟨[], h, rfl, fun m hm => ?_⟩
    simp [Builtin.firstCells, flat]
  · rename_i e m lo len cap hu
    split at h
    · rename_i kd' xs ha
      obtain ⟨⟨hle, hcap⟩, h⟩ := h
      split at h
      · rename_i e _
        subst e
        simp only [castK_rfl] at h
        have hok := st.ok m
        have hlen : ((xs.drop lo).take len).length = len := by simp; omega
        refine ⟨_, h, ?_, fun q hq => ?_⟩
        · obtain ⟨a, rfl, _⟩ := hx
          rw [hlen]; rfl
        · rw [hlen] at hq
          rcases Nat.eq_zero_or_pos q with h0 | hpos
          · subst h0
            obtain ⟨a, rfl, _⟩ := hx
            cases a with
            | none => simp [Builtin.firstCells, flat]
            | some a => simpa [flat] using run_firstCells_some (P := P) w (K.size kd') 0 a len (cap.getD ((r m).cap - lo)) [] (by simp) (by simp)
          · obtain ⟨hnl, rfl⟩ := slc_addr hK hx ha hok hle hcap (by omega)
            have hl2 : (((xs.drop lo).take len).take q) = (xs.drop lo).take q := by rw [List.take_take]; congr 1; omega
            rw [hl2]
            exact run_firstCells_some (P := P) w (K.size kd') q _ len _ _ (by rw [List.length_map, flat_length hK, List.length_take, List.length_drop, show min q (xs.length - lo) = q by omega]) (lst_cells hK ha hok lo q (by omega) hpos)
      · exact h.elim
    · exact h.elim
  · rename_i e e' sz x hu
    obtain ⟨hg, h'⟩ := guardP_iff.1 h
    clear h
    simp only [beq_iff_eq] at hg
    subst hg
    obtain ⟨n, φ, hn, ys, hys, hf⟩ := anyBag_at h'
    simp only [VV.is, V1.is, C.is, C.plain] at hx
    subst hx
    refine ⟨ys, hf, ?_⟩
    cases x with
    | nil =>
      simp only [RS.row] at hys; injection hys with hys; subst hys
      exact ⟨rfl, fun m hm => by simp [RS.val, Builtin.firstCells, flat]⟩
    | mk b lo len cap =>
      obtain ⟨c, xs, hφ, h1, h2, h3, rfl⟩ := RS.row_mk hys
      have hok := st.ok n
      rw [hn] at hok
      have hrow := rowOk (r := fun _ => (⟨b, K.size kd, c, false, 0⟩ : Ref)) (hok b _ hφ)
      have hlen : ((xs.drop lo).take len).length = len := by simp; omega
      refine ⟨by rw [hlen]; rfl, fun q hq => ?_⟩
      rw [hlen] at hq
      have hl2 : (((xs.drop lo).take len).take q) = (xs.drop lo).take q := by rw [List.take_take]; congr 1; omega
      rw [hl2]
      rcases Nat.eq_zero_or_pos q with h0 | hpos
      · subst h0
        simpa [flat, RS.val] using run_firstCells_some (P := P) w (K.size kd) 0 ⟨b, lo * K.size kd, none⟩ len cap [] (by simp) (by simp)
      · exact run_firstCells_some (P := P) w (K.size kd) q (⟨b, lo * K.size kd, none⟩ : Addr) len cap _ (by rw [List.length_map, flat_length hK, List.length_take, List.length_drop, show min q (xs.length - lo) = q by omega]) (by simpa using lst_cells hK (a := .arr kd xs) rfl hrow lo q (by omega) hpos)
  · rename_i s hu
    obtain ⟨hg, ys, hfl, hf⟩ := guardP_iff.1 h
    simp only [beq_iff_eq] at hg
    simp only [VV.is, V1.is, C.is, C.plain] at hx
    subst hx
    have hl : ys.length = s.size := by
      have h1 := flat_length hK kd ys
      rw [hfl, strC_length, hg] at h1
      omega
    refine ⟨ys, hf, by rw [hl]; rfl, fun m hm => ?_⟩
    rw [flat_take hK, List.map_take, hfl, strC_plain, hg, Nat.mul_one]
    exact firstCells_str s m w (by omega)
  · exact h.elim
def over {α : Type} (xs : List α) (lo : Nat) (zs : List α) : List α := xs.take lo ++ zs ++ xs.drop (lo + zs.length)
def evCopy (P : Program) (t tx : TypeId) (d x : VV) (H : VH K) (k : VV → VH K → Prop) : Prop :=
  match P.underlying t, d with
  | some (.slice e), .one (.c (.slc n lo len cap)) => match P.info? e, at_ H n with
    | some ie, .arr kd xs => guardP (ie.size == K.size kd) ((lo + len ≤ xs.length ∧ capLe len cap) ∧ srcK P tx x H kd fun ys =>
        k (.c (.int .i64 (min ys.length len : Nat))) (H.set n (.arr kd (over xs lo (ys.take (min ys.length len))))))
    | _, _ => False
  | _, _ => False
theorem HeapOK.setArr (hK : K.Ok) (st : HeapOK S w0 r H w) {n : Nat} {kd : K.Kd} {xs xs' : List (K.α kd)} (ha : at_ H n = .arr kd xs) (hl : xs'.length = xs.length) (hnl : (r n).nl = false) {cur' : Array Value}
    (hcur : ∀ cur : Array Value, w.heap[(r n).blk]? = some (.cells cur (K.elem kd) (0, 0)) → cur.toList.take (xs.length * K.size kd) = (flat kd xs).map C.plain → cur.size = (r n).cap * K.size kd → cur'.size = cur.size ∧ cur'.toList.take (xs.length * K.size kd) = (flat kd xs').map C.plain) :
    HeapOK S w0 r (H.set n (.arr kd xs')) (w.setRow (r n).blk cur') := by
  have hok := st.ok n
  rw [ha] at hok
  obtain ⟨⟨hsz, hoff⟩, hnc, ho⟩ := hok
  rw [val_of hnl] at ho
  have hn : n < H.length := at_lt (by rw [ha]; simp)
  obtain ⟨hl0, hoo⟩ := ho
  rcases hoo with ⟨h', _⟩ | ⟨g, cap, cur, h', hb, hgp, hnc', hcm, hcs', htake⟩
  · simp at h'
  · simp only [Value.slice.injEq, Option.some.injEq, Addr.mk.injEq, and_true, true_and] at h'
    obtain ⟨hgb, hcap⟩ := h'
    subst hgb
    obtain ⟨hc1, hc2⟩ := hcur cur hgp htake (by rw [hcap]; exact hcs')
    refine st.evolve (fun m => m = n) (RoKeep.set hn rfl) (by simp) (fun _ _ => rfl) (fun m _ hm => by rw [at_set hn, if_neg hm]) rfl rfl rfl (by simp) (fun b hb' hne => ?_) (fun m hm hmt => ?_) (fun m b hmt hb' => ?_) (fun m m' b hne hm hm' hb' => ?_)
    · exact setRow_other w _ b _ (fun e => hne n rfl (by simp [blkOf, ha, Atom.has, e, hnl]))
    · have hmn : m = n := hmt.resolve_right (by simp at hm; omega)
      subst hmn
      rw [at_set hn, if_pos rfl]
      refine ⟨⟨⟨hsz, hoff⟩, hnc, ?_⟩, trivial⟩
      rw [val_of hnl]
      refine ⟨by rw [List.length_map, flat_length hK], .inr ⟨(r m).blk, cap, cur', by rw [hcap], Nat.zero_le _, setRow_heap w _ _ _ (K.elem kd) _ hgp, by rw [hl]; exact hnc', hcm, by rw [hc1]; exact hcs', by rw [hl]; exact hc2⟩⟩
    · rcases hmt with rfl | hge
      · refine .inl ⟨m, rfl, ?_⟩
        simp only [blkOf, at_set hn, if_true, Atom.has] at hb'
        simp only [blkOf, ha, Atom.has]; exact hb'
      · simp [blkOf, at_ge (H := H.set n _) (by simpa using hge), Atom.has] at hb'
    · rcases hm with rfl | hge
      · rcases hm' with rfl | hge'
        · exact absurd rfl hne
        · simp [blkOf, at_ge (H := H.set m _) (by simpa using hge'), Atom.has]
      · simp [blkOf, at_ge (H := H.set n _) (by simpa using hge), Atom.has] at hb'
theorem evCopy_sound (hK : K.Ok) (st : HeapOK S w0 r H w) {t tx ty : TypeId} {d x : VV} {k : VV → VH K → Prop} (h : evCopy P t tx d x H k) {v u : Value} (hd : d.is r v) (hx : x.is r u) :
    ∃ v' w', (Builtin.copy_ #[t, tx] ty #[v, u]).run P w = .ok v' w' ∧ After S w0 r H k v' w' := by
  unfold evCopy at h
  split at h
  · rename_i e n lo len cap hu
    split at h
    · rename_i ie kd xs hi ha
      obtain ⟨hg, ⟨hle, hcap⟩, h⟩ := guardP_iff.1 h
      have hg' : ie.size = K.size kd := by simpa using hg
      obtain ⟨ys, hk, hlen, hfirst⟩ := srcK_first hK st h hx
      have hok := st.ok n
      rw [ha] at hok
      have hfc := hfirst (min ys.length len) (Nat.min_le_left _ _)
      rcases Nat.eq_zero_or_pos len with h0 | hpos
      · subst h0
        obtain ⟨a, rfl, _⟩ := hd
        simp only [Nat.min_zero, List.take_zero] at hk hfc
        have hsame : H.set n (.arr kd (over xs lo [])) = H := by
          have : over xs lo [] = xs := by simp [over]
          rw [this]
          apply List.ext_getElem?
          intro m
          rw [List.getElem?_set]
          by_cases e : n = m
          · subst e
            have hn : n < H.length := at_lt (by rw [ha]; simp)
            have h1 : at_ H n = H[n] := by simp [at_, List.getD_eq_getElem?_getD, hn]
            rw [ha] at h1
            simp [hn, ← h1]
          · rw [if_neg e]
        rw [hsame] at hk
        refine ⟨.int .i64 0, w, ?_, After.pure st hk rfl (lt_of_nm rfl)⟩
        have hf0 : (Builtin.firstCells ie.size 0 u).run P w = .ok #[] w := by rw [hg']; simpa [flat] using hfc
        cases a with
        | none => simp [Builtin.copy_, run_underlying hu, hlen, sizeOf, typeInfo, hi, hf0, goInt]
        | some a => simp [Builtin.copy_, run_underlying hu, hlen, sizeOf, typeInfo, hi, hf0, goInt, storeCells]
      · obtain ⟨hnl, rfl⟩ := slc_addr hK hd (a := .arr kd xs) rfl hok hle hcap hpos
        obtain ⟨⟨hsz, hoff⟩, hnc, ho⟩ := hok
        rw [hoff, Nat.zero_add]
        rw [val_of hnl] at ho
        have hn : n < H.length := at_lt (by rw [ha]; simp)
        obtain ⟨hl0, hoo⟩ := ho
        rcases hoo with ⟨h', _⟩ | ⟨g, cp, cur, h', hb, hgp, hnc', hcm, hcs', htake⟩
        · simp at h'
        · simp only [Value.slice.injEq, Option.some.injEq, Addr.mk.injEq, and_true, true_and] at h'
          obtain ⟨hgb, hcapp⟩ := h'
          subst hgb
          have hml : (ys.take (min ys.length len)).length = min ys.length len := by simp
          have hfit : lo * K.size kd + min ys.length len * K.size kd ≤ xs.length * K.size kd := by
            rw [← Nat.add_mul]; exact Nat.mul_le_mul_right _ (by omega)
          have hcurl : xs.length * K.size kd ≤ cur.size := by rw [hcs']; exact Nat.mul_le_mul_right _ hnc'
          have hzl : ((flat kd (ys.take (min ys.length len))).map C.plain).length = min ys.length len * K.size kd := by rw [List.length_map, flat_length hK, hml]
          have hst := run_storeCells_at P (r n).blk (lo * (r n).sz) (K.elem kd) ((flat kd (ys.take (min ys.length len))).map C.plain) 0 cur w hgp (by rw [hzl, hsz]; omega)
            (fun v hv => by obtain ⟨c, hc, rfl⟩ := List.mem_map.1 hv; have := flat_one hK kd _ c hc; exact C.plain_one this)
          refine ⟨.int .i64 (min ys.length len : Nat), w.setRow (r n).blk (cur.toList.take (lo * (r n).sz + 0) ++ (flat kd (ys.take (min ys.length len))).map C.plain ++ cur.toList.drop (lo * (r n).sz + 0 + ((flat kd (ys.take (min ys.length len))).map C.plain).length)).toArray, ?_, ?_⟩
          · rw [← hg'] at hfc
            simp only [Builtin.copy_]
            simp [run_underlying hu, hlen, sizeOf, typeInfo, hi, goInt]
            rw [show ys.length.min len = min ys.length len from rfl, hfc]
            simp [hst]
          · refine ⟨r, _, _, hk, rfl, lt_of_nm rfl, by simp, fun _ _ => rfl, RoKeep.set hn rfl, ?_⟩
            refine st.setArr hK ha (by simp only [over, List.length_append, List.length_take, List.length_drop]; omega) hnl fun cur2 h2 h3 h4 => ?_
            rw [hgp] at h2
            injection h2 with h2
            injection h2 with h2
            subst h2
            refine ⟨by simp only [List.size_toArray, List.length_append, List.length_take, List.length_drop, Array.length_toList, hzl, hsz, Nat.add_zero]; try omega, ?_⟩
            have hq := take_mid cur.toList ((flat kd xs).map C.plain) ((flat kd (ys.take (min ys.length len))).map C.plain) (lo * K.size kd) (by rw [List.length_map, flat_length hK]; exact htake) (by rw [hzl, List.length_map, flat_length hK]; exact hfit)
            rw [List.length_map, flat_length hK] at hq
            simp only [hsz, Nat.add_zero]
            rw [hq, hzl]
            simp only [over, hml, flat_append, flat_take hK, flat_drop hK, List.map_append, List.map_take, List.map_drop, Nat.add_mul]
    · exact h.elim
  · exact h.elim
end Go.Proofs.YtndlpbheifalhaaGreatDoor.E
end
