/- Text 4 of 26 texts that prove the statement of RowParses; it holds without conditions beyond the statement's own. -/
import Derived.Laws.AppendOwn
import Derived.Laws.OwnMore
import Derived.Deep.MidRow
import Derived.Calls
import Derived.Deep.AppendSrc
import Derived.Maps.AppendAt
import Derived.IntWalk
import Derived.Tactics
import Derived.Laws.StructEq
import Derived.Test.YtoidibkcdkdneaaGreatDoorKP2
namespace Foot
end Foot
namespace Go.Proofs
end Go.Proofs
namespace Go.Proofs.YtoidibkcdkdneaaGreatDoor
end Go.Proofs.YtoidibkcdkdneaaGreatDoor
namespace Go.Proofs.YtoidibkcdkdneaaGreatDoor.E
end Go.Proofs.YtoidibkcdkdneaaGreatDoor.E
namespace Go.Proofs.YtoidibkcdkdneaaGreatDoor.Hand
end Go.Proofs.YtoidibkcdkdneaaGreatDoor.Hand
namespace Go.Proofs.YtoidibkcdkdneaaGreatDoor.MPat
end Go.Proofs.YtoidibkcdkdneaaGreatDoor.MPat
namespace Go.Proofs.YtoidibkcdkdneaaGreatDoor.MStr
end Go.Proofs.YtoidibkcdkdneaaGreatDoor.MStr
namespace Go.Proofs.YtoidibkcdkdneaaGreatDoor.PRead
end Go.Proofs.YtoidibkcdkdneaaGreatDoor.PRead
namespace Go.Proofs.YtoidibkcdkdneaaGreatDoor.PSplit
end Go.Proofs.YtoidibkcdkdneaaGreatDoor.PSplit
namespace Go.Proofs.YtoidibkcdkdneaaGreatDoor.R
end Go.Proofs.YtoidibkcdkdneaaGreatDoor.R
namespace Go.Proofs.YtoidibkcdkdneaaGreatDoor.T
end Go.Proofs.YtoidibkcdkdneaaGreatDoor.T
namespace Go.Proofs.YtoidibkcdkdneaaGreatDoor.TR
end Go.Proofs.YtoidibkcdkdneaaGreatDoor.TR
namespace Go.Proofs.YtoidibkcdkdneaaGreatDoor.TrulesParses
end Go.Proofs.YtoidibkcdkdneaaGreatDoor.TrulesParses
namespace Go.Proofs.YtoidibkcdkdneaaGreatDoorW.PrintLast
end Go.Proofs.YtoidibkcdkdneaaGreatDoorW.PrintLast
namespace Go.Proofs.YtoidibkcdkdneaaGreatDoorW.PrintMore
end Go.Proofs.YtoidibkcdkdneaaGreatDoorW.PrintMore
namespace Go.Proofs.YtoidibkcdkdneaaGreatDoorW.PrintWords
end Go.Proofs.YtoidibkcdkdneaaGreatDoorW.PrintWords
namespace Kd
end Kd
section
namespace Go.Proofs.YtoidibkcdkdneaaGreatDoor.E
set_option linter.unusedVariables false
set_option linter.unusedSimpArgs false
variable {K : Kinds} {P : Program} {S : Nat → Prop} {w0 w : World} {r : Nat → Ref} {H : VH K}
def cutC (xs : List C) (off n : Nat) : List C := (xs.drop off).take n
def eqFs (P : Program) (rec : TypeId → List C → List C → Option Bool) (xs ys : List C) : List Field → Option Bool
  | [] => some true
  | f :: fs => match f.name == "_" with
    | true => eqFs P rec xs ys fs
    | false => match P.info? f.type with
      | some inf => match rec f.type (cutC xs f.offset inf.size) (cutC ys f.offset inf.size), eqFs P rec xs ys fs with
        | some a, some b => some (a && b)
        | _, _ => none
      | none => none
def eqEs (rec : List C → List C → Option Bool) (size : Nat) (xs ys : List C) : List Nat → Option Bool
  | [] => some true
  | i :: is => match rec (cutC xs (i * size) size) (cutC ys (i * size) size), eqEs rec size xs ys is with
    | some a, some b => some (a && b)
    | _, _ => none
theorem bytes_beq (a b : ByteArray) : (a.toList == b.toList) = decide (a.data = b.data) := by
  have h : a.toList = b.toList ↔ a.data = b.data := by
    rw [ByteArray.toList_eq, ByteArray.toList_eq]
    exact ⟨fun h => Array.ext' h, fun h => by rw [h]⟩
  by_cases h' : a.data = b.data
  · simp [h', h.2 h']
  · have : ¬ a.toList = b.toList := fun e => h' (h.1 e)
    simp [h', this]
def evEq (P : Program) : Nat → TypeId → List C → List C → Option Bool
  | 0, _, _, _ => none
  | d + 1, T, xs, ys => match P.underlying T with
    | some (.int _) => match xs, ys with
      | [.int k a], [.int k' b] => match decide (k = k') with
        | true => some (decide (a = b))
        | false => none
      | _, _ => none
    | some .bool => match xs, ys with
      | [.bool a], [.bool b] => some (a == b)
      | _, _ => none
    | some .string => match xs, ys with
      | [.str a], [.str b] => some (decide (a.data = b.data))
      | _, _ => none
    | some (.struct fs) => match P.stoodInHeld T with
      | true => none
      | false => eqFs P (evEq P d) xs ys fs.toList
    | some (.array n e) => match P.info? e with
      | some inf => eqEs (evEq P d e) inf.size xs ys (List.range n)
      | none => none
    | _ => none
/-- A value of a type, told by its cells. -/
def IsVal (P : Program) (T : TypeId) (v : Value) (vs : List Value) : Prop :=
  match P.underlying T with
  | some d => if isRowB d then v = .agg vs.toArray else vs = [v]
  | none => False
theorem part_val {T : TypeId} {inf : TypeInfo} (hi : P.info? T = some inf) {d : TypeDesc} (hu : P.underlying T = some d) {vs : List Value} {off : Nat} {xs : List C} (hr : Rel r xs vs) (hne : isRowB d = false → (cutC xs off inf.size).length = 1) :
    ∃ v, (part T vs.toArray off).run P w = .ok v w ∧ IsVal P T v ((vs.drop off).take inf.size) := by
  cases hrow : isRowB d with
  | true =>
    have hagg : (isAgg T).run P w = .ok true w := by
      unfold isAgg; rw [Sem.run_bind, run_underlying hu w]; cases d <;> simp_all [isRowB]
    refine ⟨.agg ((vs.drop off).take inf.size).toArray, ?_, by simp [IsVal, hu, hrow]⟩
    simp [part, hagg, sizeOf, typeInfo, hi, List.drop_take]
  | false =>
    have hagg : (isAgg T).run P w = .ok false w := by
      unfold isAgg; rw [Sem.run_bind, run_underlying hu w]; cases d <;> simp_all [isRowB]
    have hl := hne hrow
    have hl2 : ((vs.drop off).take inf.size).length = 1 := by rw [((hr.drop off).take inf.size).length]; exact hl
    match hh : (vs.drop off).take inf.size, hl2 with
    | [v], _ =>
      have hv : vs[off]? = some v := by
        have : ((vs.drop off).take inf.size)[0]? = some v := by rw [hh]; rfl
        rw [List.getElem?_take] at this
        split at this
        · rw [List.getElem?_drop] at this; simpa using this
        · cases this
      exact ⟨v, by simp [part, hagg, hv], by simp [IsVal, hu, hrow]⟩
theorem evEq_scalar {d : Nat} {T : TypeId} {xs ys : List C} {b : Bool} (h : evEq P d T xs ys = some b) {dd : TypeDesc} (hu : P.underlying T = some dd) (hrow : isRowB dd = false) : xs.length = 1 ∧ ys.length = 1 := by
  cases d with
  | zero => simp [evEq] at h
  | succ d =>
    simp only [evEq, hu] at h
    cases dd <;> simp_all [isRowB] <;> (split at h <;> first | exact ⟨rfl, rfl⟩ | cases h)
theorem evEq_sound : ∀ (d e : Nat) (T : TypeId) (xs ys : List C) (vs us : List Value) (v u : Value) (b : Bool), evEq P d T xs ys = some b → Rel r xs vs → Rel r ys us → IsVal P T v vs → IsVal P T u us → (Op.equalIn (d + e) T v u).run P w = .ok b w
  | 0, e, T, xs, ys, vs, us, v, u, b, h, _, _, _, _ => by simp [evEq] at h
  | d + 1, e, T, xs, ys, vs, us, v, u, b, h, hx, hy, hv, hu => by
    rw [show d + 1 + e = d + e + 1 by omega]
    simp only [evEq] at h
    split at h
    · rename_i k0 hT
      simp only [IsVal, hT, isRowB, Bool.false_eq_true, if_false] at hv hu
      split at h
      · rename_i k a k' b'
        split at h
        · rename_i hkk
          have := of_decide_eq_true hkk
          subst this hv hu
          injection h with h
          have h1 : v = .int k a := hx.1
          have h2 : u = .int k b' := hy.1
          subst h1 h2
          rw [run_equalIn_int w (d + e) T k k0 a b' hT, ← h]
          rfl
        · cases h
      · cases h
    · rename_i hT
      simp only [IsVal, hT, isRowB, Bool.false_eq_true, if_false] at hv hu
      split at h
      · injection h with h
        subst hv hu
        have h1 := hx.1
        have h2 := hy.1
        simp only [C.is, C.plain] at h1 h2
        subst h1 h2
        rw [run_equalIn_bool' w (d + e) T _ _ hT, h]
      · cases h
    · rename_i hT
      simp only [IsVal, hT, isRowB, Bool.false_eq_true, if_false] at hv hu
      split at h
      · injection h with h
        subst hv hu
        have h1 := hx.1
        have h2 := hy.1
        simp only [C.is, C.plain] at h1 h2
        subst h1 h2
        rw [run_equalIn_string w (d + e) T _ _ hT, bytes_beq, h]
      · cases h
    · rename_i fs hT
      simp only [IsVal, hT, isRowB, if_true] at hv hu
      subst hv hu
      split at h
      · cases h
      · rename_i hp
        have hfo : P.fieldsOf T = fs := by simp [Program.fieldsOf, hT]
        rw [run_equalIn_struct w (d + e) T vs.toArray us.toArray (by rw [hfo]; exact hT) hp, hfo]
        have key : ∀ (l : List Field) (b : Bool), eqFs P (evEq P d) xs ys l = some b → (Op.eqFields (d + e) vs.toArray us.toArray l).run P w = .ok b w := by
          intro l
          induction l with
          | nil => intro b h; simp only [eqFs, Option.some.injEq] at h; subst h; simp [Op.eqFields]
          | cons f l ih =>
            intro b h
            simp only [eqFs] at h
            split at h
            · rename_i hn
              have hn' : f.name = "_" := by simpa using hn
              simp only [Op.eqFields, hn', ne_eq, not_true, if_false]
              exact ih b h
            · rename_i hn
              have hn' : f.name ≠ "_" := by simpa using hn
              split at h
              · rename_i inf hi
                split at h
                · rename_i b1 b2 h1 h2
                  injection h with h
                  cases hd : P.underlying f.type with
                  | none =>
                    cases d with
                    | zero => simp [evEq] at h1
                    | succ d => simp [evEq, hd] at h1
                  | some dd =>
                    obtain ⟨v1, hr1, hv1⟩ := part_val (P := P) (w := w) hi hd hx (off := f.offset) (fun hrow => (evEq_scalar h1 hd hrow).1)
                    obtain ⟨u1, hr2, hu1⟩ := part_val (P := P) (w := w) hi hd hy (off := f.offset) (fun hrow => (evEq_scalar h1 hd hrow).2)
                    have hrun := evEq_sound d e f.type _ _ _ _ v1 u1 b1 h1 ((hx.drop f.offset).take inf.size) ((hy.drop f.offset).take inf.size) hv1 hu1
                    simp only [Op.eqFields, hn', ne_eq, not_false_eq_true, if_true, Sem.run_bind, hr1, hr2, Result.andThen_ok, hrun]
                    cases b1
                    · simp at h; subst h; simp
                    · simp at h; subst h
                      simp only [Bool.not_true, Bool.false_eq_true, if_false]
                      exact ih b2 h2
                · cases h
              · cases h
        exact key fs.toList b h
    · rename_i n el hT
      simp only [IsVal, hT, isRowB, if_true] at hv hu
      subst hv hu
      split at h
      · rename_i inf hi
        have hsz : (Go.sizeOf el).run P w = .ok inf.size w := by simp [Go.sizeOf, typeInfo, hi]
        simp only [Op.equalIn, Sem.run_bind, run_underlying hT, Result.andThen_ok, hsz]
        have key : ∀ (l : List Nat) (b : Bool), eqEs (evEq P d el) inf.size xs ys l = some b →
            (forIn l ((none, ()) : Option Bool × Unit) fun i (__s : Option Bool × Unit) => (do
              let a ← part el vs.toArray (i * inf.size)
              let c ← part el us.toArray (i * inf.size)
              let q ← Op.equalIn (d + e) el a c
              if (!q) = true then pure (ForInStep.done (some false, ())) else pure (ForInStep.yield (none, ())) : Sem (ForInStep (Option Bool × Unit)))).run P w = .ok (if b then (none, ()) else (some false, ())) w := by
          intro l
          induction l with
          | nil => intro b h; simp only [eqEs, Option.some.injEq] at h; subst h; simp
          | cons i l ih =>
            intro b h
            simp only [eqEs] at h
            split at h
            · rename_i b1 b2 h1 h2
              injection h with h
              cases hd : P.underlying el with
              | none =>
                cases d with
                | zero => simp [evEq] at h1
                | succ d => simp [evEq, hd] at h1
              | some dd =>
                obtain ⟨v1, hr1, hv1⟩ := part_val (P := P) (w := w) hi hd hx (off := i * inf.size) (fun hrow => (evEq_scalar h1 hd hrow).1)
                obtain ⟨u1, hr2, hu1⟩ := part_val (P := P) (w := w) hi hd hy (off := i * inf.size) (fun hrow => (evEq_scalar h1 hd hrow).2)
                have hrun := evEq_sound d e el _ _ _ _ v1 u1 b1 h1 ((hx.drop (i * inf.size)).take inf.size) ((hy.drop (i * inf.size)).take inf.size) hv1 hu1
                simp only [List.forIn_cons, Sem.run_bind, hr1, hr2, Result.andThen_ok, hrun]
                cases b1
                · simp at h; subst h; simp
                · simp at h; subst h
                  simp only [Bool.not_true, Bool.false_eq_true, if_false, Sem.run_pure, Result.andThen_ok]
                  exact ih b2 h2
            · cases h
        have hk := key (List.range n) b h
        simp only [Std.Legacy.Range.forIn_eq_forIn_range', Std.Legacy.Range.size, Nat.sub_zero, Nat.add_sub_cancel, Nat.div_one]
        rw [show List.range' 0 n = List.range n from (List.range_eq_range' ..).symm]
        rw [hk]
        cases b <;> simp
      · cases h
    · cases h
def evAgg (P : Program) (op : BinOp) (T : TypeId) (l l' : List C) (f : VV → Prop) : Prop :=
  match P.eqGuardType P.depth T, evEq P 100 T l l', op with
  | false, some b, .eql => ite2 b (f (.c (.bool true))) (f (.c (.bool false)))
  | false, some b, .neq => ite2 b (f (.c (.bool false))) (f (.c (.bool true)))
  | _, _, _ => False
theorem evAgg_sound (st : HeapOK S w0 r H w) {op : BinOp} {T : TypeId} {l l' : List C} {ox oy : Operand} {k : VV → VH K → Prop} (h : evAgg P op T l l' fun v => k v H) {v u : Value} (hx : (VV.agg l).is r v) (hy : (VV.agg l').is r u) (hT : ∃ d, P.underlying T = some d ∧ isRowB d = true) :
    ∃ v', (do eqGuard op T ox oy v u; binOp op T v u : Sem Value).run P w = .ok v' w ∧ After S w0 r H k v' w := by
  obtain ⟨vs, rfl, hr⟩ := hx
  obtain ⟨us, rfl, hr'⟩ := hy
  obtain ⟨d, hd, hrow⟩ := hT
  unfold evAgg at h
  split at h
  · rename_i b hg he
    have hrun := evEq_sound (w := w) 100 9900 T l l' vs us (.agg vs.toArray) (.agg us.toArray) b he hr hr' (by simp [IsVal, hd, hrow]) (by simp [IsVal, hd, hrow])
    have hrun' : (Op.equal T (.agg vs.toArray) (.agg us.toArray)).run P w = .ok b w := hrun
    refine done st (c := .bool b) rfl (by rcases ite2_of h with ⟨rfl, h⟩ | ⟨rfl, h⟩ <;> exact h) ?_
    simp [eqGuard, binOp, hg, hrun', C.plain]
  · rename_i b hg he
    have hrun := evEq_sound (w := w) 100 9900 T l l' vs us (.agg vs.toArray) (.agg us.toArray) b he hr hr' (by simp [IsVal, hd, hrow]) (by simp [IsVal, hd, hrow])
    have hrun' : (Op.equal T (.agg vs.toArray) (.agg us.toArray)).run P w = .ok b w := hrun
    refine done st (c := .bool (!b)) rfl (by rcases ite2_of h with ⟨rfl, h⟩ | ⟨rfl, h⟩ <;> exact h) ?_
    simp [eqGuard, binOp, hg, hrun', C.plain]
  · exact h.elim
theorem firstCells_str (s : ByteArray) (m : Nat) (w : World) (hm : m ≤ s.size) : (Builtin.firstCells 1 m (.string s)).run P w = .ok ((byteCells s).take m).toArray w := by
  simp only [Builtin.firstCells, byteCells]
  have : (s.extract 0 m).data.map (fun b => Value.int .u8 b.toNat) = ((s.data.toList.map fun b => Value.int .u8 (b.toNat : Int)).take m).toArray := by
    apply Array.ext'
    simp [ByteArray.data_extract, List.map_take]
  rw [this]; rfl
theorem srcK_first (hK : K.Ok) (st : HeapOK S w0 r H w) {tx : TypeId} {x : VV} {kd : K.Kd} {f : List (K.α kd) → Prop} (h : srcK P tx x H kd f) {v : Value} (hx : x.is r v) :
    ∃ ys, f ys ∧ (Builtin.lenOf v).run P w = .ok ys.length w ∧ ∀ m, m ≤ ys.length → (Builtin.firstCells (K.size kd) m v).run P w = .ok ((flat kd (ys.take m)).map C.plain).toArray w := by
  unfold srcK at h
  split at h
  · simp only [VV.is, V1.is, C.is, C.plain] at hx
    subst hx
    refine ⟨[], h, rfl, fun m hm => ?_⟩
    simp [Builtin.firstCells, flat]
  · rename_i e m lo len cap hu
    split at h
    · rename_i kd' xs ha
      obtain ⟨⟨hle, hcap⟩, h⟩ := h
      split at h
      · rename_i e _
        subst e
        simp only [castK_rfl] at h
        have hok := st.ok m
        have hlen : ((xs.drop lo).take len).length = len := by simp; omega
        refine ⟨_, h, ?_, fun q hq => ?_⟩
        · obtain ⟨a, rfl, _⟩ := hx
          rw [hlen]; rfl
        · rw [hlen] at hq
          rcases Nat.eq_zero_or_pos q with h0 | hpos
          · subst h0
            obtain ⟨a, rfl, _⟩ := hx
            cases a with
            | none => simp [Builtin.firstCells, flat]
            | some a => simpa [flat] using run_firstCells_some (P := P) w (K.size kd') 0 a len (cap.getD ((r m).cap - lo)) [] (by simp) (by simp)
          · obtain ⟨hnl, rfl⟩ := slc_addr hK hx ha hok hle hcap (by omega)
            have hl2 : (((xs.drop lo).take len).take q) = (xs.drop lo).take q := by rw [List.take_take]; congr 1; omega
            rw [hl2]
            exact run_firstCells_some (P := P) w (K.size kd') q _ len _ _ (by rw [List.length_map, flat_length hK, List.length_take, List.length_drop, show min q (xs.length - lo) = q by omega]) (lst_cells hK ha hok lo q (by omega) hpos)
      · exact h.elim
    · exact h.elim
  · rename_i e e' sz x hu
    obtain ⟨hg, h'⟩ := guardP_iff.1 h
    clear h
    simp only [beq_iff_eq] at hg
    subst hg
    obtain ⟨n, φ, hn, ys, hys, hf⟩ := anyBag_at h'
    simp only [VV.is, V1.is, C.is, C.plain] at hx
    subst hx
    refine ⟨ys, hf, ?_⟩
    cases x with
    | nil =>
      simp only [RS.row] at hys; injection hys with hys; subst hys
      exact ⟨rfl, fun m hm => by simp [RS.val, Builtin.firstCells, flat]⟩
    | mk b lo len cap =>
      obtain ⟨c, xs, hφ, h1, h2, h3, rfl⟩ := RS.row_mk hys
      have hok := st.ok n
      rw [hn] at hok
      have hrow := rowOk (r := fun _ => (⟨b, K.size kd, c, false, 0⟩ : Ref)) (hok b _ hφ)
      have hlen : ((xs.drop lo).take len).length = len := by simp; omega
      refine ⟨by rw [hlen]; rfl, fun q hq => ?_⟩
      rw [hlen] at hq
      have hl2 : (((xs.drop lo).take len).take q) = (xs.drop lo).take q := by rw [List.take_take]; congr 1; omega
      rw [hl2]
      rcases Nat.eq_zero_or_pos q with h0 | hpos
      · subst h0
        simpa [flat, RS.val] using run_firstCells_some (P := P) w (K.size kd) 0 ⟨b, lo * K.size kd, none⟩ len cap [] (by simp) (by simp)
      · exact run_firstCells_some (P := P) w (K.size kd) q (⟨b, lo * K.size kd, none⟩ : Addr) len cap _ (by rw [List.length_map, flat_length hK, List.length_take, List.length_drop, show min q (xs.length - lo) = q by omega]) (by simpa using lst_cells hK (a := .arr kd xs) rfl hrow lo q (by omega) hpos)
  · rename_i s hu
    obtain ⟨hg, ys, hfl, hf⟩ := guardP_iff.1 h
    simp only [beq_iff_eq] at hg
    simp only [VV.is, V1.is, C.is, C.plain] at hx
    subst hx
    have hl : ys.length = s.size := by
      have h1 := flat_length hK kd ys
      rw [hfl, strC_length, hg] at h1
      omega
    refine ⟨ys, hf, by rw [hl]; rfl, fun m hm => ?_⟩
    rw [flat_take hK, List.map_take, hfl, strC_plain, hg, Nat.mul_one]
    exact firstCells_str s m w (by omega)
  · exact h.elim
def over {α : Type} (xs : List α) (lo : Nat) (zs : List α) : List α := xs.take lo ++ zs ++ xs.drop (lo + zs.length)
def evCopy (P : Program) (t tx : TypeId) (d x : VV) (H : VH K) (k : VV → VH K → Prop) : Prop :=
  match P.underlying t, d with
  | some (.slice e), .one (.c (.slc n lo len cap)) => match P.info? e, at_ H n with
    | some ie, .arr kd xs => guardP (ie.size == K.size kd) ((lo + len ≤ xs.length ∧ capLe len cap) ∧ srcK P tx x H kd fun ys =>
        k (.c (.int .i64 (min ys.length len : Nat))) (H.set n (.arr kd (over xs lo (ys.take (min ys.length len))))))
    | _, _ => False
  | _, _ => False
theorem HeapOK.setArr (hK : K.Ok) (st : HeapOK S w0 r H w) {n : Nat} {kd : K.Kd} {xs xs' : List (K.α kd)} (ha : at_ H n = .arr kd xs) (hl : xs'.length = xs.length) (hnl : (r n).nl = false) {cur' : Array Value}
    (hcur : ∀ cur : Array Value, w.heap[(r n).blk]? = some (.cells cur (K.elem kd) (0, 0)) → cur.toList.take (xs.length * K.size kd) = (flat kd xs).map C.plain → cur.size = (r n).cap * K.size kd → cur'.size = cur.size ∧ cur'.toList.take (xs.length * K.size kd) = (flat kd xs').map C.plain) :
    HeapOK S w0 r (H.set n (.arr kd xs')) (w.setRow (r n).blk cur') := by
  have hok := st.ok n
  rw [ha] at hok
  obtain ⟨⟨hsz, hoff⟩, hnc, ho⟩ := hok
  rw [val_of hnl] at ho
  have hn : n < H.length := at_lt (by rw [ha]; simp)
  obtain ⟨hl0, hoo⟩ := ho
  rcases hoo with ⟨h', _⟩ | ⟨g, cap, cur, h', hb, hgp, hnc', hcm, hcs', htake⟩
  · simp at h'
  · simp only [Value.slice.injEq, Option.some.injEq, Addr.mk.injEq, and_true, true_and] at h'
    obtain ⟨hgb, hcap⟩ := h'
    subst hgb
    obtain ⟨hc1, hc2⟩ := hcur cur hgp htake (by rw [hcap]; exact hcs')
    refine st.evolve (fun m => m = n) (RoKeep.set hn rfl) (by simp) (fun _ _ => rfl) (fun m _ hm => by rw [at_set hn, if_neg hm]) rfl rfl rfl (by simp) (fun b hb' hne => ?_) (fun m hm hmt => ?_) (fun m b hmt hb' => ?_) (fun m m' b hne hm hm' hb' => ?_)
    · exact setRow_other w _ b _ (fun e => hne n rfl (by simp [blkOf, ha, Atom.has, e, hnl]))
    · have hmn : m = n := hmt.resolve_right (by simp at hm; omega)
      subst hmn
      rw [at_set hn, if_pos rfl]
      refine ⟨⟨⟨hsz, hoff⟩, hnc, ?_⟩, trivial⟩
      rw [val_of hnl]
      refine ⟨by rw [List.length_map, flat_length hK], .inr ⟨(r m).blk, cap, cur', by rw [hcap], Nat.zero_le _, setRow_heap w _ _ _ (K.elem kd) _ hgp, by rw [hl]; exact hnc', hcm, by rw [hc1]; exact hcs', by rw [hl]; exact hc2⟩⟩
    · rcases hmt with rfl | hge
      · refine .inl ⟨m, rfl, ?_⟩
        simp only [blkOf, at_set hn, if_true, Atom.has] at hb'
        simp only [blkOf, ha, Atom.has]; exact hb'
      · simp [blkOf, at_ge (H := H.set n _) (by simpa using hge), Atom.has] at hb'
    · rcases hm with rfl | hge
      · rcases hm' with rfl | hge'
        · exact absurd rfl hne
        · simp [blkOf, at_ge (H := H.set m _) (by simpa using hge'), Atom.has]
      · simp [blkOf, at_ge (H := H.set n _) (by simpa using hge), Atom.has] at hb'
theorem evCopy_sound (hK : K.Ok) (st : HeapOK S w0 r H w) {t tx ty : TypeId} {d x : VV} {k : VV → VH K → Prop} (h : evCopy P t tx d x H k) {v u : Value} (hd : d.is r v) (hx : x.is r u) :
    ∃ v' w', (Builtin.copy_ #[t, tx] ty #[v, u]).run P w = .ok v' w' ∧ After S w0 r H k v' w' := by
  unfold evCopy at h
  split at h
  · rename_i e n lo len cap hu
    split at h
    · rename_i ie kd xs hi ha
      obtain ⟨hg, ⟨hle, hcap⟩, h⟩ := guardP_iff.1 h
      have hg' : ie.size = K.size kd := by simpa using hg
      obtain ⟨ys, hk, hlen, hfirst⟩ := srcK_first hK st h hx
      have hok := st.ok n
      rw [ha] at hok
      have hfc := hfirst (min ys.length len) (Nat.min_le_left _ _)
      rcases Nat.eq_zero_or_pos len with h0 | hpos
      · subst h0
        obtain ⟨a, rfl, _⟩ := hd
        simp only [Nat.min_zero, List.take_zero] at hk hfc
        have hsame : H.set n (.arr kd (over xs lo [])) = H := by
          have : over xs lo [] = xs := by simp [over]
          rw [this]
          apply List.ext_getElem?
          intro m
          rw [List.getElem?_set]
          by_cases e : n = m
          · subst e
            have hn : n < H.length := at_lt (by rw [ha]; simp)
            have h1 : at_ H n = H[n] := by simp [at_, List.getD_eq_getElem?_getD, hn]
            rw [ha] at h1
            simp [hn, ← h1]
          · rw [if_neg e]
        rw [hsame] at hk
        refine ⟨.int .i64 0, w, ?_, After.pure st hk rfl (lt_of_nm rfl)⟩
        have hf0 : (Builtin.firstCells ie.size 0 u).run P w = .ok #[] w := by rw [hg']; simpa [flat] using hfc
        cases a with
        | none => simp [Builtin.copy_, run_underlying hu, hlen, sizeOf, typeInfo, hi, hf0, goInt]
        | some a => simp [Builtin.copy_, run_underlying hu, hlen, sizeOf, typeInfo, hi, hf0, goInt, storeCells]
      · obtain ⟨hnl, rfl⟩ := slc_addr hK hd (a := .arr kd xs) rfl hok hle hcap hpos
        obtain ⟨⟨hsz, hoff⟩, hnc, ho⟩ := hok
        rw [hoff, Nat.zero_add]
        rw [val_of hnl] at ho
        have hn : n < H.length := at_lt (by rw [ha]; simp)
        obtain ⟨hl0, hoo⟩ := ho
        rcases hoo with ⟨h', _⟩ | ⟨g, cp, cur, h', hb, hgp, hnc', hcm, hcs', htake⟩
        · simp at h'
        · simp only [Value.slice.injEq, Option.some.injEq, Addr.mk.injEq, and_true, true_and] at h'
          obtain ⟨hgb, hcapp⟩ := h'
          subst hgb
          have hml : (ys.take (min ys.length len)).length = min ys.length len := by simp
          have hfit : lo * K.size kd + min ys.length len * K.size kd ≤ xs.length * K.size kd := by
            rw [← Nat.add_mul]; exact Nat.mul_le_mul_right _ (by omega)
          have hcurl : xs.length * K.size kd ≤ cur.size := by rw [hcs']; exact Nat.mul_le_mul_right _ hnc'
          have hzl : ((flat kd (ys.take (min ys.length len))).map C.plain).length = min ys.length len * K.size kd := by rw [List.length_map, flat_length hK, hml]
          have hst := run_storeCells_at P (r n).blk (lo * (r n).sz) (K.elem kd) ((flat kd (ys.take (min ys.length len))).map C.plain) 0 cur w hgp (by rw [hzl, hsz]; omega)
            (fun v hv => by obtain ⟨c, hc, rfl⟩ := List.mem_map.1 hv; have := flat_one hK kd _ c hc; exact C.plain_one this)
          refine ⟨.int .i64 (min ys.length len : Nat), w.setRow (r n).blk (cur.toList.take (lo * (r n).sz + 0) ++ (flat kd (ys.take (min ys.length len))).map C.plain ++ cur.toList.drop (lo * (r n).sz + 0 + ((flat kd (ys.take (min ys.length len))).map C.plain).length)).toArray, ?_, ?_⟩
          · rw [← hg'] at hfc
            simp only [Builtin.copy_]
            simp [run_underlying hu, hlen, sizeOf, typeInfo, hi, goInt]
            rw [show ys.length.min len = min ys.length len from rfl, hfc]
            simp [hst]
          · refine ⟨r, _, _, hk, rfl, lt_of_nm rfl, by simp, fun _ _ => rfl, RoKeep.set hn rfl, ?_⟩
            refine st.setArr hK ha (by simp only [over, List.length_append, List.length_take, List.length_drop]; omega) hnl fun cur2 h2 h3 h4 => ?_
            rw [hgp] at h2
            injection h2 with h2
            injection h2 with h2
            subst h2
            refine ⟨by simp only [List.size_toArray, List.length_append, List.length_take, List.length_drop, Array.length_toList, hzl, hsz, Nat.add_zero]; try omega, ?_⟩
            have hq := take_mid cur.toList ((flat kd xs).map C.plain) ((flat kd (ys.take (min ys.length len))).map C.plain) (lo * K.size kd) (by rw [List.length_map, flat_length hK]; exact htake) (by rw [hzl, List.length_map, flat_length hK]; exact hfit)
            rw [List.length_map, flat_length hK] at hq
            simp only [hsz, Nat.add_zero]
            rw [hq, hzl]
            simp only [over, hml, flat_append, flat_take hK, flat_drop hK, List.map_append, List.map_take, List.map_drop, Nat.add_mul]
    · exact h.elim
  · exact h.elim
end Go.Proofs.YtoidibkcdkdneaaGreatDoor.E
end
section
namespace Go.Proofs.YtoidibkcdkdneaaGreatDoor.E
set_option linter.unusedVariables false
set_option linter.unusedSimpArgs false
variable {K : Kinds} {P : Program} {S : Nat → Prop} {w0 w : World} {r : Nat → Ref} {H : VH K}
/-- What a table of contracts stands on; and what package-level variables hold, where that is told. -/
structure TabBase (P : Program) where
  mixed : P.follows .mixedOrders = true
  glob : Nat → Option C
structure Tab (P : Program) (K : Kinds) where
  base : TabBase P
  pick : FuncId → List VV → VH K → Option (Ct K × List K.Kd × List Nat)
  ok : ∀ f args H ct ks τ, pick f args H = some (ct, ks, τ) → CtOk P f ct
def getO (fr : List VV) : Operand → VV
  | .tmp t => fr.getD t .any
  | .const v => ofConst v
  | .global g => .c (.rp 0 0 g 0 0)
  | .func f => .c (.fn f [])
structure FrOK (r : Nat → Ref) (N : Nat) (fr : List VV) (a : Act) : Prop where
  is : Are r fr a.tmps.toList
  lt : ∀ x ∈ fr, x.lt N
  defers : a.defers = []
theorem getD_lt {fr : List VV} {N : Nat} (h : ∀ x ∈ fr, x.lt N) (i : Nat) : (fr.getD i .any).lt N := by
  rw [List.getD_eq_getElem?_getD]
  rcases Nat.lt_or_ge i fr.length with h' | h'
  · rw [List.getElem?_eq_getElem h']; exact h _ (List.getElem_mem h')
  · rw [List.getElem?_eq_none h']; trivial
theorem FrOK.get {N : Nat} {fr : List VV} {a : Act} (h : FrOK r N fr a) (x : Operand) : (getO fr x).is r (a.eval x) ∧ (getO fr x).lt N := by
  cases x with
  | tmp t =>
    refine ⟨?_, getD_lt h.lt t⟩
    have := h.is.get t
    simpa [getO, Act.eval] using this
  | const v => exact ⟨ofConst_is v, ofConst_lt v N⟩
  | global g => exact ⟨by show Value.pointer (some ⟨g, 0, none⟩) = .pointer (some ⟨g, 0 * 0 + 0, none⟩); simp, lt_of_nm rfl⟩
  | func f => exact ⟨rfl, lt_of_nm rfl⟩
def putF (fr : List VV) (dst : Option Tmp) (v : VV) : List VV := match dst with | some d => fr.set d v | none => fr
theorem Are.set {r : Nat → Ref} : ∀ {xs : List VV} {vs : List Value} (i : Nat) {x : VV} {v : Value}, Are r xs vs → x.is r v → Are r (xs.set i x) (vs.set i v)
  | [], [], _, _, _, _, _ => trivial
  | _ :: _, _ :: _, 0, _, _, h, hx => ⟨hx, h.2⟩
  | _ :: _, _ :: _, i + 1, _, _, h, hx => ⟨h.1, Are.set i h.2 hx⟩
  | [], _ :: _, _, _, _, h, _ => h.elim
  | _ :: _, [], _, _, _, h, _ => h.elim
theorem FrOK.put {N N' : Nat} {r' : Nat → Ref} {fr : List VV} {a : Act} (h : FrOK r N fr a) (hr : ∀ n, n < N → r' n = r n) (hN : N ≤ N') {v : VV} {u : Value} (hv : v.is r' u) (hl : v.lt N') (dst : Option Tmp) :
    FrOK r' N' (putF fr dst v) (a.put dst u) := by
  cases dst with
  | none => exact ⟨h.is.congr hr h.lt, fun x hx => VV.lt_mono (h.lt x hx) hN, h.defers⟩
  | some d =>
    refine ⟨?_, fun x hx => ?_, h.defers⟩
    · simp only [putF, Act.put, Array.toList_setIfInBounds]
      exact (h.is.congr hr h.lt).set d hv
    · rcases List.mem_or_eq_of_mem_set hx with hx | rfl
      · exact VV.lt_mono (h.lt x hx) hN
      · exact hl
/-- The whole of a state of a function's run. -/
structure StOK (S : Nat → Prop) (w0 : World) (r0 : Nat → Ref) (N0 : Nat) (r : Nat → Ref) (fr : List VV) (H : VH K) (a : Act) (w : World) : Prop where
  heap : HeapOK S w0 r H w
  frame : FrOK r H.length fr a
  len : N0 ≤ H.length
  keep : ∀ n, n < N0 → r n = r0 n
def evBuiltin (P : Program) (b : Builtin) (ts : List TypeId) (args : List VV) (H : VH K) (k : VV → VH K → Prop) : Prop :=
  match b, ts, args with
  | .len, [t], [x] => evLen P t x fun v => k v H
  | .max, [_, _], [x, y] => evMM true x y fun v => k v H
  | .min, [_, _], [x, y] => evMM false x y fun v => k v H
  | .append, [t, tx], [s, x] => evAppend P t tx s x H k
  | .copy, [t, tx], [s, x] => evCopy P t tx s x H k
  | _, _, _ => False
def evStatic (tab : Tab P K) (f : FuncId) (args : List VV) (H : VH K) (k : VV → VH K → Prop) : Prop :=
  match tab.pick f args H with
  | some (ct, ks, τ) => evCall ct ks τ args H k
  | none => False
/-- What a function value has taken in: the places of cells. -/
def capsOf : List VV → Option (List (TypeId × Nat))
  | [] => some []
  | .one (.c (.rp T 0 b 0 0)) :: t => (capsOf t).map ((T, b) :: ·)
  | _ => none
abbrev capV (p : TypeId × Nat) : VV := .c (.rp p.1 0 p.2 0 0)
theorem capsOf_are {r : Nat → Ref} : ∀ {xs : List VV} {vs : List Value} {l : List (TypeId × Nat)}, capsOf xs = some l → Are r xs vs → vs = l.map fun p => Value.pointer (some ⟨p.2, 0, none⟩)
  | [], [], l, h, _ => by simp only [capsOf, Option.some.injEq] at h; subst h; rfl
  | [], _ :: _, _, _, h => h.elim
  | x :: xs, [], _, _, h => h.elim
  | x :: xs, v :: vs, l, h, ha => by
    unfold capsOf at h
    split at h
    · rename_i heq
      cases heq
    · rename_i T b t heq
      injection heq with h1 h2
      subst h1 h2
      cases hc : capsOf xs with
      | none => rw [hc] at h; cases h
      | some m =>
        rw [hc] at h
        simp only [Option.map_some, Option.some.injEq] at h
        subst h
        have hv : v = .pointer (some ⟨b, 0 * 0 + 0, none⟩) := ha.1
        rw [List.map_cons, ← capsOf_are hc ha.2, hv]
    · cases h
theorem capV_are {r : Nat → Ref} : ∀ l : List (TypeId × Nat), Are r (l.map capV) (l.map fun p => Value.pointer (some ⟨p.2, 0, none⟩))
  | [] => trivial
  | p :: l => ⟨by show Value.pointer (some ⟨p.2, 0, none⟩) = .pointer (some ⟨p.2, 0 * 0 + 0, none⟩); simp, capV_are l⟩
theorem Are.append {r : Nat → Ref} : ∀ {xs ys : List VV} {vs us : List Value}, Are r xs vs → Are r ys us → Are r (xs ++ ys) (vs ++ us)
  | [], _, [], _, _, h => h
  | x :: xs, _, v :: vs, _, h, k => ⟨h.1, Are.append h.2 k⟩
  | [], _, _ :: _, _, h, _ => h.elim
  | _ :: _, _, [], _, h, _ => h.elim
/-- A package-level variable that is known. -/
def evLoadG (P : Program) (T : TypeId) (g : Nat) (c : C) (H : VH K) (k : VV → VH K → Prop) : Prop :=
  match P.info? T, P.underlying T with
  | some _, some d => match isRowB d with
    | true => False
    | false => anyBag H fun _ φ => boxAt φ g 0 = some c ∧ k (.c c) H
  | _, _ => False
theorem evLoadG_sound (hK : K.Ok) (st : HeapOK S w0 r H w) {T : TypeId} {g : Nat} {c : C} {k : VV → VH K → Prop} (h : evLoadG P T g c H k) :
    ∃ v', (Instr.loadAt T (.pointer (some ⟨g, 0, none⟩))).run P w = .ok v' w ∧ After S w0 r H k v' w := by
  have h0 : evLoad0 P T (.c (.rp 0 0 g 0 0)) H k := by
    unfold evLoadG at h
    unfold evLoad0
    split at h
    · rename_i hi hu
      split at h
      · exact h.elim
      · rename_i hd
        rw [hi, hu]
        simp only [hd]
        exact box_read (k := fun cs => match cs with | [c] => k (.c c) H | _ => False) h
    · exact h.elim
  have hp : (VV.c (.rp 0 0 g 0 0)).is r (.pointer (some ⟨g, 0, none⟩)) := by
    show Value.pointer (some ⟨g, 0, none⟩) = .pointer (some ⟨g, 0 * 0 + 0, none⟩)
    simp
  exact evLoad0_sound hK st h0 hp
def evOp (tab : Tab P K) (fr : List VV) (o : Oper) (H : VH K) (k : VV → VH K → Prop) : Prop :=
  match o.op with
  | .move x => k (getO fr x) H
  | .assign x => k (getO fr x) H
  | .pick c a b => match getO fr c with
    | .one (.c (.bool t)) => ite2 t (k (getO fr a) H) (k (getO fr b) H)
    | _ => False
  | .alloc T => evAlloc P T H k
  | .box T x => evBox T (getO fr x) H k
  | .build t ps => evBuild P t (ps.toList.map fun p => (p.1, getO fr p.2)) fun v => k v H
  | .buildSlice t len ps => evSliceLit P t len (ps.toList.map fun p => (p.1, getO fr p.2)) H k
  | .load t x => match x with
    | .global g => match tab.base.glob g with
      | some c => evLoadG P t g c H k
      | none => evLoad P t (.c (.rp 0 0 g 0 0)) H k
    | x => evLoad P t (getO fr x) H k
  | .store t x y => evStore P t (getO fr x) (getO fr y) H k
  | .nilCheck x => match getO fr x with
    | .one (.c (.ptr n i j)) => k (.c (.ptr n i j)) H
    | .one (.c (.rp e sz b i j)) => k (.c (.rp e sz b i j)) H
    | _ => False
  | .binOp op t x y _ => match getO fr x, getO fr y with
    | .one (.agg l), .one (.agg l') => guardP (match P.underlying t with | some d => isRowB d | none => false) (evAgg P op t l l' fun v => k v H)
    | vx, vy => evBin P t op vx vy fun v => k v H
  | .unOp op _ x => evUn op (getO fr x) fun v => k v H
  | .convert s d x => evConv P s d (getO fr x) fun v => k v H
  | .makeSlice t l c => evMake P t (getO fr l) (getO fr c) H k
  | .slice t x lo hi mx => evCut P t (getO fr x) (lo.map (getO fr)) (hi.map (getO fr)) (mx.map (getO fr)) H k
  | .fieldAddr t x f => evFieldAddr P t (getO fr x) f H k
  | .field t x f => evField P t (getO fr x) f fun v => k v H
  | .indexAddr t x i => evIndexAddr P t (getO fr x) (getO fr i) H k
  | .index t x i => evIndex P t (getO fr x) (getO fr i) fun v => k v H
  | .extract x i => evExtract (getO fr x) i fun v => k v H
  | .call c => match c.callee with
    | .builtin b => evBuiltin P b c.argTypes.toList (c.args.toList.map (getO fr)) H k
    | .value (.func f) => evStatic tab f (c.args.toList.map (getO fr)) H k
    | .value x => match getO fr x with
      | .one (.c (.fn f caps)) => evStatic tab f (c.args.toList.map (getO fr) ++ caps.map capV) H k
      | _ => False
    | _ => False
  | .makeFunc f first caps => match f, first.toList, capsOf (caps.toList.map (getO fr)) with
    | .func f, [], some l => k (.c (.fn f l)) H
    | _, _, _ => False
  | _ => False
theorem RelP_of {N : Nat} {fr : List VV} {a : Act} (h : FrOK r N fr a) : ∀ ps : List (Nat × Operand), RelP r N (ps.map fun p => (p.1, getO fr p.2)) (ps.map fun p => (p.1, a.eval p.2))
  | [] => trivial
  | p :: ps => ⟨rfl, (h.get p.2).1, (h.get p.2).2, RelP_of h ps⟩
theorem Are_of {N : Nat} {fr : List VV} {a : Act} (h : FrOK r N fr a) : ∀ xs : List Operand, Are r (xs.map (getO fr)) (xs.map a.eval)
  | [] => trivial
  | x :: xs => ⟨(h.get x).1, Are_of h xs⟩
theorem OptIs_of {N : Nat} {fr : List VV} {a : Act} (h : FrOK r N fr a) (x : Option Operand) : OptIs r (x.map (getO fr)) (x.map a.eval) := by
  cases x with
  | none => trivial
  | some x => exact (h.get x).1
/-- What may stand behind the operation, in terms of the walk's own words. -/
theorem wp_value {o : Oper} {a : Act} {next : Act → World → Prop} {Q : Exit → Act → World → Prop} {v : Value} {w' : World} (hr : (execOp a.eval o).run P w = .ok (.value v) w') (h : next (a.put o.dst v) w') : o.wp P a w next Q := by
  unfold Oper.wp; rw [hr]; exact h
theorem wp_skip_ {o : Oper} {a : Act} {next : Act → World → Prop} {Q : Exit → Act → World → Prop} {w' : World} (hr : (execOp a.eval o).run P w = .ok .skip w') (h : next (a.put o.dst undef) w') : o.wp P a w next Q := by
  unfold Oper.wp; rw [hr]; exact h
theorem evOp_sound (hK : K.Ok) (tab : Tab P K) {r0 : Nat → Ref} {N0 : Nat} {fr : List VV} {a : Act} (st : StOK S w0 r0 N0 r fr H a w) {o : Oper} {k : VV → VH K → Prop} (h : evOp tab fr o H k)
    {next : Act → World → Prop} {Q : Exit → Act → World → Prop} (hn : ∀ v' w', After S w0 r H k v' w' → next (a.put o.dst v') w') : o.wp P a w next Q := by
  have hf := st.frame
  have get := fun x => hf.get x
  have sh := st.heap
  obtain ⟨dst, op, type, pos, after, guard⟩ := o
  cases op <;> simp only [evOp] at h
  case move x => exact wp_value (by simp [execOp]) (hn _ _ (After.pure sh h (get x).1 (get x).2))
  case assign x => exact wp_value (by simp [execOp]) (hn _ _ (After.pure sh h (get x).1 (get x).2))
  case pick c x y =>
    split at h
    · rename_i t hc
      have hc' := (get c).1
      rw [hc] at hc'
      have hc'' : a.eval c = .bool t := hc'
      rcases ite2_of h with ⟨rfl, h⟩ | ⟨rfl, h⟩
      · exact wp_value (by simp [execOp, hc'', asBool]) (hn _ _ (After.pure sh h (get x).1 (get x).2))
      · exact wp_value (by simp [execOp, hc'', asBool]) (hn _ _ (After.pure sh h (get y).1 (get y).2))
    · exact h.elim
  case alloc T =>
    obtain ⟨v', w', hr, ha⟩ := evAlloc_sound sh h
    exact wp_value (by simp [execOp, hr]) (hn _ _ ha)
  case box T x =>
    obtain ⟨v', w', hr, ha⟩ := evBox_sound (P := P) sh h (get x).1 (get x).2
    exact wp_value (by simp [execOp, hr]) (hn _ _ ha)
  case build t ps =>
    obtain ⟨v', hr, ha⟩ := evBuild_sound sh h (qs := ps.map fun p => (p.1, a.eval p.2)) (by simpa using RelP_of hf ps.toList)
    exact wp_value (by simp [execOp, hr]) (hn _ _ ha)
  case buildSlice t len ps =>
    obtain ⟨v', w', hr, ha⟩ := evSliceLit_sound hK sh h (qs := ps.map fun p => (p.1, a.eval p.2)) (by simpa using RelP_of hf ps.toList)
    exact wp_value (by simp [execOp, hr]) (hn _ _ ha)
  case load t x =>
    split at h
    · rename_i g
      split at h
      · obtain ⟨v', hr, ha⟩ := evLoadG_sound hK sh h
        exact wp_value (by simp [execOp, Act.eval, hr]) (hn _ _ ha)
      · obtain ⟨v', hr, ha⟩ := evLoad_sound hK sh h (get (.global g)).1
        exact wp_value (by simp [execOp, hr]) (hn _ _ ha)
    · obtain ⟨v', hr, ha⟩ := evLoad_sound hK sh h (get _).1
      exact wp_value (by simp [execOp, hr]) (hn _ _ ha)
  case store t x y =>
    obtain ⟨w', hr, ha⟩ := evStore_sound hK sh h (get x).1 (get y).1 (get y).2
    exact wp_skip_ (by simp [execOp, hr]) (hn _ _ ha)
  case nilCheck x =>
    split at h
    · rename_i n i j hx
      have hx' := (get x).1
      have hl := (get x).2
      rw [hx] at hx' hl
      have hx'' : a.eval x = .pointer (some ⟨(r n).blk, (r n).off + (i * (r n).sz + j), none⟩) := hx'
      exact wp_value (by simp [execOp, hx'']) (hn _ _ (After.pure sh h (v := .pointer (some ⟨(r n).blk, (r n).off + (i * (r n).sz + j), none⟩)) rfl hl))
    · rename_i e sz b i j hx
      have hx' := (get x).1
      have hl := (get x).2
      rw [hx] at hx' hl
      have hx'' : a.eval x = .pointer (some ⟨b, i * sz + j, none⟩) := hx'
      exact wp_value (by simp [execOp, hx'']) (hn _ _ (After.pure sh h (v := .pointer (some ⟨b, i * sz + j, none⟩)) rfl hl))
    · exact h.elim
  case binOp op t x y t' =>
    have gx := get x
    have gy := get y
    split at h
    · rename_i l l' hx hy
      rw [hx] at gx
      rw [hy] at gy
      obtain ⟨hg, h⟩ := guardP_iff.1 h
      have hT : ∃ d, P.underlying t = some d ∧ isRowB d = true := by
        cases hu : P.underlying t with
        | none => simp [hu] at hg
        | some d => exact ⟨d, rfl, by simpa [hu] using hg⟩
      obtain ⟨v', hr, ha⟩ := evAgg_sound (P := P) sh (ox := x) (oy := y) h gx.1 gy.1 hT
      exact wp_value (by simp only [execOp, Sem.run_bind, hr, Result.andThen_ok, Sem.run_pure]) (hn _ _ ha)
    · obtain ⟨v', hr, ha⟩ := evBin_sound (P := P) sh (T := t) (ox := x) (oy := y) h gx.1 gy.1
      exact wp_value (by simp only [execOp, Sem.run_bind, hr, Result.andThen_ok, Sem.run_pure]) (hn _ _ ha)
  case unOp op t x =>
    obtain ⟨v', hr, ha⟩ := evUn_sound (P := P) sh h (get x).1
    exact wp_value (by simp [execOp, hr]) (hn _ _ ha)
  case convert s d x =>
    obtain ⟨v', hr, ha⟩ := evConv_sound sh h (get x).1
    exact wp_value (by simp [execOp, hr]) (hn _ _ ha)
  case makeSlice t l c =>
    obtain ⟨v', w', hr, ha⟩ := evMake_sound hK sh h (get l).1 (get c).1
    exact wp_value (by simp [execOp, hr]) (hn _ _ ha)
  case slice t x lo hi mx =>
    obtain ⟨v', hr, ha⟩ := evCut_sound hK sh h (get x).1 (get x).2 (OptIs_of hf lo) (OptIs_of hf hi) (OptIs_of hf mx)
    exact wp_value (by simp [execOp, hr]) (hn _ _ ha)
  case fieldAddr t x f =>
    obtain ⟨v', hr, ha⟩ := evFieldAddr_sound sh h (get x).1 (get x).2
    exact wp_value (by simp [execOp, hr]) (hn _ _ ha)
  case field t x f =>
    obtain ⟨v', hr, ha⟩ := evField_sound sh h (get x).1 (get x).2
    exact wp_value (by simp [execOp, hr]) (hn _ _ ha)
  case indexAddr t x i =>
    obtain ⟨v', hr, ha⟩ := evIndexAddr_sound hK sh h (get x).1 (get i).1 (get x).2
    exact wp_value (by simp [execOp, hr]) (hn _ _ ha)
  case index t x i =>
    obtain ⟨v', hr, ha⟩ := evIndex_sound sh h (get x).1 (get i).1 (get x).2
    exact wp_value (by simp [execOp, hr]) (hn _ _ ha)
  case extract x i =>
    obtain ⟨v', hr, ha⟩ := evExtract_sound (P := P) sh h (get x).1 (get x).2
    exact wp_value (by simp [execOp, hr]) (hn _ _ ha)
  case call c =>
    obtain ⟨callee, args, ats⟩ := c
    have hargs := Are_of hf args.toList
    cases callee with
    | builtin b =>
      simp only at h
      have hres : ∀ {m : Sem Value} {v' w'}, (execOp a.eval { dst, op := .call { callee := .builtin b, args, argTypes := ats }, type, pos, after, guard }) = (do pure (.value (← m))) → m.run P w = .ok v' w' →
          (execOp a.eval { dst, op := .call { callee := .builtin b, args, argTypes := ats }, type, pos, after, guard }).run P w = .ok (.value v') w' := fun he hm => by
        rw [he]; simp [hm]
      unfold evBuiltin at h
      split at h
      · rename_i t x hts hxs
        have e1 : ats = #[t] := by apply Array.ext'; simpa using hts
        obtain ⟨y, hy, hyx⟩ : ∃ y, args = #[y] ∧ getO fr y = x := by
          match hargs' : args.toList, hxs with
          | [y], hxs => exact ⟨y, by apply Array.ext'; simpa using hargs', by simpa [hargs'] using hxs⟩
          | [], hxs => simp [hargs'] at hxs
          | _ :: _ :: _, hxs => simp [hargs'] at hxs
        subst e1 hy hyx
        obtain ⟨v', hr, ha⟩ := evLen_sound (P := P) (ty := type) sh h (get y).1
        exact wp_value (hres (m := Builtin.len_ #[t] type #[a.eval y]) (by simp [execOp, resolve, invoke, builtin]) hr) (hn _ _ ha)
      · rename_i t t' x y hts hxs
        obtain ⟨x', y', hxy, hx', hy'⟩ : ∃ x' y', args = #[x', y'] ∧ getO fr x' = x ∧ getO fr y' = y := by
          match hargs' : args.toList, hxs with
          | [x', y'], hxs => exact ⟨x', y', by apply Array.ext'; simpa using hargs', by simp [hargs'] at hxs; exact hxs.1, by simp [hargs'] at hxs; exact hxs.2⟩
          | [], hxs => simp [hargs'] at hxs
          | [_], hxs => simp [hargs'] at hxs
          | _ :: _ :: _ :: _, hxs => simp [hargs'] at hxs
        subst hxy hx' hy'
        obtain ⟨v', hr, ha⟩ := evMax_sound (P := P) (ts := ats) (ty := type) sh h (get x').1 (get y').1
        exact wp_value (hres (m := Builtin.max_ ats type #[a.eval x', a.eval y']) (by simp [execOp, resolve, invoke, builtin]) hr) (hn _ _ ha)
      · rename_i t t' x y hts hxs
        obtain ⟨x', y', hxy, hx', hy'⟩ : ∃ x' y', args = #[x', y'] ∧ getO fr x' = x ∧ getO fr y' = y := by
          match hargs' : args.toList, hxs with
          | [x', y'], hxs => exact ⟨x', y', by apply Array.ext'; simpa using hargs', by simp [hargs'] at hxs; exact hxs.1, by simp [hargs'] at hxs; exact hxs.2⟩
          | [], hxs => simp [hargs'] at hxs
          | [_], hxs => simp [hargs'] at hxs
          | _ :: _ :: _ :: _, hxs => simp [hargs'] at hxs
        subst hxy hx' hy'
        obtain ⟨v', hr, ha⟩ := evMin_sound (P := P) (ts := ats) (ty := type) sh h (get x').1 (get y').1
        exact wp_value (hres (m := Builtin.min_ ats type #[a.eval x', a.eval y']) (by simp [execOp, resolve, invoke, builtin]) hr) (hn _ _ ha)
      · rename_i t t' x y hts hxs
        have e1 : ats = #[t, t'] := by apply Array.ext'; simpa using hts
        obtain ⟨x', y', hxy, hx', hy'⟩ : ∃ x' y', args = #[x', y'] ∧ getO fr x' = x ∧ getO fr y' = y := by
          match hargs' : args.toList, hxs with
          | [x', y'], hxs => exact ⟨x', y', by apply Array.ext'; simpa using hargs', by simp [hargs'] at hxs; exact hxs.1, by simp [hargs'] at hxs; exact hxs.2⟩
          | [], hxs => simp [hargs'] at hxs
          | [_], hxs => simp [hargs'] at hxs
          | _ :: _ :: _ :: _, hxs => simp [hargs'] at hxs
        subst e1 hxy hx' hy'
        obtain ⟨v', w', hr, ha⟩ := evAppend_sound (P := P) (ty := type) hK sh h (get x').1 (get y').1
        exact wp_value (hres (m := Builtin.append_ #[t, t'] type #[a.eval x', a.eval y']) (by simp [execOp, resolve, invoke, builtin]) hr) (hn _ _ ha)
      · rename_i t t' x y hts hxs
        have e1 : ats = #[t, t'] := by apply Array.ext'; simpa using hts
        obtain ⟨x', y', hxy, hx', hy'⟩ : ∃ x' y', args = #[x', y'] ∧ getO fr x' = x ∧ getO fr y' = y := by
          match hargs' : args.toList, hxs with
          | [x', y'], hxs => exact ⟨x', y', by apply Array.ext'; simpa using hargs', by simp [hargs'] at hxs; exact hxs.1, by simp [hargs'] at hxs; exact hxs.2⟩
          | [], hxs => simp [hargs'] at hxs
          | [_], hxs => simp [hargs'] at hxs
          | _ :: _ :: _ :: _, hxs => simp [hargs'] at hxs
        subst e1 hxy hx' hy'
        obtain ⟨v', w', hr, ha⟩ := evCopy_sound (P := P) (ty := type) hK sh h (get x').1 (get y').1
        exact wp_value (hres (m := Builtin.copy_ #[t, t'] type #[a.eval x', a.eval y']) (by simp [execOp, resolve, invoke, builtin]) hr) (hn _ _ ha)
      · exact h.elim
    | value f =>
      have dyn : ∀ f0 caps, getO fr f = .c (.fn f0 caps) → evStatic tab f0 (args.toList.map (getO fr) ++ caps.map capV) H k → ({ dst, op := .call { callee := .value f, args, argTypes := ats }, type, pos, after, guard } : Oper).wp P a w next Q := fun f0 caps hfn h => by
        simp only [evStatic] at h
        split at h
        · rename_i ct ks τ hp
          have hct := tab.ok _ _ _ _ _ _ hp
          have hcalls := evCall_sound hK hct sh h (vals := args.toList.map a.eval ++ caps.map fun p : TypeId × Nat => Value.pointer (some ⟨p.2, 0, none⟩)) (Are.append hargs (capV_are caps)) (fun x hx => by
            rcases List.mem_append.1 hx with hx | hx
            · obtain ⟨y, _, rfl⟩ := List.mem_map.1 hx; exact (get y).2
            · obtain ⟨p, _, rfl⟩ := List.mem_map.1 hx; exact lt_of_nm rfl)
          have hval := (get f).1
          rw [hfn] at hval
          have hval : a.eval f = .func (.func f0) #[] (caps.map fun p : TypeId × Nat => Value.pointer (some ⟨p.2, 0, none⟩)).toArray := hval
          have hrun : (execOp a.eval { dst, op := .call { callee := .value f, args, argTypes := ats }, type, pos, after, guard }).run P w = .ok (.enter f0 (args.toList.map a.eval ++ caps.map fun p : TypeId × Nat => Value.pointer (some ⟨p.2, 0, none⟩)).toArray) w := by
            have e : (args.toList.map a.eval ++ caps.map fun p : TypeId × Nat => Value.pointer (some ⟨p.2, 0, none⟩)).toArray = args.map a.eval ++ (caps.map fun p : TypeId × Nat => Value.pointer (some ⟨p.2, 0, none⟩)).toArray := by
              apply Array.ext'; simp
            rw [e]
            simp [execOp, resolve, hval, Deferred.ofValue, invoke, hct.enter]
          unfold Oper.wp
          rw [hrun]
          refine hcalls.mono ?_
          rintro e w' ⟨v', rfl, ha⟩
          exact hn _ _ ha
        · exact h.elim
      cases f with
      | func f =>
        refine dyn f [] rfl ?_
        simpa using h
      | tmp t =>
        simp only at h
        split at h
        · rename_i f0 caps hfn
          exact dyn f0 caps hfn h
        · exact h.elim
      | const v =>
        simp only at h
        split at h
        · rename_i f0 caps hfn
          exact dyn f0 caps hfn h
        · exact h.elim
      | global g => exact h.elim
    | invoke _ _ => exact h.elim
  case makeFunc f first caps =>
    split at h
    · rename_i f0 l hf0 hc
      have hcs := capsOf_are hc (Are_of hf caps.toList)
      have hfirst : first = #[] := by apply Array.ext'; simpa using hf0
      subst hfirst
      refine wp_value (v := .func (.func f0) #[] (l.map fun p : TypeId × Nat => Value.pointer (some ⟨p.2, 0, none⟩)).toArray) ?_ (hn _ _ (After.pure sh h rfl (lt_of_nm rfl)))
      have e : (l.map fun p : TypeId × Nat => Value.pointer (some ⟨p.2, 0, none⟩)).toArray = caps.map a.eval := by
        rw [← hcs]; apply Array.ext'; simp
      rw [e]
      simp [execOp, Instr.makeFunc]
    · exact h.elim
  all_goals exact h.elim
end Go.Proofs.YtoidibkcdkdneaaGreatDoor.E
end
section
namespace Go.Proofs.YtoidibkcdkdneaaGreatDoor.E
set_option linter.unusedVariables false
set_option linter.unusedSimpArgs false
variable {K : Kinds} {P : Program} {S : Nat → Prop} {w0 w : World} {r : Nat → Ref} {H : VH K}
/-- An operation's value hangs on its operands alone. -/
theorem evOp_congr (tab : Tab P K) {fr fr' : List VV} {o : Oper} {k : VV → VH K → Prop} (h : ∀ x ∈ o.op.operands, getO fr x = getO fr' x) : evOp tab fr o H k = evOp tab fr' o H k := by
  obtain ⟨dst, op, type, pos, after, guard⟩ := o
  have pm : ∀ ps : Array (Nat × Operand), (∀ x ∈ (ps.toList.map (·.2)).toArray, getO fr x = getO fr' x) → ps.toList.map (fun p => (p.1, getO fr p.2)) = ps.toList.map (fun p => (p.1, getO fr' p.2)) := fun ps hp =>
    List.map_congr_left fun p hm => by rw [hp p.2 (by simp; exact ⟨p.1, by simpa using hm⟩)]
  cases op <;> simp only [Op.operands] at h <;> simp only [evOp]
  case call c =>
    obtain ⟨callee, args, ats⟩ := c
    have ha : args.toList.map (getO fr) = args.toList.map (getO fr') := List.map_congr_left fun x hx => h x (by simp only [Call.operands]; exact Array.mem_append.2 (.inr (by simpa using hx)))
    cases callee with
    | value f =>
      have hf := h f (by simp [Call.operands])
      cases f <;> simp only [ha, hf]
    | _ => simp only [ha]
  case makeFunc f first caps =>
    have hc : caps.toList.map (getO fr) = caps.toList.map (getO fr') := List.map_congr_left fun x hx => h x (Array.mem_append.2 (.inr (by simpa using hx)))
    rw [hc]
  case build t ps => rw [pm ps h]
  case buildSlice t n ps => rw [pm ps h]
  case load t x =>
    have e0 : getO fr x = getO fr' x := h x (by simp)
    cases x with
    | global g => rfl
    | _ => simp only [e0]
  case slice t x lo hi mx =>
    have e0 := h x (by simp)
    have e1 : lo.map (getO fr) = lo.map (getO fr') := by cases lo <;> simp_all
    have e2 : hi.map (getO fr) = hi.map (getO fr') := by cases hi <;> simp_all
    have e3 : mx.map (getO fr) = mx.map (getO fr') := by cases mx <;> simp_all
    rw [e0, e1, e2, e3]
  all_goals (first | rfl | (simp_all; done))
def gslot (ops : Array Oper) (o : Oper) : Option Nat := o.guard.bind fun g => (ops[g.1]?).bind (·.dst)
/-- The operation under its guard. -/
def evVal (tab : Tab P K) (ops : Array Oper) (fr : List VV) (o : Oper) (H : VH K) (k : VV → VH K → Prop) : Prop :=
  match o.guard with
  | none => evOp tab fr o H k
  | some (j, want) => match (ops[j]?).bind (·.dst) with
    | some t => match fr.getD t .any with
      | .one (.c (.bool b)) => ite2 b
          (match want with | true => evOp tab fr o H k | false => k (.tup []) H)
          (match want with | false => evOp tab fr o H k | true => k (.tup []) H)
      | .tup [] => k (.tup []) H
      | _ => False
    | none => False
theorem evVal_congr (tab : Tab P K) {ops : Array Oper} {fr fr' : List VV} {o : Oper} {k : VV → VH K → Prop} (h : ∀ x ∈ o.op.operands, getO fr x = getO fr' x) (hg : ∀ t, gslot ops o = some t → fr.getD t .any = fr'.getD t .any) :
    evVal tab ops fr o H k = evVal tab ops fr' o H k := by
  unfold evVal
  cases hgd : o.guard with
  | none => exact evOp_congr tab h
  | some jw =>
    obtain ⟨j, want⟩ := jw
    simp only
    cases ht : (ops[j]?).bind (·.dst) with
    | none => rfl
    | some t =>
      have e := hg t (by simp [gslot, hgd, ht])
      simp only [e, evOp_congr tab h]
theorem evVal_sound (hK : K.Ok) (tab : Tab P K) {fr : List VV} {a : Act} (hh : HeapOK S w0 r H w) (hf : FrOK r H.length fr a) {ops : Array Oper} {o : Oper} {k : VV → VH K → Prop} (h : evVal tab ops fr o H k)
    {next : Act → World → Prop} {Q : Exit → Act → World → Prop} (hn : ∀ v' w', After S w0 r H k v' w' → next (a.put o.dst v') w') :
    if Region.wanted o (yielded ops a.tmps) then o.wp P a w next Q ∨ (o.asks P a w ∧ LetsOut Q) else next (a.put o.dst undef) w := by
  have st : StOK S w0 r 0 r fr H a w := ⟨hh, hf, Nat.zero_le _, fun _ _ => rfl⟩
  unfold evVal at h
  cases hg : o.guard with
  | none =>
    simp only [hg] at h
    simp only [Region.wanted, hg, if_true]
    exact .inl (evOp_sound hK tab st h hn)
  | some jw =>
    obtain ⟨j, want⟩ := jw
    simp only [hg] at h
    split at h
    · rename_i t ht
      split at h
      · rename_i b hb
        have hval : yielded ops a.tmps j = some b := by
          have h1 := hf.is.get t
          rw [hb] at h1
          have h2 : a.tmps.toList.getD t undef = .bool b := h1
          have h3 : a.tmps[t]? = some (.bool b) := by
            rw [List.getD_eq_getElem?_getD] at h2
            cases hx : a.tmps.toList[t]? with
            | none => rw [hx] at h2; simp [undef] at h2
            | some x => rw [hx] at h2; simp at h2; subst h2; simpa using hx
          simp [yielded, ht, h3]
        have hw : Region.wanted o (yielded ops a.tmps) = (b == want) := by
          simp only [Region.wanted, hg, hval]
          cases b <;> cases want <;> rfl
        have skip : k (.tup []) H → next (a.put o.dst undef) w := fun hk => hn undef w ⟨r, .tup [], H, hk, ⟨[], rfl, trivial⟩, fun c hc => (by cases hc), Nat.le_refl _, fun _ _ => rfl, RoKeep.refl H, hh⟩
        rw [hw]
        rcases ite2_of h with ⟨rfl, h⟩ | ⟨rfl, h⟩ <;> cases want <;> simp only [beq_self_eq_true, if_true] at h ⊢
        · exact skip h
        · exact .inl (evOp_sound hK tab st h hn)
        · exact .inl (evOp_sound hK tab st h hn)
        · exact skip h
      · rename_i hb
        have hval : yielded ops a.tmps j = none := by
          have h1 := hf.is.get t
          rw [hb] at h1
          obtain ⟨vs, h2, h3⟩ := h1
          have hvs : vs = [] := by cases vs with | nil => rfl | cons => exact h3.elim
          subst hvs
          unfold yielded
          rw [ht]
          simp only [Option.bind_some]
          rw [List.getD_eq_getElem?_getD] at h2
          cases hx : a.tmps[t]? with
          | none => rfl
          | some x =>
            have hx' : a.tmps.toList[t]? = some x := by simpa using hx
            rw [hx'] at h2
            simp only [Option.getD_some] at h2
            subst h2
            rfl
        have hw : Region.wanted o (yielded ops a.tmps) = false := by
          simp only [Region.wanted, hg, hval]
          cases want <;> rfl
        rw [hw]
        exact hn undef w ⟨r, .tup [], H, h, ⟨[], rfl, trivial⟩, fun c hc => (by cases hc), Nat.le_refl _, fun _ _ => rfl, RoKeep.refl H, hh⟩
      · exact h.elim
    · exact h.elim
def isReader : Op → Bool
  | .move _ | .pick .. | .build .. | .load .. | .nilCheck _ | .binOp .. | .unOp .. | .convert .. | .slice .. | .fieldAddr .. | .field .. | .indexAddr .. | .index .. | .extract .. => true
  | .call { callee := .builtin b, .. } => match b with | .len | .max | .min => true | _ => false
  | _ => false
/-- An evaluation that comes to one value and leaves memory alone. -/
def Same (H : VH K) (v v' : VV) (H' : VH K) : Prop := v' = v ∧ H' = H
theorem same_rfl {v : VV} : Same H v v H := ⟨rfl, rfl⟩
def Reads (H : VH K) (ev : (VV → VH K → Prop) → Prop) : Prop := ∀ k, ev k → ∃ v, k v H ∧ ev (Same H v)
def ReadsV (ev : (VV → Prop) → Prop) : Prop := ∀ k, ev k → ∃ v, k v ∧ ev fun v' => v' = v
theorem Reads.of {ev : (VV → Prop) → Prop} (h : ReadsV ev) : Reads H fun k => ev fun v => k v H := fun k hk => by
  obtain ⟨v, h1, h2⟩ := h _ hk
  exact ⟨v, h1, by simpa [Same] using h2⟩
theorem readsV_ite {b : Bool} {x y : (VV → Prop) → Prop} (hx : ReadsV x) (hy : ReadsV y) : ReadsV fun k => ite2 b (x k) (y k) := fun k h => by
  cases b
  · exact hy k h
  · exact hx k h
theorem readsV_at (v : VV) : ReadsV fun k => k v := fun k h => ⟨v, h, rfl⟩
theorem readsV_and {p : Prop} {x : (VV → Prop) → Prop} (hx : ReadsV x) : ReadsV fun k => p ∧ x k := fun k h => by
  obtain ⟨v, h1, h2⟩ := hx k h.2
  exact ⟨v, h1, h.1, h2⟩
theorem readsV_false : ReadsV fun _ => False := fun k h => h.elim
theorem readsV_guard {b : Bool} {x : (VV → Prop) → Prop} (hx : ReadsV x) : ReadsV fun k => guardP b (x k) := fun k h => by
  cases b
  · exact h.elim
  · exact hx k h
theorem readsV_arith (k : IntKind) (z : Int) : ReadsV (arith k z) := fun f h => by
  cases k <;> first | exact ⟨_, h, rfl⟩ | exact ⟨_, h.2, h.1, rfl⟩
theorem readsV_tf (p : Prop) [Decidable p] : ReadsV (tf p) := readsV_ite (readsV_at _) (readsV_at _)
theorem readsV_nf (p : Prop) [Decidable p] : ReadsV (nf p) := readsV_ite (readsV_at _) (readsV_at _)
theorem readsV_int (op : BinOp) (k : IntKind) (a b : Int) : ReadsV (evInt op k a b) := by
  cases op <;> simp only [ReadsV, evInt] <;> first
    | exact readsV_arith _ _
    | exact readsV_and (readsV_arith _ _)
    | exact readsV_and (readsV_at _)
    | exact readsV_tf _
    | exact readsV_nf _
    | exact readsV_false
    | exact readsV_at _
theorem readsV_str (op : BinOp) (a b : ByteArray) : ReadsV (evStr op a b) := by
  cases op <;> simp only [ReadsV, evStr] <;> first
    | exact readsV_and (readsV_at _)
    | exact readsV_tf _
    | exact readsV_nf _
    | exact readsV_false
theorem readsV_shift (op : BinOp) (k : IntKind) (a b : Int) : ReadsV (evShift op k a b) := by
  cases op <;> simp only [ReadsV, evShift] <;> first
    | exact readsV_and (readsV_arith _ _)
    | exact readsV_and (readsV_at _)
    | exact readsV_false
theorem readsV_nil (op : BinOp) (ok same : Bool) : ReadsV (evNil op ok same) := by
  unfold evNil
  refine readsV_guard ?_
  split
  · exact readsV_at _
  · exact readsV_at _
  · exact readsV_false
theorem readsV_boo (op : BinOp) (ok a b : Bool) : ReadsV (evBoo op ok a b) := by
  unfold evBoo
  refine readsV_guard ?_
  split
  · exact readsV_tf _
  · exact readsV_nf _
  · exact readsV_false
theorem readsV_bin (T : TypeId) (op : BinOp) (x y : VV) : ReadsV (evBin P T op x y) := fun k h => by
  unfold evBin at h ⊢
  split at h
  · split at h
    · exact readsV_shift _ _ _ _ k h
    · exact readsV_shift _ _ _ _ k h
    · exact readsV_guard (readsV_int _ _ _ _) k h
  · exact readsV_str _ _ _ k h
  · exact readsV_nil _ _ _ k h
  · exact readsV_nil _ _ _ k h
  · exact readsV_nil _ _ _ k h
  · exact readsV_nil _ _ _ k h
  · exact readsV_nil _ _ _ k h
  · exact readsV_nil _ _ _ k h
  · exact readsV_nil _ _ _ k h
  · exact readsV_nil _ _ _ k h
  · exact readsV_boo _ _ _ _ k h
  · exact h.elim
theorem readsV_agg (op : BinOp) (t : TypeId) (l l' : List C) : ReadsV (evAgg P op t l l') := fun k h => by
  unfold evAgg at h ⊢
  split at h
  · exact readsV_ite (readsV_at _) (readsV_at _) k h
  · exact readsV_ite (readsV_at _) (readsV_at _) k h
  · exact h.elim
theorem readsV_un (op : UnOp) (x : VV) : ReadsV (evUn op x) := fun k h => by
  unfold evUn at h ⊢
  split at h
  · exact readsV_ite (readsV_at _) (readsV_at _) k h
  · exact readsV_arith _ _ k h
  · exact readsV_at _ k h
  · exact h.elim
theorem readsV_conv (s d : TypeId) (x : VV) : ReadsV (evConv P s d x) := fun k h => by
  unfold evConv at h ⊢
  split at h
  · exact readsV_arith _ _ k h
  · exact readsV_at _ k h
  · exact h.elim
theorem readsV_extract (x : VV) (i : Nat) : ReadsV (evExtract x i) := fun k h => by
  unfold evExtract at h ⊢
  split at h
  · split at h
    · exact readsV_at _ k h
    · exact h.elim
  · exact h.elim
theorem readsV_part (e : TypeId) (l : List C) (off : Nat) : ReadsV (evPart P e l off) := fun k h => by
  unfold evPart at h ⊢
  split at h
  · split at h
    · exact readsV_at _ k h
    · split at h
      · exact readsV_at _ k h
      · exact h.elim
  · exact h.elim
theorem readsV_idx {x : Nat → (VV → Prop) → Prop} (hx : ∀ q, ReadsV (x q)) {z : Int} {k : VV → Prop} : ∀ {m q : Nat}, idxSplit z (fun q => x q k) m q → (q : Int) ≤ z → z < (q : Int) + m → ∃ v, k v ∧ idxSplit z (fun q => x q fun v' => v' = v) m q
  | 0, q, _, h1, h2 => by omega
  | m + 1, q, h, h1, h2 => by
    simp only [idxSplit] at h ⊢
    by_cases e : z = (q : Int)
    · subst e
      simp only [decide_true, ite2] at h ⊢
      exact hx q k h
    · simp only [e, decide_false, ite2] at h ⊢
      exact readsV_idx hx h (by omega) (by omega)
theorem readsV_index (t : TypeId) (x i : VV) : ReadsV (evIndex P t x i) := fun k h => by
  unfold evIndex at h ⊢
  split at h
  · exact readsV_and (readsV_at _) k h
  · split at h
    · obtain ⟨h1, h2⟩ := h
      obtain ⟨v, hv, hs⟩ := readsV_idx (x := fun q f => evPart P _ _ (q * _) f) (fun q => readsV_part _ _ _) h2 (by simpa using h1.1) (by simpa using h1.2)
      exact ⟨v, hv, h1, hs⟩
    · exact h.elim
  · exact h.elim
theorem readsV_field (t : TypeId) (x : VV) (i : Nat) : ReadsV (evField P t x i) := fun k h => by
  unfold evField at h ⊢
  split at h
  · split at h
    · split at h
      · split at h
        · exact readsV_at _ k h
        · split at h
          · exact readsV_at _ k h
          · exact h.elim
      · exact h.elim
    · exact h.elim
  · exact h.elim
theorem readsV_len (t : TypeId) (x : VV) : ReadsV (evLen P t x) := fun k h => by
  unfold evLen at h ⊢
  split at h <;> first | exact readsV_at _ k h | exact h.elim
theorem readsV_mm (m : Bool) (x y : VV) : ReadsV (evMM m x y) := fun k h => by
  unfold evMM at h ⊢
  split at h
  · cases m <;> exact readsV_at _ k h
  · exact h.elim
theorem readsV_build (t : TypeId) (ps : List (Nat × VV)) : ReadsV (evBuild P t ps) := fun k h => by
  unfold evBuild at h ⊢
  split at h
  · exact readsV_at _ k h
  · exact h.elim
theorem readAt_reads {a : Atom K} {i j m : Nat} {k : List C → Prop} (h : readAt a i j m k) : ∃ cs, k cs ∧ readAt a i j m fun cs' => cs' = cs := by
  cases a with
  | gone => exact h.elim
  | cells T cs => obtain ⟨hg, hk⟩ := guardP_iff.1 h; exact ⟨_, hk, guardP_iff.2 ⟨hg, rfl⟩⟩
  | arr kd xs => obtain ⟨hi, hg⟩ := h; obtain ⟨hg, hk⟩ := guardP_iff.1 hg; exact ⟨_, hk, hi, guardP_iff.2 ⟨hg, rfl⟩⟩
  | ro kd xs => obtain ⟨hi, hg⟩ := h; obtain ⟨hg, hk⟩ := guardP_iff.1 hg; exact ⟨_, hk, hi, guardP_iff.2 ⟨hg, rfl⟩⟩
  | bag φ => exact h.elim
theorem readAt_mono {a : Atom K} {i j m : Nat} {k k' : List C → Prop} (h : readAt a i j m k) (hk : ∀ cs, k cs → k' cs) : readAt a i j m k' := by
  cases a with
  | gone => exact h.elim
  | cells T cs => obtain ⟨hg, h⟩ := guardP_iff.1 h; exact guardP_iff.2 ⟨hg, hk _ h⟩
  | arr kd xs => obtain ⟨hi, hg⟩ := h; obtain ⟨hg, h⟩ := guardP_iff.1 hg; exact ⟨hi, guardP_iff.2 ⟨hg, hk _ h⟩⟩
  | ro kd xs => obtain ⟨hi, hg⟩ := h; obtain ⟨hg, h⟩ := guardP_iff.1 hg; exact ⟨hi, guardP_iff.2 ⟨hg, hk _ h⟩⟩
  | bag φ => exact h.elim
theorem someBag_reads {X : Type} {f : (X → Prop) → Nat → Bag K → Prop} (hf : ∀ k n φ, f k n φ → ∃ x, k x ∧ f (fun y => y = x) n φ) {k : X → Prop} : ∀ {l : List (Nat × Bag K)}, someBag l (f k) → ∃ x, k x ∧ someBag l (f fun y => y = x)
  | [], h => h.elim
  | [(n, φ)], h => hf k n φ h
  | (n, φ) :: (m, ψ) :: t, h => by
    rcases h with h | h
    · obtain ⟨x, h1, h2⟩ := hf k n φ h
      exact ⟨x, h1, .inl h2⟩
    · obtain ⟨x, h1, h2⟩ := someBag_reads hf (l := (m, ψ) :: t) h
      exact ⟨x, h1, .inr h2⟩
theorem readPt_reads {p : VV} {m : Nat} {k : List C → Prop} (h : readPt H p m k) : ∃ cs, k cs ∧ readPt H p m fun cs' => cs' = cs := by
  unfold readPt at h ⊢
  split at h
  · exact readAt_reads h
  · unfold readRp at h ⊢
    split at h
    · unfold readBox at h ⊢
      exact someBag_reads (f := fun k _ φ => ∃ cs, cellsAt φ _ = some cs ∧ _ + m ≤ cs.length ∧ k ((cs.drop _).take m)) (fun k n φ h => by
        obtain ⟨cs, h1, h2, h3⟩ := h
        exact ⟨_, h3, cs, h1, h2, rfl⟩) h
    · unfold readRow at h ⊢
      split at h
      · rename_i kd hkd
        obtain ⟨hg, h⟩ := guardP_iff.1 h
        obtain ⟨cs, h1, h2⟩ := someBag_reads (f := fun k _ φ => ∃ cap xs, φ _ = some (.row kd cap xs) ∧ readAt (.arr kd xs) _ _ m k) (fun k n φ h => by
          obtain ⟨cap, xs, h1, h2⟩ := h
          obtain ⟨cs, h3, h4⟩ := readAt_reads h2
          exact ⟨cs, h3, cap, xs, h1, h4⟩) h
        exact ⟨cs, h1, guardP_iff.2 ⟨hg, h2⟩⟩
      · exact h.elim
  · unfold readLay at h ⊢
    split at h
    · rename_i kd hkd
      obtain ⟨hg, h⟩ := guardP_iff.1 h
      obtain ⟨cs, h1, h2⟩ := someBag_reads (f := fun k _ φ => ∃ xs ob, HasV φ _ _ kd xs ob ∧ readAt (.ro kd xs) _ _ m k) (fun k n φ h => by
        obtain ⟨xs, ob, h1, h2⟩ := h
        obtain ⟨cs, h3, h4⟩ := readAt_reads h2
        exact ⟨cs, h3, xs, ob, h1, h4⟩) h
      exact ⟨cs, h1, guardP_iff.2 ⟨hg, h2⟩⟩
    · exact h.elim
  · exact h.elim
theorem readPt_mono {p : VV} {m : Nat} {k k' : List C → Prop} (h : readPt H p m k) (hk : ∀ cs, k cs → k' cs) : readPt H p m k' := by
  unfold readPt at h ⊢
  split at h
  · exact readAt_mono h hk
  · unfold readRp at h ⊢
    split at h
    · unfold readBox at h ⊢
      exact someBag_mono (fun n φ h => by
        obtain ⟨cs, h1, h2, h3⟩ := h
        exact ⟨cs, h1, h2, hk _ h3⟩) h
    · unfold readRow at h ⊢
      split at h
      · obtain ⟨hg, h⟩ := guardP_iff.1 h
        exact guardP_iff.2 ⟨hg, someBag_mono (fun n φ h => by
          obtain ⟨cap, xs, h1, h2⟩ := h
          exact ⟨cap, xs, h1, readAt_mono h2 hk⟩) h⟩
      · exact h.elim
  · unfold readLay at h ⊢
    split at h
    · obtain ⟨hg, h⟩ := guardP_iff.1 h
      exact guardP_iff.2 ⟨hg, someBag_mono (fun n φ h => by
        obtain ⟨xs, ob, h1, h2⟩ := h
        exact ⟨xs, ob, h1, readAt_mono h2 hk⟩) h⟩
    · exact h.elim
  · exact h.elim
theorem reads_load0 (t : TypeId) (x : VV) : Reads H (evLoad0 P t x H) := fun k h => by
  unfold evLoad0 at h ⊢
  split at h
  · split at h
    · obtain ⟨cs, hk, hr⟩ := readPt_reads h
      exact ⟨_, hk, readPt_mono hr fun cs' e => by subst e; exact same_rfl⟩
    · obtain ⟨cs, hk, hr⟩ := readPt_reads h
      split at hk
      · exact ⟨_, hk, readPt_mono hr fun cs' e => by subst e; exact same_rfl⟩
      · exact hk.elim
  · exact h.elim
theorem reads_load (t : TypeId) (x : VV) : Reads H (evLoad P t x H) := fun k h => by
  have pull : ∀ {A : Type} {b j : Nat} {g : A → C}, (anyBag H fun _ φ => ∃ a, boxAt φ b j = some (g a) ∧ k (.c (g a)) H) → ∃ v, k v H ∧ anyBag H fun _ φ => ∃ a, boxAt φ b j = some (g a) ∧ Same H v (.c (g a)) H := fun {A b j g} h => by
    obtain ⟨a, h⟩ := someBag_pull (f := fun a _ φ => boxAt φ b j = some (g a) ∧ k (.c (g a)) H) h
    exact ⟨.c (g a), (anyBag_at h).choose_spec.choose_spec.2.2, someBag_mono (fun n φ h => ⟨a, h.1, same_rfl⟩) h⟩
  unfold evLoad at h ⊢
  split at h
  · rename_i e b i j
    split at h
    · unfold evLoadB at h ⊢
      split at h
      · split at h
        · rename_i kd hkd
          obtain ⟨hg, h⟩ := guardP_iff.1 h
          obtain ⟨a, h⟩ := someBag_pull (f := fun a _ φ => cellsAt φ b = some (K.enc kd a) ∧ k (.agg (K.enc kd a)) H) h
          exact ⟨_, (anyBag_at h).choose_spec.choose_spec.2.2, guardP_iff.2 ⟨hg, someBag_mono (fun n φ h => ⟨a, h.1, same_rfl⟩) h⟩⟩
        · exact reads_load0 t _ k h
      · split at h
        · exact pull h
        · exact pull h
        · exact pull h
        · exact reads_load0 t _ k h
    · exact h.elim
  · exact reads_load0 t _ k h
theorem reads_loadG (t : TypeId) (g : Nat) (c : C) : Reads H (evLoadG P t g c H) := fun k h => by
  unfold evLoadG at h ⊢
  split at h
  · split at h
    · exact h.elim
    · exact ⟨.c c, (anyBag_at h).choose_spec.choose_spec.2.2, someBag_mono (fun n φ h => ⟨h.1, same_rfl⟩) h⟩
  · exact h.elim
theorem reads_fieldAddr (t : TypeId) (x : VV) (i : Nat) : Reads H (evFieldAddr P t x i H) := fun k h => by
  unfold evFieldAddr at h ⊢
  split at h
  · split at h
    · split at h
      · obtain ⟨hg, hk⟩ := guardP_iff.1 h; exact ⟨_, hk, guardP_iff.2 ⟨hg, same_rfl⟩⟩
      · exact h.elim
    · exact h.elim
  · split at h
    · split at h
      · obtain ⟨hg, hk⟩ := guardP_iff.1 h; exact ⟨_, hk, guardP_iff.2 ⟨hg, same_rfl⟩⟩
      · exact h.elim
    · exact h.elim
  · split at h
    · split at h
      · obtain ⟨hg, hk⟩ := guardP_iff.1 h; exact ⟨_, hk, guardP_iff.2 ⟨hg, same_rfl⟩⟩
      · exact h.elim
    · exact h.elim
  · exact h.elim
theorem idxSplit_reads {z : Int} {g : Nat → VV} {k : VV → VH K → Prop} : ∀ {m q : Nat}, idxSplit z (fun q => k (g q) H) m q → (q : Int) ≤ z → z < (q : Int) + m →
    k (g z.toNat) H ∧ idxSplit z (fun q => Same H (g z.toNat) (g q) H) m q
  | 0, q, _, h1, h2 => by omega
  | m + 1, q, h, h1, h2 => by
    simp only [idxSplit] at h ⊢
    by_cases e : z = (q : Int)
    · subst e
      simp only [decide_true, ite2] at h ⊢
      exact ⟨by simpa using h, by simpa using same_rfl⟩
    · simp only [e, decide_false, ite2] at h ⊢
      exact idxSplit_reads h (by omega) (by omega)
theorem reads_indexAddr (t : TypeId) (x i : VV) : Reads H (evIndexAddr P t x i H) := fun k h => by
  unfold evIndexAddr at h ⊢
  split at h
  · split at h
    · obtain ⟨h1, h2, h3, hg⟩ := h
      obtain ⟨hg, hk⟩ := guardP_iff.1 hg
      exact ⟨_, hk, h1, h2, h3, guardP_iff.2 ⟨hg, same_rfl⟩⟩
    · exact h.elim
  · obtain ⟨h1, hg⟩ := h
    obtain ⟨hg, hk⟩ := guardP_iff.1 hg
    exact ⟨_, hk, h1, guardP_iff.2 ⟨hg, same_rfl⟩⟩
  · obtain ⟨h1, hg⟩ := h
    obtain ⟨hg, hk⟩ := guardP_iff.1 hg
    exact ⟨_, hk, h1, guardP_iff.2 ⟨hg, same_rfl⟩⟩
  · rename_i z len e n i j hu
    split at h
    · rename_i inf _
      obtain ⟨h1, h2⟩ := h
      have := idxSplit_reads (g := fun q => VV.c (.ptr n i (j + q * inf.size))) h2 (by simpa using h1.1) (by simpa using h1.2)
      exact ⟨_, this.1, h1, this.2⟩
    · exact h.elim
  · exact h.elim
theorem reads_cut (t : TypeId) (x : VV) (lo hi mx : Option VV) : Reads H (evCut P t x lo hi mx H) := fun k h => by
  unfold evCut at h ⊢
  split at h
  · split at h
    · exact ⟨_, h.2, h.1, same_rfl⟩
    · exact h.elim
  · split at h
    · obtain ⟨hg, h⟩ := guardP_iff.1 h
      split at h
      · exact ⟨_, h.2.2, guardP_iff.2 ⟨hg, h.1, h.2.1, same_rfl⟩⟩
      · split at h
        · exact ⟨_, h.2.2, guardP_iff.2 ⟨hg, h.1, h.2.1, same_rfl⟩⟩
        · exact h.elim
    · exact h.elim
  · split at h
    · obtain ⟨hg, h⟩ := guardP_iff.1 h
      split at h
      · exact ⟨_, h.2, guardP_iff.2 ⟨hg, h.1, same_rfl⟩⟩
      · split at h
        · exact ⟨_, h.2, guardP_iff.2 ⟨hg, h.1, same_rfl⟩⟩
        · exact h.elim
    · exact h.elim
  · exact h.elim
theorem reads_op (tab : Tab P K) {fr : List VV} {o : Oper} (hr : isReader o.op = true) : Reads H (evOp tab fr o H) := by
  obtain ⟨dst, op, type, pos, after, guard⟩ := o
  intro k h
  cases op <;> simp only [evOp] at h ⊢ <;> try (cases hr; done)
  case move x => exact ⟨_, h, same_rfl⟩
  case pick c x y =>
    split at h
    · exact Reads.of (readsV_ite (readsV_at _) (readsV_at _)) k h
    · exact h.elim
  case build t ps => exact Reads.of (readsV_build _ _) k h
  case load t x =>
    split at h
    · split at h
      · obtain ⟨v, h1, h2⟩ := reads_loadG t _ _ k h
        exact ⟨v, h1, by assumption⟩
      · exact reads_load t _ k h
    · exact reads_load t _ k h
  case nilCheck x =>
    split at h
    · exact ⟨_, h, same_rfl⟩
    · exact ⟨_, h, same_rfl⟩
    · exact h.elim
  case binOp op t x y t' =>
    split at h
    · exact Reads.of (readsV_guard (readsV_agg _ _ _ _)) k h
    · exact Reads.of (readsV_bin _ _ _ _) k h
  case unOp op t x => exact Reads.of (readsV_un _ _) k h
  case convert s d x => exact Reads.of (readsV_conv _ _ _) k h
  case slice t x lo hi mx => exact reads_cut _ _ _ _ _ k h
  case fieldAddr t x f => exact reads_fieldAddr _ _ _ k h
  case field t x f => exact Reads.of (readsV_field _ _ _) k h
  case indexAddr t x i => exact reads_indexAddr _ _ _ k h
  case index t x i => exact Reads.of (readsV_index _ _ _) k h
  case extract x i => exact Reads.of (readsV_extract _ _) k h
  case call c =>
    obtain ⟨callee, args, ats⟩ := c
    cases callee with
    | builtin b =>
      simp only at h ⊢
      unfold evBuiltin at h ⊢
      split at h
      · exact Reads.of (readsV_len _ _) k h
      · exact Reads.of (readsV_mm _ _ _) k h
      · exact Reads.of (readsV_mm _ _ _) k h
      · cases hr
      · cases hr
      · exact h.elim
    | value f => cases hr
    | invoke x m => cases hr
theorem reads_val (tab : Tab P K) {ops : Array Oper} {fr : List VV} {o : Oper} (hr : isReader o.op = true) : Reads H (evVal tab ops fr o H) := fun k h => by
  unfold evVal at h ⊢
  split at h
  · exact reads_op tab hr k h
  · split at h
    · split at h
      · rename_i b _
        rcases ite2_of h with ⟨rfl, h⟩ | ⟨rfl, h⟩ <;> simp only [ite2] <;> split at h <;> first | exact reads_op tab hr k h | exact ⟨_, h, same_rfl⟩
      · exact ⟨_, h, same_rfl⟩
      · exact h.elim
    · exact h.elim
def maskFrom (U : Nat → Bool) : Nat → VH K → VH K
  | _, [] => []
  | n, a :: l => (match U n with | true => .gone | false => a) :: maskFrom U (n + 1) l
def maskH (U : Nat → Bool) (H : VH K) : VH K := maskFrom U 0 H
theorem maskFrom_len {U : Nat → Bool} : ∀ {n : Nat} {H : VH K}, (maskFrom U n H).length = H.length
  | _, [] => rfl
  | n, a :: l => by simp [maskFrom, maskFrom_len]
theorem maskFrom_at {U : Nat → Bool} : ∀ {n : Nat} {H : VH K} (m : Nat), at_ (maskFrom U n H) m = if U (n + m) then .gone else at_ H m
  | n, [], m => by simp [maskFrom, at_]
  | n, a :: l, 0 => by simp only [maskFrom, at_, List.getD_cons_zero, Nat.add_zero]; cases U n <;> rfl
  | n, a :: l, m + 1 => by
    have := maskFrom_at (U := U) (n := n + 1) (H := l) m
    rw [show n + (m + 1) = n + 1 + m by omega]
    simpa [maskFrom, at_] using this
theorem maskH_len {U : Nat → Bool} : (maskH U H).length = H.length := maskFrom_len
theorem maskH_at {U : Nat → Bool} (m : Nat) : at_ (maskH U H) m = if U m then .gone else at_ H m := by
  have := maskFrom_at (U := U) (n := 0) (H := H) m
  rwa [Nat.zero_add] at this
def restFrom (U : Nat → Bool) (H : VH K) : Nat → VH K → VH K
  | _, [] => []
  | n, a :: l => (match U n with | true => at_ H n | false => a) :: restFrom U H (n + 1) l
def restore (U : Nat → Bool) (H Hm : VH K) : VH K := restFrom U H 0 Hm
theorem restFrom_len {U : Nat → Bool} {H : VH K} : ∀ {n : Nat} {Hm : VH K}, (restFrom U H n Hm).length = Hm.length
  | _, [] => rfl
  | n, a :: l => by simp [restFrom, restFrom_len]
theorem restFrom_at {U : Nat → Bool} {H : VH K} : ∀ {n : Nat} {Hm : VH K} (m : Nat), m < Hm.length → at_ (restFrom U H n Hm) m = if U (n + m) then at_ H (n + m) else at_ Hm m
  | n, a :: l, 0, _ => by simp only [restFrom, at_, List.getD_cons_zero, Nat.add_zero]; cases U n <;> rfl
  | n, a :: l, m + 1, h => by
    have := restFrom_at (U := U) (H := H) (n := n + 1) (Hm := l) m (by simpa using h)
    rw [show n + (m + 1) = n + 1 + m by omega]
    simpa [restFrom, at_] using this
  | n, [], m, h => by simp at h
theorem restore_len {U : Nat → Bool} {Hm : VH K} : (restore U H Hm).length = Hm.length := restFrom_len
theorem restore_at {U : Nat → Bool} {Hm : VH K} (m : Nat) (h : m < Hm.length) : at_ (restore U H Hm) m = if U m then at_ H m else at_ Hm m := by
  have := restFrom_at (U := U) (H := H) (n := 0) (Hm := Hm) m h
  rwa [Nat.zero_add] at this
theorem HeapOK.mask (st : HeapOK S w0 r H w) (U : Nat → Bool) : HeapOK (Ours r (maskH U H)) w r (maskH U H) w := by
  have blk : ∀ n b, blkOf r (maskH U H) n b → U n = false ∧ blkOf r H n b := fun n b hb => by
    unfold blkOf at hb ⊢
    rw [maskH_at] at hb
    cases hU : U n with
    | true => rw [hU] at hb; simp [Atom.has] at hb
    | false => rw [hU] at hb; exact ⟨rfl, by simpa using hb⟩
  refine ⟨fun n => ?_, fun n => ?_, fun n m b hne hb hb' => st.inj n m b hne (blk n b hb).2 (blk m b hb').2, fun n b hb => .inl ⟨n, hb⟩, fun n m b hn hm => st.ro n m b ?_ (blk m b hm).2, Out.refl _ w⟩
  · rw [maskH_at]; split
    · trivial
    · exact st.ok n
  · rw [maskH_at, maskH_len]; split
    · trivial
    · exact st.lt n
  · unfold rbOf at hn ⊢
    rw [maskH_at] at hn
    cases hU : U n with
    | true => rw [hU] at hn; simp [Atom.rb] at hn
    | false => rw [hU] at hn; simpa using hn
/-- What an operation does to what it sees, it does beside what it doesn't see. -/
theorem After.unmask (st : HeapOK S w0 r H w) {U : Nat → Bool} {k : VV → VH K → Prop} {v' : Value} {w' : World} (h : After (Ours r (maskH U H)) w r (maskH U H) k v' w') :
    ∃ r' vv Hm, k vv Hm ∧ vv.is r' v' ∧ vv.lt Hm.length ∧ H.length ≤ Hm.length ∧ (∀ n, n < H.length → r' n = r n) ∧ HeapOK S w0 r' (restore (fun n => U n && Nat.blt n H.length) H Hm) w' := by
  obtain ⟨r', vv, Hm, hk, hv, hl, hle, hr, hrk, st2⟩ := h
  rw [maskH_len] at hle hr
  refine ⟨r', vv, Hm, hk, hv, hl, hle, hr, ?_⟩
  have at3 : ∀ n, n < Hm.length → ¬ (U n = true ∧ n < H.length) → at_ (restore (fun n => U n && Nat.blt n H.length) H Hm) n = at_ Hm n := fun n hn h => by
    rw [restore_at n hn]
    have : (U n && Nat.blt n H.length) = false := by
      cases hU : U n with
      | false => rfl
      | true =>
        cases hb : Nat.blt n H.length with
        | false => rfl
        | true => exact absurd ⟨hU, by simpa [Nat.blt_eq] using hb⟩ h
    rw [this]; simp
  have blkm : ∀ m b, blkOf r (maskH U H) m b → U m = false ∧ m < H.length ∧ blkOf r H m b := fun m b hb => by
    have hlt : m < (maskH U H).length := at_lt fun e => by rw [blkOf, e] at hb; simp [Atom.has] at hb
    rw [maskH_len] at hlt
    unfold blkOf at hb ⊢
    rw [maskH_at] at hb
    cases hU : U m with
    | true => rw [hU] at hb; simp [Atom.has] at hb
    | false => rw [hU] at hb; exact ⟨rfl, hlt, by simpa using hb⟩
  have inb : ∀ n b, blkOf r' (restore (fun n => U n && Nat.blt n H.length) H Hm) n b → n < Hm.length := fun n b hb => by
    have := at_lt (H := restore (fun n => U n && Nat.blt n H.length) H Hm) (n := n) fun e => by rw [blkOf, e] at hb; simp [Atom.has] at hb
    rwa [restore_len] at this
  have free : ∀ n, (U n = false ∨ H.length ≤ n) → ¬ (U n = true ∧ n < H.length) := fun n h hh => by
    rcases h with h | h
    · rw [h] at hh; cases hh.1
    · omega
  refine st.evolve (fun n => U n = false) (fun n hn => ?_) (by rw [restore_len]; exact hle) hr (fun n hn hT => ?_) st2.out.os st2.out.tape st2.out.output st2.out.size (fun b hb hne => ?_) (fun n hn hc => ?_) (fun n b hc hb => ?_) (fun n m b hne hc hc' hb hb' => ?_)
  · have hnl : n < Hm.length := by
      have := at_lt (H := restore (fun n => U n && Nat.blt n H.length) H Hm) (n := n) fun e => by rw [e] at hn; cases hn
      rwa [restore_len] at this
    by_cases hf : U n = true ∧ n < H.length
    · exact ⟨hf.2, by rw [restore_at n hnl]; simp [hf.1, hf.2]⟩
    · rw [at3 n hnl hf] at hn ⊢
      obtain ⟨h1, h2⟩ := hrk n hn
      rw [maskH_len] at h1
      have hU : U n = false := by cases h : U n with | false => rfl | true => exact absurd ⟨h, h1⟩ hf
      rw [maskH_at, hU] at h2
      exact ⟨h1, h2⟩
  · have hU : U n = true := by cases h : U n <;> simp_all
    rw [restore_at n (by omega)]
    simp [hU, hn]
  · refine st2.out.block b hb fun hs => ?_
    obtain ⟨m, hm⟩ := hs
    obtain ⟨h1, _, h2⟩ := blkm m b hm
    exact hne m h1 h2
  · rw [restore_len] at hn ⊢
    rw [at3 n hn (free n hc)]
    exact ⟨st2.ok n, st2.lt n⟩
  · have hn := inb n b hb
    rw [blkOf, at3 n hn (free n hc)] at hb
    rcases st2.own n b hb with ⟨q, hq⟩ | hge
    · obtain ⟨h1, _, h2⟩ := blkm q b hq
      exact .inl ⟨q, h1, h2⟩
    · exact .inr hge
  · have hn := inb n b hb
    have hm := inb m b hb'
    rw [blkOf, at3 n hn (free n hc)] at hb
    rw [blkOf, at3 m hm (free m hc')] at hb'
    exact st2.inj n m b hne hb hb'
end Go.Proofs.YtoidibkcdkdneaaGreatDoor.E
end
