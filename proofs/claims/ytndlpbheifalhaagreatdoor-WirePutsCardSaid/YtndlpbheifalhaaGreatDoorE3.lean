/- What an operation that calls nothing does to a state by names: as a statement that evaluation opens, and why it is so. First part: memory. -/
import Derived.Test.YtndlpbheifalhaaGreatDoorE2
import Derived.IntWalk
import Derived.Tactics
namespace Go.Proofs.YtndlpbheifalhaaGreatDoor.E
set_option linter.unusedVariables false
set_option linter.unusedSimpArgs false
variable {K : Kinds} {P : Program} {S : Nat → Prop} {w0 w : World} {r : Nat → Ref} {H : VH K}
/-- What stands behind an operation. -/
def After (S : Nat → Prop) (w0 : World) (r : Nat → Ref) (H : VH K) (k : VV → VH K → Prop) (v' : Value) (w' : World) : Prop :=
  ∃ r' vv H', k vv H' ∧ vv.is r' v' ∧ vv.lt H'.length ∧ H.length ≤ H'.length ∧ (∀ n, n < H.length → r' n = r n) ∧ RoKeep H H' ∧ HeapOK S w0 r' H' w'
theorem After.pure {k : VV → VH K → Prop} {vv : VV} {v : Value} (st : HeapOK S w0 r H w) (h : k vv H) (hv : vv.is r v) (hl : vv.lt H.length) : After S w0 r H k v w :=
  ⟨r, vv, H, h, hv, hl, Nat.le_refl _, fun _ _ => rfl, RoKeep.refl H, st⟩
def ofConstC : Value → C
  | .bool b => .bool b
  | .int k n => .int k n
  | .string s => .str s
  | .pointer none => .nilp
  | .slice none 0 0 => .nils
  | v => .lit v
theorem ofConstC_is (v : Value) : (ofConstC v).is r v := by
  unfold ofConstC; split <;> rfl
theorem ofConstC_nm (v : Value) : (ofConstC v).nm = none := by unfold ofConstC; split <;> rfl
theorem lt_of_nm {c : C} {N : Nat} (h : c.nm = none) : c.lt N := fun n hn => by rw [h] at hn; cases hn
theorem ofConstL_rel : ∀ l : List Value, Rel r (l.map ofConstC) l
  | [] => trivial
  | v :: l => ⟨ofConstC_is v, ofConstL_rel l⟩
def ofConst : Value → VV
  | .agg cs => .agg (cs.toList.map ofConstC)
  | .tuple _ => .any
  | v => .c (ofConstC v)
theorem ofConst_is (v : Value) : (ofConst v).is r v := by
  unfold ofConst; split
  · exact ⟨_, by simp, ofConstL_rel _⟩
  · trivial
  · exact ofConstC_is v
theorem ofConst_lt (v : Value) (N : Nat) : (ofConst v).lt N := by
  unfold ofConst; split
  · intro c hc; obtain ⟨u, _, rfl⟩ := List.mem_map.1 hc; exact lt_of_nm (ofConstC_nm u)
  · trivial
  · exact lt_of_nm (ofConstC_nm v)
def VV.cs : VV → Option (List C)
  | .one (.c x) => some [x]
  | .one (.agg l) => some l
  | _ => none
theorem cs_is {vv : VV} {cs : List C} {v : Value} {N : Nat} (h : vv.cs = some cs) (hv : vv.is r v) (hl : vv.lt N) (h1 : cs.all C.one = true) : ∃ vs, v.cells = vs.toArray ∧ Rel r cs vs ∧ ∀ c ∈ cs, c.lt N ∧ c.one = true := by
  have h1' : ∀ c ∈ cs, c.one = true := fun c hc => List.all_eq_true.1 h1 c hc
  cases vv with
  | any => cases h
  | tup l => cases h
  | one x =>
    cases x with
    | c x =>
      injection h with h; subst h
      have hx := C.one_is (h1' x (by simp)) hv
      refine ⟨[v], ?_, ⟨hv, trivial⟩, fun c hc => ?_⟩
      · cases v <;> first | rfl | cases hx
      · simp at hc; subst hc; exact ⟨hl, h1' _ (by simp)⟩
    | agg l =>
      injection h with h; subst h
      obtain ⟨vs, rfl, hr⟩ := hv
      exact ⟨vs, rfl, hr, fun c hc => ⟨hl c hc, h1' c hc⟩⟩
/-! ### load, store -/
def isRowB : TypeDesc → Bool
  | .struct _ | .array _ _ => true
  | _ => false
def evLoad (P : Program) (T : TypeId) (p : VV) (H : VH K) (k : VV → VH K → Prop) : Prop :=
  match P.info? T, P.underlying T with
  | some inf, some d =>
    match isRowB d with
    | true => readPt H p inf.size fun cs => k (.agg cs) H
    | false => readPt H p 1 fun cs => match cs with | [c] => k (.c c) H | _ => False
  | _, _ => False
theorem evLoad_exact' (hK : K.Ok) (st : HeapOK S w0 r H w) {T : TypeId} {p : VV} {k : VV → VH K → Prop} (h : evLoad P T p H k) {v : Value} (hp : p.is r v) :
    ∃ v' vv, (Instr.loadAt T v).run P w = .ok v' w ∧ (k vv H ∧ vv.is r v' ∧ vv.lt H.length) ∧ ∃ ad, v = .pointer (some ad) := by
  unfold evLoad at h
  split at h
  · rename_i inf d hi hu
    split at h
    · rename_i hd
      obtain ⟨b, o, cs, vs, rfl, hk, hr, hlen, hcs, hrange⟩ := readPt_sound hK st h hp
      refine ⟨_, .agg cs, run_loadAt_mid (P := P) w _ _ T vs d hrange hu (by cases d <;> simp_all [isRowB]) (by rw [hi]; simp [hr.length, hlen]), ?_, _, rfl⟩
      exact ⟨hk, ⟨vs, rfl, hr⟩, fun c hc => (hcs c hc).1⟩
    · rename_i hd
      obtain ⟨b, o, cs, vs, rfl, hk, hr, hlen, hcs, hrange⟩ := readPt_sound hK st h hp
      split at hk
      · rename_i c
        match vs, hr with
        | [u], hr =>
          refine ⟨u, .c c, ?_, ⟨hk, hr.1, (hcs c (by simp)).1⟩, _, rfl⟩
          have hc := hrange 0 u rfl
          have hagg : (isAgg T).run P w = .ok false w := by
            unfold isAgg
            rw [Sem.run_bind, run_underlying hu w]
            cases d <;> simp_all [isRowB]
          simp only [Nat.add_zero] at hc
          simp [Instr.loadAt, Instr.sureAddr, loadVar, hagg, hc]
      · exact hk.elim
  · exact h.elim
theorem evLoad_exact (hK : K.Ok) (st : HeapOK S w0 r H w) {T : TypeId} {p : VV} {k : VV → VH K → Prop} (h : evLoad P T p H k) {v : Value} (hp : p.is r v) :
    ∃ v' vv, (Instr.loadAt T v).run P w = .ok v' w ∧ k vv H ∧ vv.is r v' ∧ vv.lt H.length := by
  obtain ⟨v', vv, h1, h2, _⟩ := evLoad_exact' hK st h hp
  exact ⟨v', vv, h1, h2⟩
theorem evLoad_sound (hK : K.Ok) (st : HeapOK S w0 r H w) {T : TypeId} {p : VV} {k : VV → VH K → Prop} (h : evLoad P T p H k) {v : Value} (hp : p.is r v) :
    ∃ v', (Instr.loadAt T v).run P w = .ok v' w ∧ After S w0 r H k v' w := by
  obtain ⟨v', vv, hr, hk, hv, hl⟩ := evLoad_exact hK st h hp
  exact ⟨v', hr, After.pure st hk hv hl⟩
def evStore (P : Program) (T : TypeId) (p v : VV) (H : VH K) (k : VV → VH K → Prop) : Prop :=
  match p, P.info? T, v.cs with
  | .one (.c (.ptr n i j)), some inf, some cs => guardP (cs.length == inf.size && cs.all C.one) (writeAt H n i j cs fun H' => k .any H')
  | .one (.c (.rp e sz b i j)), some inf, some cs => guardP (cs.length == inf.size && cs.all C.one) (writeRp H e sz b i j cs fun H' => k .any H')
  | _, _, _ => False
theorem evStore_sound (hK : K.Ok) (st : HeapOK S w0 r H w) {T : TypeId} {p x : VV} {k : VV → VH K → Prop} (h : evStore P T p x H k) {v u : Value} (hp : p.is r v) (hx : x.is r u) (hxl : x.lt H.length) :
    ∃ w', (Instr.storeAt T v u).run P w = .ok () w' ∧ After S w0 r H k undef w' := by
  unfold evStore at h
  split at h
  · rename_i n i j inf cs hi hc
    obtain ⟨hg, h⟩ := guardP_iff.1 h
    simp only [Bool.and_eq_true, beq_iff_eq] at hg
    simp only [VV.is, V1.is, C.is] at hp
    subst hp
    obtain ⟨vs, hvs, hr, hcs⟩ := cs_is hc hx hxl hg.2
    obtain ⟨w', H', hrk, hrun, hk, hlen, st'⟩ := writeAt_sound hK h st hr (fun c hc => (hcs c hc).1)
    refine ⟨w', ?_, r, .any, H', hk, trivial, trivial, by omega, fun _ _ => rfl, hrk, st'⟩
    have hs := hr.length
    simp [Instr.storeAt, Instr.sureAddr, storeVar, sizeOf, typeInfo, hi, hvs, hs, hg.1, hrun P]
  · rename_i e sz b i j inf cs hi hc
    obtain ⟨hg, h⟩ := guardP_iff.1 h
    simp only [Bool.and_eq_true, beq_iff_eq] at hg
    simp only [VV.is, V1.is, C.is, C.plain] at hp
    subst hp
    obtain ⟨vs, hvs, hr, hcs⟩ := cs_is hc hx hxl hg.2
    obtain ⟨w', H', hrk, hrun, hk, hlen, st'⟩ := writeRp_sound hK h st hr
    refine ⟨w', ?_, r, .any, H', hk, trivial, trivial, by omega, fun _ _ => rfl, hrk, st'⟩
    have hs := hr.length
    simp [Instr.storeAt, Instr.sureAddr, storeVar, sizeOf, typeInfo, hi, hvs, hs, hg.1, hrun P]
  · exact h.elim
/-! ### new memory -/
def evNew (T : TypeId) (cs : List C) (H : VH K) (k : VV → VH K → Prop) : Prop := guardP (cs.all C.one) (k (.c (.ptr H.length 0 0)) (H ++ [.cells T cs]))
theorem evNew_sound (st : HeapOK S w0 r H w) {T : TypeId} {cs : List C} {k : VV → VH K → Prop} (h : evNew T cs H k) {vs : List Value} (hr : Rel r cs vs) (hl : ∀ c ∈ cs, c.lt H.length) :
    After S w0 r H k (.pointer (some ⟨w.heap.size, 0, none⟩)) (w.alloc (.cells vs.toArray T)) := by
  obtain ⟨hg, h⟩ := guardP_iff.1 h
  refine ⟨_, _, _, h, ?_, ?_, ?_, ?_, RoKeep.push rfl, st.pushCells T hr (fun c hc => ⟨hl c hc, List.all_eq_true.1 hg c hc⟩) ⟨w.heap.size, 0, 0, false, 0⟩ rfl ⟨rfl, rfl⟩⟩
  · simp [VV.is, V1.is, C.is, upd_new]
  · intro n hn; simp [C.nm] at hn; subst hn; simp
  · simp
  · exact fun n hn => upd_old hn
def evAlloc (P : Program) (T : TypeId) (H : VH K) (k : VV → VH K → Prop) : Prop :=
  match (P.info? T).bind (·.zero) with
  | some z => evNew T (z.cells.toList.map ofConstC) H k
  | none => False
theorem evAlloc_sound (st : HeapOK S w0 r H w) {T : TypeId} {k : VV → VH K → Prop} (h : evAlloc P T H k) :
    ∃ v' w', (Instr.alloc T true (.tuple #[])).run P w = .ok v' w' ∧ After S w0 r H k v' w' := by
  unfold evAlloc at h
  split at h
  · rename_i z hz
    refine ⟨_, _, ?_, evNew_sound st h (ofConstL_rel _) (fun c hc => by obtain ⟨u, _, rfl⟩ := List.mem_map.1 hc; exact lt_of_nm (ofConstC_nm u))⟩
    obtain ⟨i, hi, hz⟩ := Option.bind_eq_some_iff.1 hz
    simp [Instr.alloc, zeroValue, typeInfo, hi, hz, newVar, newRow]
  · exact h.elim
def evBox (T : TypeId) (v : VV) (H : VH K) (k : VV → VH K → Prop) : Prop :=
  match v.cs with
  | some cs => evNew T cs H k
  | none => False
theorem evBox_sound (st : HeapOK S w0 r H w) {T : TypeId} {x : VV} {k : VV → VH K → Prop} (h : evBox T x H k) {u : Value} (hx : x.is r u) (hxl : x.lt H.length) :
    ∃ v' w', (Instr.box T u).run P w = .ok v' w' ∧ After S w0 r H k v' w' := by
  unfold evBox at h
  split at h
  · rename_i cs hc
    have hg := (guardP_iff.1 h).1
    obtain ⟨vs, hvs, hr, hcs⟩ := cs_is hc hx hxl hg
    refine ⟨_, _, ?_, evNew_sound st h hr (fun c hc => (hcs c hc).1)⟩
    simp [Instr.box, newVar, newRow, hvs]
  · exact h.elim
/-! ### addresses -/
def evFieldAddr (P : Program) (T : TypeId) (p : VV) (f : Nat) (H : VH K) (k : VV → VH K → Prop) : Prop :=
  match p, P.underlying T with
  | .one (.c (.ptr n i j)), some (.struct fs) =>
    match fs[f]? with
    | some fd => match P.info? fd.type with
      | some inf => guardP (!(inf.size == 0)) (k (.c (.ptr n i (j + fd.offset))) H)
      | none => False
    | none => False
  | .one (.c (.rp e sz b i j)), some (.struct fs) =>
    match fs[f]? with
    | some fd => match P.info? fd.type with
      | some inf => guardP (!(inf.size == 0)) (k (.c (.rp e sz b i (j + fd.offset))) H)
      | none => False
    | none => False
  | _, _ => False
theorem evFieldAddr_sound (st : HeapOK S w0 r H w) {T : TypeId} {p : VV} {f : Nat} {k : VV → VH K → Prop} (h : evFieldAddr P T p f H k) {v : Value} (hp : p.is r v) (hl : p.lt H.length) :
    ∃ v', (Instr.fieldAt T v f).run P w = .ok v' w ∧ After S w0 r H k v' w := by
  unfold evFieldAddr at h
  split at h
  · rename_i n i j fs hu
    simp only [VV.is, V1.is, C.is] at hp
    subst hp
    split at h
    · rename_i fd hf
      split at h
      · rename_i inf hi
        obtain ⟨hg, h⟩ := guardP_iff.1 h
        have hg' : inf.size ≠ 0 := by simpa using hg
        refine ⟨.pointer (some ⟨(r n).blk, (r n).off + (i * (r n).sz + (j + fd.offset)), none⟩), ?_, After.pure st h rfl hl⟩
        simp [Instr.fieldAt, run_underlying hu, hf, Instr.sureAddr, fieldPlace, sizeOf, typeInfo, hi, hg', Addr.add_mid, Nat.add_assoc]
      · exact h.elim
    · exact h.elim
  · rename_i e sz b i j fs hu
    simp only [VV.is, V1.is, C.is, C.plain] at hp
    subst hp
    split at h
    · rename_i fd hf
      split at h
      · rename_i inf hi
        obtain ⟨hg, h⟩ := guardP_iff.1 h
        have hg' : inf.size ≠ 0 := by simpa using hg
        refine ⟨.pointer (some ⟨b, i * sz + (j + fd.offset), none⟩), ?_, After.pure st h rfl (lt_of_nm rfl)⟩
        simp [Instr.fieldAt, run_underlying hu, hf, Instr.sureAddr, fieldPlace, sizeOf, typeInfo, hi, hg', Addr.add_mid, Nat.add_assoc]
      · exact h.elim
    · exact h.elim
  · exact h.elim
def idxSplit (z : Int) (f : Nat → Prop) : Nat → Nat → Prop
  | 0, _ => True
  | m + 1, q => ite2 (decide (z = (q : Int))) (f q) (idxSplit z f m (q + 1))
theorem idxSplit_sound {z : Int} {f : Nat → Prop} : ∀ {m q : Nat}, idxSplit z f m q → (q : Int) ≤ z → z < (q : Int) + m → f z.toNat
  | 0, q, _, h1, h2 => by omega
  | m + 1, q, h, h1, h2 => by
    rcases ite2_of h with ⟨hd, hf⟩ | ⟨hd, hr⟩
    · have := of_decide_eq_true hd; subst this; simpa using hf
    · have := of_decide_eq_false hd
      exact idxSplit_sound hr (by omega) (by omega)
def capOk (z : Int) (q : Option Nat) : Prop := match q with | some c => z < (c : Int) | none => True
def evIndexAddr (P : Program) (T : TypeId) (x ix : VV) (H : VH K) (k : VV → VH K → Prop) : Prop :=
  match ix, P.underlying T, x with
  | .one (.c (.int _ z)), some (.slice e), .one (.c (.slc n lo len cap)) =>
    match (at_ H n).lst with
    | some ⟨kd, xs⟩ => (0 ≤ z ∧ z < (len : Int)) ∧ z.toNat + lo < xs.length ∧ capOk z cap ∧ guardP (P.cellsOf e == K.size kd && (P.info? e).isSome) (k (.c (.ptr n (z.toNat + lo) 0)) H)
    | _ => False
  | .one (.c (.int _ z)), some (.slice e), .one (.c (.rs e' sz x)) => (0 ≤ z ∧ z < (x.len : Int)) ∧ guardP (e == e' && (P.cellsOf e == sz && (P.info? e).isSome)) (k (.c (.rp e sz x.blk (x.lo + z.toNat) 0)) H)
  | .one (.c (.int _ z)), some (.array len e), .one (.c (.ptr n i j)) =>
    match P.info? e with
    | some inf => (0 ≤ z ∧ z < (len : Int)) ∧ idxSplit z (fun q => k (.c (.ptr n i (j + q * inf.size))) H) len 0
    | none => False
  | _, _, _ => False
theorem evIndexAddr_sound (hK : K.Ok) (st : HeapOK S w0 r H w) {T : TypeId} {x ix : VV} {k : VV → VH K → Prop} (h : evIndexAddr P T x ix H k) {v u : Value} (hx : x.is r v) (hix : ix.is r u) (hl : x.lt H.length) :
    ∃ v', (Instr.indexAt T v u).run P w = .ok v' w ∧ After S w0 r H k v' w := by
  unfold evIndexAddr at h
  split at h
  · rename_i kk z e n lo len cap hu
    simp only [VV.is, V1.is, C.is, C.plain] at hx hix
    subst hix
    split at h
    · rename_i kd xs ha
      rw [Nat.add_comm z.toNat lo] at h
      obtain ⟨hz, hlt, hcap, h⟩ := h
      obtain ⟨hg, h⟩ := guardP_iff.1 h
      simp only [Bool.and_eq_true, beq_iff_eq] at hg
      obtain ⟨hsz, hxc, hnl, _⟩ := lst_ok hK ha (st.ok n)
      have hnl := hnl (by omega)
      obtain ⟨i, hi⟩ := Option.isSome_iff_exists.1 hg.2
      have hcs : i.size = K.size kd := by rw [← hg.1]; simp [Program.cellsOf, hi]
      obtain ⟨a, rfl, hor⟩ := hx
      have hcap' : ¬ (cap.getD ((r n).cap - lo) = 0) := by
        cases cap with
        | none => simp only [Option.getD_none]; omega
        | some c => simp only [capOk] at hcap; simp only [Option.getD_some]; omega
      have ha' : a = some ⟨(r n).blk, (r n).off + lo * (r n).sz, none⟩ := by
        rcases hor with ⟨_, h0⟩ | h'
        · exact absurd h0 hcap'
        · simpa [hnl] using h'
      subst ha'
      refine ⟨.pointer (some ⟨(r n).blk, (r n).off + ((lo + z.toNat) * (r n).sz + 0), none⟩), ?_, After.pure st h rfl (fun m hm => hl m hm)⟩
      simp [Instr.indexAt, asIntOf, run_underlying hu, hz, sizeOf, typeInfo, hi, Addr.add_mid, hsz, hcs, Nat.add_mul, Nat.add_assoc]
    · exact h.elim
  · rename_i kk z e e' sz x hu
    simp only [VV.is, V1.is, C.is, C.plain] at hx hix
    subst hix hx
    obtain ⟨hz, h⟩ := h
    obtain ⟨hg, h'⟩ := guardP_iff.1 h
    clear h
    simp only [Bool.and_eq_true, beq_iff_eq] at hg
    obtain ⟨rfl, hsz, hsome⟩ := hg
    have h := h'
    clear h'
    obtain ⟨i, hi⟩ := Option.isSome_iff_exists.1 hsome
    have hcs : i.size = sz := by rw [← hsz]; simp [Program.cellsOf, hi]
    cases x with
    | nil => simp only [RS.len] at hz; omega
    | mk b lo len cap =>
      refine ⟨.pointer (some ⟨b, (lo + z.toNat) * sz + 0, none⟩), ?_, After.pure st h rfl (lt_of_nm rfl)⟩
      simp only [RS.len] at hz
      simp [RS.val, Instr.indexAt, asIntOf, run_underlying hu, hz, sizeOf, typeInfo, hi, Addr.add_lit, hcs, Nat.add_mul, Nat.add_assoc]
  · rename_i kk z len e n i j hu
    simp only [VV.is, V1.is, C.is, C.plain] at hx hix
    subst hix hx
    split at h
    · rename_i inf hi
      obtain ⟨hz, h⟩ := h
      have := idxSplit_sound h (by simpa using hz.1) (by simpa using hz.2)
      refine ⟨.pointer (some ⟨(r n).blk, (r n).off + (i * (r n).sz + (j + z.toNat * inf.size)), none⟩), ?_, After.pure st this rfl (fun m hm => hl m hm)⟩
      simp [Instr.indexAt, asIntOf, run_underlying hu, Instr.sureAddr, hz, sizeOf, typeInfo, hi, Addr.add_mid, Nat.add_assoc]
    · exact h.elim
  · exact h.elim
end Go.Proofs.YtndlpbheifalhaaGreatDoor.E
