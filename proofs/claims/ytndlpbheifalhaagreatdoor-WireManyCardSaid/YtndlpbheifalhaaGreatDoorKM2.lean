/- Text 3 of 13 texts that prove the statement of Vx; it holds without conditions beyond the statement's own. -/
import Derived.Laws.AppendOwn
import Derived.Laws.OwnMore
import Derived.Deep.MidRow
import Derived.Calls
import Derived.Deep.AppendSrc
import Derived.Maps.AppendAt
import Derived.IntWalk
import Derived.Tactics
import Derived.Test.YtndlpbheifalhaaGreatDoorKM1
namespace Go.Proofs.YtndlpbheifalhaaGreatDoor
end Go.Proofs.YtndlpbheifalhaaGreatDoor
namespace Go.Proofs.YtndlpbheifalhaaGreatDoor.E
end Go.Proofs.YtndlpbheifalhaaGreatDoor.E
namespace Go.Proofs.YtndlpbheifalhaaGreatDoor.T
end Go.Proofs.YtndlpbheifalhaaGreatDoor.T
namespace Go.Proofs.YtndlpbheifalhaaGreatDoor.TwireMany
end Go.Proofs.YtndlpbheifalhaaGreatDoor.TwireMany
namespace Go.Proofs.YtndlpbheifalhaaGreatDoor.V
end Go.Proofs.YtndlpbheifalhaaGreatDoor.V
section
namespace Go.Proofs.YtndlpbheifalhaaGreatDoor.E
set_option linter.unusedVariables false
set_option linter.unusedSimpArgs false
variable {K : Kinds} {P : Program} {S : Nat → Prop} {w0 w : World} {r : Nat → Ref} {H : VH K}
/-- What stands behind an operation. -/
def After (S : Nat → Prop) (w0 : World) (r : Nat → Ref) (H : VH K) (k : VV → VH K → Prop) (v' : Value) (w' : World) : Prop :=
  ∃ r' vv H', k vv H' ∧ vv.is r' v' ∧ vv.lt H'.length ∧ H.length ≤ H'.length ∧ (∀ n, n < H.length → r' n = r n) ∧ RoKeep H H' ∧ HeapOK S w0 r' H' w'
theorem After.pure {k : VV → VH K → Prop} {vv : VV} {v : Value} (st : HeapOK S w0 r H w) (h : k vv H) (hv : vv.is r v) (hl : vv.lt H.length) : After S w0 r H k v w :=
  ⟨r, vv, H, h, hv, hl, Nat.le_refl _, fun _ _ => rfl, RoKeep.refl H, st⟩
def ofConstC : Value → C
  | .bool b => .bool b
  | .int k n => .int k n
  | .string s => .str s
  | .pointer none => .nilp
  | .slice none 0 0 => .nils
  | v => .lit v
theorem ofConstC_is (v : Value) : (ofConstC v).is r v := by
  unfold ofConstC; split <;> rfl
theorem ofConstC_nm (v : Value) : (ofConstC v).nm = none := by unfold ofConstC; split <;> rfl
theorem lt_of_nm {c : C} {N : Nat} (h : c.nm = none) : c.lt N := fun n hn => by rw [h] at hn; cases hn
theorem ofConstL_rel : ∀ l : List Value, Rel r (l.map ofConstC) l
  | [] => trivial
  | v :: l => ⟨ofConstC_is v, ofConstL_rel l⟩
def ofConst : Value → VV
  | .agg cs => .agg (cs.toList.map ofConstC)
  | .tuple _ => .any
  | v => .c (ofConstC v)
theorem ofConst_is (v : Value) : (ofConst v).is r v := by
  unfold ofConst; split
  · exact ⟨_, by simp, ofConstL_rel _⟩
  · trivial
  · exact ofConstC_is v
theorem ofConst_lt (v : Value) (N : Nat) : (ofConst v).lt N := by
  unfold ofConst; split
  · intro c hc; obtain ⟨u, _, rfl⟩ := List.mem_map.1 hc; exact lt_of_nm (ofConstC_nm u)
  · trivial
  · exact lt_of_nm (ofConstC_nm v)
def VV.cs : VV → Option (List C)
  | .one (.c x) => some [x]
  | .one (.agg l) => some l
  | _ => none
theorem cs_is {vv : VV} {cs : List C} {v : Value} {N : Nat} (h : vv.cs = some cs) (hv : vv.is r v) (hl : vv.lt N) (h1 : cs.all C.one = true) : ∃ vs, v.cells = vs.toArray ∧ Rel r cs vs ∧ ∀ c ∈ cs, c.lt N ∧ c.one = true := by
  have h1' : ∀ c ∈ cs, c.one = true := fun c hc => List.all_eq_true.1 h1 c hc
  cases vv with
  | any => cases h
  | tup l => cases h
  | one x =>
    cases x with
    | c x =>
      injection h with h; subst h
      have hx := C.one_is (h1' x (by simp)) hv
      refine ⟨[v], ?_, ⟨hv, trivial⟩, fun c hc => ?_⟩
      · cases v <;> first | rfl | cases hx
      · simp at hc; subst hc; exact ⟨hl, h1' _ (by simp)⟩
    | agg l =>
      injection h with h; subst h
      obtain ⟨vs, rfl, hr⟩ := hv
      exact ⟨vs, rfl, hr, fun c hc => ⟨hl c hc, h1' c hc⟩⟩
def isRowB : TypeDesc → Bool
  | .struct _ | .array _ _ => true
  | _ => false
def evLoad0 (P : Program) (T : TypeId) (p : VV) (H : VH K) (k : VV → VH K → Prop) : Prop :=
  match P.info? T, P.underlying T with
  | some inf, some d =>
    match isRowB d with
    | true => readPt H p inf.size fun cs => k (.agg cs) H
    | false => readPt H p 1 fun cs => match cs with | [c] => k (.c c) H | _ => False
  | _, _ => False
/-- One cell of a block that isn't a row. -/
def boxAt (φ : Bag K) (b j : Nat) : Option C := (cellsAt φ b).bind fun cs => cs[j]?
/-- What lies in a box, by the type that is loaded. -/
def evLoadB (P : Program) (T : TypeId) (p : VV) (size : Nat) (d : TypeDesc) (b j : Nat) (H : VH K) (k : VV → VH K → Prop) : Prop :=
  match isRowB d with
  | true => match K.ofType T, j with
    | some kd, 0 => guardP (K.size kd == size) (anyBag H fun _ φ => ∃ x : K.α kd, cellsAt φ b = some (K.enc kd x) ∧ k (.agg (K.enc kd x)) H)
    | _, _ => evLoad0 P T p H k
  | false => match d with
    | .string => anyBag H fun _ φ => ∃ s : ByteArray, boxAt φ b j = some (.str s) ∧ k (.c (.str s)) H
    | .int kk => anyBag H fun _ φ => ∃ n : Int, boxAt φ b j = some (.int kk n) ∧ k (.c (.int kk n)) H
    | .bool => anyBag H fun _ φ => ∃ n : Bool, boxAt φ b j = some (.bool n) ∧ k (.c (.bool n)) H
    | _ => evLoad0 P T p H k
def evLoad (P : Program) (T : TypeId) (p : VV) (H : VH K) (k : VV → VH K → Prop) : Prop :=
  match p with
  | .one (.c (.rp e 0 b i j)) => match P.info? T, P.underlying T with
    | some inf, some d => evLoadB P T (.one (.c (.rp e 0 b i j))) inf.size d b j H k
    | _, _ => False
  | p => evLoad0 P T p H k
theorem box_read {b j : Nat} {c : C} {k : List C → Prop} (h : anyBag H fun _ φ => boxAt φ b j = some c ∧ k [c]) : readBox H b j 1 k :=
  someBag_mono (fun n φ h => by
    obtain ⟨h1, h2⟩ := h
    unfold boxAt at h1
    cases hc : cellsAt φ b with
    | none => rw [hc] at h1; cases h1
    | some cs =>
      rw [hc, Option.bind_some] at h1
      have hl := (List.getElem?_eq_some_iff.1 h1).1
      refine ⟨cs, rfl, hl, ?_⟩
      rw [List.drop_eq_getElem_cons hl, (List.getElem?_eq_some_iff.1 h1).2]
      exact h2) h
theorem evLoadB_to {T : TypeId} {e : TypeId} {b i j : Nat} {inf : TypeInfo} {d : TypeDesc} {k : VV → VH K → Prop} (hK : K.Ok) (hi : P.info? T = some inf) (hu : P.underlying T = some d)
    (h : evLoadB P T (.one (.c (.rp e 0 b i j))) inf.size d b j H k) : evLoad0 P T (.one (.c (.rp e 0 b i j))) H k := by
  have flat : ∀ {c : C}, isRowB d = false → (anyBag H fun _ φ => boxAt φ b j = some c ∧ k (.c c) H) → evLoad0 P T (.one (.c (.rp e 0 b i j))) H k := fun {c} hd h => by
    unfold evLoad0
    rw [hi, hu]
    simp only [hd]
    exact box_read (k := fun cs => match cs with | [c] => k (.c c) H | _ => False) h
  have pull : ∀ {A : Type} {g : A → C}, isRowB d = false → (anyBag H fun _ φ => ∃ a, boxAt φ b j = some (g a) ∧ k (.c (g a)) H) → evLoad0 P T (.one (.c (.rp e 0 b i j))) H k := fun {A g} hd h => by
    obtain ⟨a, h⟩ := someBag_pull (f := fun a _ φ => boxAt φ b j = some (g a) ∧ k (.c (g a)) H) h
    exact flat hd h
  unfold evLoadB at h
  split at h
  · rename_i hd
    split at h
    · rename_i kd hkd
      obtain ⟨hg, h⟩ := guardP_iff.1 h
      simp only [beq_iff_eq] at hg
      unfold evLoad0
      rw [hi, hu]
      simp only [hd]
      refine someBag_mono (fun n φ h => ?_) h
      obtain ⟨x, h1, h2⟩ := h
      have hl := hK.len kd x
      refine ⟨_, h1, by omega, ?_⟩
      rw [List.drop_zero, List.take_of_length_le (by omega)]
      exact h2
    · exact h
  · rename_i hd
    split at h
    · exact pull hd h
    · exact pull hd h
    · exact pull hd h
    · exact h
theorem evLoad_to {T : TypeId} {p : VV} {k : VV → VH K → Prop} (hK : K.Ok) (h : evLoad P T p H k) : evLoad0 P T p H k := by
  unfold evLoad at h
  split at h
  · split at h
    · rename_i hi hu
      exact evLoadB_to hK hi hu h
    · exact h.elim
  · exact h
theorem evLoad0_exact' (hK : K.Ok) (st : HeapOK S w0 r H w) {T : TypeId} {p : VV} {k : VV → VH K → Prop} (h : evLoad0 P T p H k) {v : Value} (hp : p.is r v) :
    ∃ v' vv, (Instr.loadAt T v).run P w = .ok v' w ∧ (k vv H ∧ vv.is r v' ∧ vv.lt H.length) ∧ ∃ ad, v = .pointer (some ad) := by
  unfold evLoad0 at h
  split at h
  · rename_i inf d hi hu
    split at h
    · rename_i hd
      obtain ⟨b, o, cs, vs, rfl, hk, hr, hlen, hcs, hrange⟩ := readPt_sound hK st h hp
      refine ⟨_, .agg cs, run_loadAt_mid (P := P) w _ _ T vs d hrange hu (by cases d <;> simp_all [isRowB]) (by rw [hi]; simp [hr.length, hlen]), ?_, _, rfl⟩
      exact ⟨hk, ⟨vs, rfl, hr⟩, fun c hc => (hcs c hc).1⟩
    · rename_i hd
      obtain ⟨b, o, cs, vs, rfl, hk, hr, hlen, hcs, hrange⟩ := readPt_sound hK st h hp
      split at hk
      · rename_i c
        match vs, hr with
        | [u], hr =>
          refine ⟨u, .c c, ?_, ⟨hk, hr.1, (hcs c (by simp)).1⟩, _, rfl⟩
          have hc := hrange 0 u rfl
          have hagg : (isAgg T).run P w = .ok false w := by
            unfold isAgg
            rw [Sem.run_bind, run_underlying hu w]
            cases d <;> simp_all [isRowB]
          simp only [Nat.add_zero] at hc
          simp [Instr.loadAt, Instr.sureAddr, loadVar, hagg, hc]
      · exact hk.elim
  · exact h.elim
theorem evLoad0_exact (hK : K.Ok) (st : HeapOK S w0 r H w) {T : TypeId} {p : VV} {k : VV → VH K → Prop} (h : evLoad0 P T p H k) {v : Value} (hp : p.is r v) :
    ∃ v' vv, (Instr.loadAt T v).run P w = .ok v' w ∧ k vv H ∧ vv.is r v' ∧ vv.lt H.length := by
  obtain ⟨v', vv, h1, h2, _⟩ := evLoad0_exact' hK st h hp
  exact ⟨v', vv, h1, h2⟩
theorem evLoad0_sound (hK : K.Ok) (st : HeapOK S w0 r H w) {T : TypeId} {p : VV} {k : VV → VH K → Prop} (h : evLoad0 P T p H k) {v : Value} (hp : p.is r v) :
    ∃ v', (Instr.loadAt T v).run P w = .ok v' w ∧ After S w0 r H k v' w := by
  obtain ⟨v', vv, hr, hk, hv, hl⟩ := evLoad0_exact hK st h hp
  exact ⟨v', hr, After.pure st hk hv hl⟩
theorem evLoad_exact' (hK : K.Ok) (st : HeapOK S w0 r H w) {T : TypeId} {p : VV} {k : VV → VH K → Prop} (h : evLoad P T p H k) {v : Value} (hp : p.is r v) :
    ∃ v' vv, (Instr.loadAt T v).run P w = .ok v' w ∧ (k vv H ∧ vv.is r v' ∧ vv.lt H.length) ∧ ∃ ad, v = .pointer (some ad) := evLoad0_exact' hK st (evLoad_to hK h) hp
theorem evLoad_sound (hK : K.Ok) (st : HeapOK S w0 r H w) {T : TypeId} {p : VV} {k : VV → VH K → Prop} (h : evLoad P T p H k) {v : Value} (hp : p.is r v) :
    ∃ v', (Instr.loadAt T v).run P w = .ok v' w ∧ After S w0 r H k v' w := evLoad0_sound hK st (evLoad_to hK h) hp
def evStore (P : Program) (T : TypeId) (p v : VV) (H : VH K) (k : VV → VH K → Prop) : Prop :=
  match p, P.info? T, v.cs with
  | .one (.c (.ptr n i j)), some inf, some cs => guardP (cs.length == inf.size && cs.all C.one) (writeAt H n i j cs fun H' => k .any H')
  | .one (.c (.rp e sz b i j)), some inf, some cs => guardP (cs.length == inf.size && cs.all C.one) (writeRp H e sz b i j cs fun H' => k .any H')
  | _, _, _ => False
theorem evStore_sound (hK : K.Ok) (st : HeapOK S w0 r H w) {T : TypeId} {p x : VV} {k : VV → VH K → Prop} (h : evStore P T p x H k) {v u : Value} (hp : p.is r v) (hx : x.is r u) (hxl : x.lt H.length) :
    ∃ w', (Instr.storeAt T v u).run P w = .ok () w' ∧ After S w0 r H k undef w' := by
  unfold evStore at h
  split at h
  · rename_i n i j inf cs hi hc
    obtain ⟨hg, h⟩ := guardP_iff.1 h
    simp only [Bool.and_eq_true, beq_iff_eq] at hg
    simp only [VV.is, V1.is, C.is] at hp
    subst hp
    obtain ⟨vs, hvs, hr, hcs⟩ := cs_is hc hx hxl hg.2
    obtain ⟨w', H', hrk, hrun, hk, hlen, st'⟩ := writeAt_sound hK h st hr (fun c hc => (hcs c hc).1)
    refine ⟨w', ?_, r, .any, H', hk, trivial, trivial, by omega, fun _ _ => rfl, hrk, st'⟩
    have hs := hr.length
    simp [Instr.storeAt, Instr.sureAddr, storeVar, sizeOf, typeInfo, hi, hvs, hs, hg.1, hrun P]
  · rename_i e sz b i j inf cs hi hc
    obtain ⟨hg, h⟩ := guardP_iff.1 h
    simp only [Bool.and_eq_true, beq_iff_eq] at hg
    simp only [VV.is, V1.is, C.is, C.plain] at hp
    subst hp
    obtain ⟨vs, hvs, hr, hcs⟩ := cs_is hc hx hxl hg.2
    obtain ⟨w', H', hrk, hrun, hk, hlen, st'⟩ := writeRp_sound hK h st hr
    refine ⟨w', ?_, r, .any, H', hk, trivial, trivial, by omega, fun _ _ => rfl, hrk, st'⟩
    have hs := hr.length
    simp [Instr.storeAt, Instr.sureAddr, storeVar, sizeOf, typeInfo, hi, hvs, hs, hg.1, hrun P]
  · exact h.elim
def evNew (T : TypeId) (cs : List C) (H : VH K) (k : VV → VH K → Prop) : Prop := guardP (cs.all C.one) (k (.c (.ptr H.length 0 0)) (H ++ [.cells T cs]))
theorem evNew_sound (st : HeapOK S w0 r H w) {T : TypeId} {cs : List C} {k : VV → VH K → Prop} (h : evNew T cs H k) {vs : List Value} (hr : Rel r cs vs) (hl : ∀ c ∈ cs, c.lt H.length) :
    After S w0 r H k (.pointer (some ⟨w.heap.size, 0, none⟩)) (w.alloc (.cells vs.toArray T)) := by
  obtain ⟨hg, h⟩ := guardP_iff.1 h
  refine ⟨_, _, _, h, ?_, ?_, ?_, ?_, RoKeep.push rfl, st.pushCells T hr (fun c hc => ⟨hl c hc, List.all_eq_true.1 hg c hc⟩) ⟨w.heap.size, 0, 0, false, 0⟩ rfl ⟨rfl, rfl⟩⟩
  · simp [VV.is, V1.is, C.is, upd_new]
  · intro n hn; simp [C.nm] at hn; subst hn; simp
  · simp
  · exact fun n hn => upd_old hn
def evAlloc (P : Program) (T : TypeId) (H : VH K) (k : VV → VH K → Prop) : Prop :=
  match (P.info? T).bind (·.zero) with
  | some z => evNew T (z.cells.toList.map ofConstC) H k
  | none => False
theorem evAlloc_sound (st : HeapOK S w0 r H w) {T : TypeId} {k : VV → VH K → Prop} (h : evAlloc P T H k) :
    ∃ v' w', (Instr.alloc T true (.tuple #[])).run P w = .ok v' w' ∧ After S w0 r H k v' w' := by
  unfold evAlloc at h
  split at h
  · rename_i z hz
    refine ⟨_, _, ?_, evNew_sound st h (ofConstL_rel _) (fun c hc => by obtain ⟨u, _, rfl⟩ := List.mem_map.1 hc; exact lt_of_nm (ofConstC_nm u))⟩
    obtain ⟨i, hi, hz⟩ := Option.bind_eq_some_iff.1 hz
    simp [Instr.alloc, zeroValue, typeInfo, hi, hz, newVar, newRow]
  · exact h.elim
def evBox (T : TypeId) (v : VV) (H : VH K) (k : VV → VH K → Prop) : Prop :=
  match v.cs with
  | some cs => evNew T cs H k
  | none => False
theorem evBox_sound (st : HeapOK S w0 r H w) {T : TypeId} {x : VV} {k : VV → VH K → Prop} (h : evBox T x H k) {u : Value} (hx : x.is r u) (hxl : x.lt H.length) :
    ∃ v' w', (Instr.box T u).run P w = .ok v' w' ∧ After S w0 r H k v' w' := by
  unfold evBox at h
  split at h
  · rename_i cs hc
    have hg := (guardP_iff.1 h).1
    obtain ⟨vs, hvs, hr, hcs⟩ := cs_is hc hx hxl hg
    refine ⟨_, _, ?_, evNew_sound st h hr (fun c hc => (hcs c hc).1)⟩
    simp [Instr.box, newVar, newRow, hvs]
  · exact h.elim
def evFieldAddr (P : Program) (T : TypeId) (p : VV) (f : Nat) (H : VH K) (k : VV → VH K → Prop) : Prop :=
  match p, P.underlying T with
  | .one (.c (.ptr n i j)), some (.struct fs) =>
    match fs[f]? with
    | some fd => match P.info? fd.type with
      | some inf => guardP (!(inf.size == 0)) (k (.c (.ptr n i (j + fd.offset))) H)
      | none => False
    | none => False
  | .one (.c (.rp e sz b i j)), some (.struct fs) =>
    match fs[f]? with
    | some fd => match P.info? fd.type with
      | some inf => guardP (!(inf.size == 0)) (k (.c (.rp e sz b i (j + fd.offset))) H)
      | none => False
    | none => False
  | .one (.c (.lp e sz b o i j)), some (.struct fs) =>
    match fs[f]? with
    | some fd => match P.info? fd.type with
      | some inf => guardP (!(inf.size == 0)) (k (.c (.lp e sz b o i (j + fd.offset))) H)
      | none => False
    | none => False
  | _, _ => False
theorem evFieldAddr_sound (st : HeapOK S w0 r H w) {T : TypeId} {p : VV} {f : Nat} {k : VV → VH K → Prop} (h : evFieldAddr P T p f H k) {v : Value} (hp : p.is r v) (hl : p.lt H.length) :
    ∃ v', (Instr.fieldAt T v f).run P w = .ok v' w ∧ After S w0 r H k v' w := by
  unfold evFieldAddr at h
  split at h
  · rename_i n i j fs hu
    simp only [VV.is, V1.is, C.is] at hp
    subst hp
    split at h
    · rename_i fd hf
      split at h
      · rename_i inf hi
        obtain ⟨hg, h⟩ := guardP_iff.1 h
        have hg' : inf.size ≠ 0 := by simpa using hg
        refine ⟨.pointer (some ⟨(r n).blk, (r n).off + (i * (r n).sz + (j + fd.offset)), none⟩), ?_, After.pure st h rfl hl⟩
        simp [Instr.fieldAt, run_underlying hu, hf, Instr.sureAddr, fieldPlace, sizeOf, typeInfo, hi, hg', Addr.add_mid, Nat.add_assoc]
      · exact h.elim
    · exact h.elim
  · rename_i e sz b i j fs hu
    simp only [VV.is, V1.is, C.is, C.plain] at hp
    subst hp
    split at h
    · rename_i fd hf
      split at h
      · rename_i inf hi
        obtain ⟨hg, h⟩ := guardP_iff.1 h
        have hg' : inf.size ≠ 0 := by simpa using hg
        refine ⟨.pointer (some ⟨b, i * sz + (j + fd.offset), none⟩), ?_, After.pure st h rfl (lt_of_nm rfl)⟩
        simp [Instr.fieldAt, run_underlying hu, hf, Instr.sureAddr, fieldPlace, sizeOf, typeInfo, hi, hg', Addr.add_mid, Nat.add_assoc]
      · exact h.elim
    · exact h.elim
  · rename_i e sz b o i j fs hu
    simp only [VV.is, V1.is, C.is, C.plain] at hp
    subst hp
    split at h
    · rename_i fd hf
      split at h
      · rename_i inf hi
        obtain ⟨hg, h⟩ := guardP_iff.1 h
        have hg' : inf.size ≠ 0 := by simpa using hg
        refine ⟨.pointer (some ⟨b, o + (i * sz + (j + fd.offset)), none⟩), ?_, After.pure st h rfl (lt_of_nm rfl)⟩
        simp [Instr.fieldAt, run_underlying hu, hf, Instr.sureAddr, fieldPlace, sizeOf, typeInfo, hi, hg', Addr.add_mid, Nat.add_assoc]
      · exact h.elim
    · exact h.elim
  · exact h.elim
def idxSplit (z : Int) (f : Nat → Prop) : Nat → Nat → Prop
  | 0, _ => True
  | m + 1, q => ite2 (decide (z = (q : Int))) (f q) (idxSplit z f m (q + 1))
theorem idxSplit_sound {z : Int} {f : Nat → Prop} : ∀ {m q : Nat}, idxSplit z f m q → (q : Int) ≤ z → z < (q : Int) + m → f z.toNat
  | 0, q, _, h1, h2 => by omega
  | m + 1, q, h, h1, h2 => by
    rcases ite2_of h with ⟨hd, hf⟩ | ⟨hd, hr⟩
    · have := of_decide_eq_true hd; subst this; simpa using hf
    · have := of_decide_eq_false hd
      exact idxSplit_sound hr (by omega) (by omega)
def capOk (z : Int) (q : Option Nat) : Prop := match q with | some c => z < (c : Int) | none => True
def evIndexAddr (P : Program) (T : TypeId) (x ix : VV) (H : VH K) (k : VV → VH K → Prop) : Prop :=
  match ix, P.underlying T, x with
  | .one (.c (.int _ z)), some (.slice e), .one (.c (.slc n lo len cap)) =>
    match (at_ H n).lst with
    | some ⟨kd, xs⟩ => (0 ≤ z ∧ z < (len : Int)) ∧ z.toNat + lo < xs.length ∧ capOk z cap ∧ guardP (P.cellsOf e == K.size kd && (P.info? e).isSome) (k (.c (.ptr n (z.toNat + lo) 0)) H)
    | _ => False
  | .one (.c (.int _ z)), some (.slice e), .one (.c (.rs e' sz x)) => (0 ≤ z ∧ z < (x.len : Int)) ∧ guardP (e == e' && (P.cellsOf e == sz && (P.info? e).isSome)) (k (.c (.rp e sz x.blk (x.lo + z.toNat) 0)) H)
  | .one (.c (.int _ z)), some (.slice e), .one (.c (.ls e' b o len cap)) => (0 ≤ z ∧ z < (len : Int)) ∧ guardP (e == e' && (P.info? e).isSome) (k (.c (.lp e (P.cellsOf e) b o z.toNat 0)) H)
  | .one (.c (.int _ z)), some (.array len e), .one (.c (.ptr n i j)) =>
    match P.info? e with
    | some inf => (0 ≤ z ∧ z < (len : Int)) ∧ idxSplit z (fun q => k (.c (.ptr n i (j + q * inf.size))) H) len 0
    | none => False
  | _, _, _ => False
theorem evIndexAddr_sound (hK : K.Ok) (st : HeapOK S w0 r H w) {T : TypeId} {x ix : VV} {k : VV → VH K → Prop} (h : evIndexAddr P T x ix H k) {v u : Value} (hx : x.is r v) (hix : ix.is r u) (hl : x.lt H.length) :
    ∃ v', (Instr.indexAt T v u).run P w = .ok v' w ∧ After S w0 r H k v' w := by
  unfold evIndexAddr at h
  split at h
  · rename_i kk z e n lo len cap hu
    simp only [VV.is, V1.is, C.is, C.plain] at hx hix
    subst hix
    split at h
    · rename_i kd xs ha
      rw [Nat.add_comm z.toNat lo] at h
      obtain ⟨hz, hlt, hcap, h⟩ := h
      obtain ⟨hg, h⟩ := guardP_iff.1 h
      simp only [Bool.and_eq_true, beq_iff_eq] at hg
      obtain ⟨hsz, hxc, hnl, _⟩ := lst_ok hK ha (st.ok n)
      have hnl := hnl (by omega)
      obtain ⟨i, hi⟩ := Option.isSome_iff_exists.1 hg.2
      have hcs : i.size = K.size kd := by rw [← hg.1]; simp [Program.cellsOf, hi]
      obtain ⟨a, rfl, hor⟩ := hx
      have hcap' : ¬ (cap.getD ((r n).cap - lo) = 0) := by
        cases cap with
        | none => simp only [Option.getD_none]; omega
        | some c => simp only [capOk] at hcap; simp only [Option.getD_some]; omega
      have ha' : a = some ⟨(r n).blk, (r n).off + lo * (r n).sz, none⟩ := by
        rcases hor with ⟨_, h0⟩ | h'
        · exact absurd h0 hcap'
        · simpa [hnl] using h'
      subst ha'
      refine ⟨.pointer (some ⟨(r n).blk, (r n).off + ((lo + z.toNat) * (r n).sz + 0), none⟩), ?_, After.pure st h rfl (fun m hm => hl m hm)⟩
      simp [Instr.indexAt, asIntOf, run_underlying hu, hz, sizeOf, typeInfo, hi, Addr.add_mid, hsz, hcs, Nat.add_mul, Nat.add_assoc]
    · exact h.elim
  · rename_i kk z e e' sz x hu
    simp only [VV.is, V1.is, C.is, C.plain] at hx hix
    subst hix hx
    obtain ⟨hz, h⟩ := h
    obtain ⟨hg, h'⟩ := guardP_iff.1 h
    clear h
    simp only [Bool.and_eq_true, beq_iff_eq] at hg
    obtain ⟨rfl, hsz, hsome⟩ := hg
    have h := h'
    clear h'
    obtain ⟨i, hi⟩ := Option.isSome_iff_exists.1 hsome
    have hcs : i.size = sz := by rw [← hsz]; simp [Program.cellsOf, hi]
    cases x with
    | nil => simp only [RS.len] at hz; omega
    | mk b lo len cap =>
      refine ⟨.pointer (some ⟨b, (lo + z.toNat) * sz + 0, none⟩), ?_, After.pure st h rfl (lt_of_nm rfl)⟩
      simp only [RS.len] at hz
      simp [RS.val, Instr.indexAt, asIntOf, run_underlying hu, hz, sizeOf, typeInfo, hi, Addr.add_lit, hcs, Nat.add_mul, Nat.add_assoc]
  · rename_i kk z e e' b o len cap hu
    simp only [VV.is, V1.is, C.is, C.plain] at hx hix
    subst hix hx
    obtain ⟨hz, h⟩ := h
    obtain ⟨hg, h'⟩ := guardP_iff.1 h
    clear h
    simp only [Bool.and_eq_true, beq_iff_eq] at hg
    obtain ⟨rfl, hsome⟩ := hg
    obtain ⟨i, hi⟩ := Option.isSome_iff_exists.1 hsome
    have hcs : P.cellsOf e = i.size := by simp [Program.cellsOf, hi]
    refine ⟨.pointer (some ⟨b, o + (z.toNat * P.cellsOf e + 0), none⟩), ?_, After.pure st h' rfl (lt_of_nm rfl)⟩
    simp [Instr.indexAt, asIntOf, run_underlying hu, hz, sizeOf, typeInfo, hi, Addr.add_lit, hcs, Nat.add_mul, Nat.add_assoc]
  · rename_i kk z len e n i j hu
    simp only [VV.is, V1.is, C.is, C.plain] at hx hix
    subst hix hx
    split at h
    · rename_i inf hi
      obtain ⟨hz, h⟩ := h
      have := idxSplit_sound h (by simpa using hz.1) (by simpa using hz.2)
      refine ⟨.pointer (some ⟨(r n).blk, (r n).off + (i * (r n).sz + (j + z.toNat * inf.size)), none⟩), ?_, After.pure st this rfl (fun m hm => hl m hm)⟩
      simp [Instr.indexAt, asIntOf, run_underlying hu, Instr.sureAddr, hz, sizeOf, typeInfo, hi, Addr.add_mid, Nat.add_assoc]
    · exact h.elim
  · exact h.elim
end Go.Proofs.YtndlpbheifalhaaGreatDoor.E
end
section
namespace Go.Proofs.YtndlpbheifalhaaGreatDoor.E
set_option linter.unusedVariables false
set_option linter.unusedSimpArgs false
variable {K : Kinds} {P : Program} {S : Nat → Prop} {w0 w : World} {r : Nat → Ref} {H : VH K}
theorem done {k : VV → VH K → Prop} (st : HeapOK S w0 r H w) {c : C} (hn : c.nm = none) (hk : k (.c c) H) {m : Sem Value} (hr : m.run P w = .ok c.plain w) :
    ∃ v', m.run P w = .ok v' w ∧ After S w0 r H k v' w := ⟨_, hr, After.pure st hk ((C.is_plain hn _).2 rfl) (lt_of_nm hn)⟩
def i64ok (z : Int) : Prop := -9223372036854775808 ≤ z ∧ z ≤ 9223372036854775807
def arith (k : IntKind) (z : Int) (f : VV → Prop) : Prop :=
  match k with
  | .i64 => i64ok z ∧ f (.c (.int .i64 z))
  | k => f (.c (.int k (k.wrap z)))
theorem arith_sound {k : IntKind} {z : Int} {f : VV → Prop} (h : arith k z f) : f (.c (.int k (k.wrap z))) := by
  cases k <;> simp only [arith] at h <;> first | exact h | (rw [IntWalk.i64_in z h.1]; exact h.2)
def bitw (op : BinOp) (k : IntKind) (x y : Int) : Int :=
  match op with
  | .and => k.wrap (BitVec.ofInt k.bits x &&& BitVec.ofInt k.bits y).toNat
  | .or => k.wrap (BitVec.ofInt k.bits x ||| BitVec.ofInt k.bits y).toNat
  | .xor => k.wrap (BitVec.ofInt k.bits x ^^^ BitVec.ofInt k.bits y).toNat
  | _ => k.wrap (BitVec.ofInt k.bits x &&& ~~~ (BitVec.ofInt k.bits y)).toNat
def tf (p : Prop) [Decidable p] (f : VV → Prop) : Prop := ite2 (decide p) (f (.c (.bool true))) (f (.c (.bool false)))
theorem tf_sound {p : Prop} [Decidable p] {f : VV → Prop} (h : tf p f) : f (.c (.bool (decide p))) := by
  rcases ite2_of h with ⟨hd, hf⟩ | ⟨hd, hf⟩ <;> rw [hd] <;> exact hf
def nf (p : Prop) [Decidable p] (f : VV → Prop) : Prop := ite2 (decide p) (f (.c (.bool false))) (f (.c (.bool true)))
theorem nf_sound {p : Prop} [Decidable p] {f : VV → Prop} (h : nf p f) : f (.c (.bool (!decide p))) := by
  rcases ite2_of h with ⟨hd, hf⟩ | ⟨hd, hf⟩ <;> rw [hd] <;> exact hf
def evInt (op : BinOp) (k : IntKind) (a b : Int) (f : VV → Prop) : Prop :=
  match op with
  | .add => arith k (a + b) f
  | .sub => arith k (a - b) f
  | .mul => arith k (a * b) f
  | .quo => b ≠ 0 ∧ arith k (a.tdiv b) f
  | .rem => b ≠ 0 ∧ f (.c (.int k (a.tmod b)))
  | .and => f (.c (.int k (bitw .and k a b)))
  | .or => f (.c (.int k (bitw .or k a b)))
  | .xor => f (.c (.int k (bitw .xor k a b)))
  | .andNot => f (.c (.int k (bitw .andNot k a b)))
  | .eql => tf (a = b) f
  | .neq => nf (a = b) f
  | .lss => tf (a < b) f
  | .leq => tf (a ≤ b) f
  | .gtr => tf (b < a) f
  | .geq => tf (b ≤ a) f
  | _ => False
def evShift (op : BinOp) (k : IntKind) (a b : Int) (f : VV → Prop) : Prop :=
  match op with
  | .shl => 0 ≤ b ∧ arith k (a * 2 ^ (min b.toNat k.bits)) f
  | .shr => 0 ≤ b ∧ f (.c (.int k (a.fdiv (2 ^ (min b.toNat k.bits)))))
  | _ => False
theorem toList_beq (a b : ByteArray) : (a.toList == b.toList) = decide (a.toList = b.toList) := by
  by_cases h : a.toList = b.toList <;> simp [h]
def evStr (op : BinOp) (a b : ByteArray) (f : VV → Prop) : Prop :=
  match op with
  | .add => a.size + b.size ≤ 9223372036854775807 ∧ f (.c (.str (a ++ b)))
  | .eql => tf (a.toList = b.toList) f
  | .neq => nf (a.toList = b.toList) f
  | .lss => tf (Op.bytesLess a.toList b.toList = true) f
  | .geq => nf (Op.bytesLess a.toList b.toList = true) f
  | .leq => tf (Op.bytesLess a.toList b.toList = true ∨ a.toList = b.toList) f
  | .gtr => nf (Op.bytesLess a.toList b.toList = true ∨ a.toList = b.toList) f
  | _ => False
/-- Two pointers (or lists) of which one is nil are the same, or not. -/
def evNil (op : BinOp) (ok same : Bool) (f : VV → Prop) : Prop := guardP ok (match op with
  | .eql => f (.c (.bool same))
  | .neq => f (.c (.bool (!same)))
  | _ => False)
def isPtrB (P : Program) (T : TypeId) : Bool := match P.underlying T with | some (.pointer _) => true | _ => false
def isSlcB (P : Program) (T : TypeId) : Bool := match P.underlying T with | some (.slice _) => true | _ => false
def isBoolB (P : Program) (T : TypeId) : Bool := match P.underlying T with | some .bool => true | _ => false
def RS.isNil : RS → Bool
  | .nil => true
  | _ => false
def evBoo (op : BinOp) (ok a b : Bool) (f : VV → Prop) : Prop := guardP ok (match op with
  | .eql => tf (a = b) f
  | .neq => nf (a = b) f
  | _ => False)
def evBin (P : Program) (T : TypeId) (op : BinOp) (x y : VV) (f : VV → Prop) : Prop :=
  match x, y with
  | .one (.c (.int k a)), .one (.c (.int k' b)) =>
    match op with
    | .shl => evShift .shl k a b f
    | .shr => evShift .shr k a b f
    | op => guardP (decide (k = k')) (evInt op k a b f)
  | .one (.c (.str a)), .one (.c (.str b)) => evStr op a b f
  | .one (.c .nilp), .one (.c .nilp) => evNil op (isPtrB P T) true f
  | .one (.c (.ptr _ _ _)), .one (.c .nilp) => evNil op (isPtrB P T) false f
  | .one (.c .nilp), .one (.c (.ptr _ _ _)) => evNil op (isPtrB P T) false f
  | .one (.c (.rp _ _ _ _ _)), .one (.c .nilp) => evNil op (isPtrB P T) false f
  | .one (.c .nilp), .one (.c (.rp _ _ _ _ _)) => evNil op (isPtrB P T) false f
  | .one (.c .nils), .one (.c .nils) => evNil op (isSlcB P T) true f
  | .one (.c (.rs _ _ x)), .one (.c .nils) => evNil op (isSlcB P T) x.isNil f
  | .one (.c .nils), .one (.c (.rs _ _ x)) => evNil op (isSlcB P T) x.isNil f
  | .one (.c (.bool a)), .one (.c (.bool b)) => evBoo op (isBoolB P T) a b f
  | _, _ => False
theorem evNil_sound (st : HeapOK S w0 r H w) {op : BinOp} {T : TypeId} {ox oy : Operand} {ok same : Bool} {k : VV → VH K → Prop} (h : evNil op ok same fun v => k v H) {v u : Value}
    (hg : ∀ op, (eqGuard op T ox oy v u).run P w = .ok () w) (h1 : ok = true → (Op.equal T v u).run P w = .ok same w) (h2 : ∀ op, op = .eql ∨ op = .neq → binOp op T v u = (match op with | .eql => (do pure (.bool (← Op.equal T v u)) : Sem Value) | _ => (do pure (.bool (!(← Op.equal T v u))) : Sem Value))) :
    ∃ v', (do eqGuard op T ox oy v u; binOp op T v u : Sem Value).run P w = .ok v' w ∧ After S w0 r H k v' w := by
  obtain ⟨hok, h⟩ := guardP_iff.1 h
  have e := h1 hok
  split at h
  · refine done st (c := .bool same) rfl h ?_
    simp only [Sem.run_bind, hg, Result.andThen_ok]
    rw [h2 _ (.inl rfl)]
    simp [e, C.plain]
  · refine done st (c := .bool (!same)) rfl h ?_
    simp only [Sem.run_bind, hg, Result.andThen_ok]
    rw [h2 _ (.inr rfl)]
    simp [e, C.plain]
  · exact h.elim
set_option maxRecDepth 2000 in
theorem equal_step {T : TypeId} {v u : Value} {b : Bool} (h : ∀ n, (Op.equalIn (n + 1) T v u).run P w = .ok b w) : (Op.equal T v u).run P w = .ok b w := by
  unfold Op.equal
  obtain ⟨d, hd⟩ : ∃ d, Op.maxDepth = d + 1 := ⟨_, rfl⟩
  rw [hd]; exact h d
theorem ptrB_of {T : TypeId} (h : isPtrB P T = true) : ∃ e, P.underlying T = some (.pointer e) := by
  unfold isPtrB at h; split at h
  · rename_i e he; exact ⟨e, he⟩
  · cases h
theorem slcB_of {T : TypeId} (h : isSlcB P T = true) : ∃ e, P.underlying T = some (.slice e) := by
  unfold isSlcB at h; split at h
  · rename_i e he; exact ⟨e, he⟩
  · cases h
theorem boolB_of {T : TypeId} (h : isBoolB P T = true) : P.underlying T = some .bool := by
  unfold isBoolB at h; split at h
  · rename_i he; exact he
  · cases h
theorem evBin_sound (st : HeapOK S w0 r H w) {op : BinOp} {T : TypeId} {x y : VV} {ox oy : Operand} {k : VV → VH K → Prop} (h : evBin P T op x y fun v => k v H) {v u : Value} (hx : x.is r v) (hy : y.is r u) :
    ∃ v', (do eqGuard op T ox oy v u; binOp op T v u : Sem Value).run P w = .ok v' w ∧ After S w0 r H k v' w := by
  unfold evBin at h
  split at h
  · rename_i kk a kk' b
    simp only [VV.is, V1.is, C.is, C.plain] at hx hy
    subst hx hy
    split at h
    · obtain ⟨h0, h⟩ := h
      refine done st (c := .int kk _) rfl (arith_sound h) (by simp [C.plain, eqGuard, binOp, Op.shift, Int.not_lt.2 h0])
    · obtain ⟨h0, h⟩ := h
      refine done st (c := .int kk _) rfl h (by simp [C.plain, eqGuard, binOp, Op.shift, Int.not_lt.2 h0])
    · obtain ⟨hg, h'⟩ := guardP_iff.1 h
      obtain rfl := of_decide_eq_true hg
      clear h
      rename_i h1 h2
      clear h1 h2
      have h := h'
      clear h'
      cases op <;> simp only [evInt] at h
      case add => refine done st (c := .int kk _) rfl (arith_sound h) (by simp [C.plain, eqGuard, binOp, Op.intArith])
      case sub => refine done st (c := .int kk _) rfl (arith_sound h) (by simp [C.plain, eqGuard, binOp, Op.intArith])
      case mul => refine done st (c := .int kk _) rfl (arith_sound h) (by simp [C.plain, eqGuard, binOp, Op.intArith])
      case quo => refine done st (c := .int kk _) rfl (arith_sound h.2) (by simp [C.plain, eqGuard, binOp, Op.intDiv, h.1])
      case rem => refine done st (c := .int kk _) rfl h.2 (by simp [C.plain, eqGuard, binOp, Op.intDiv, h.1])
      case and => refine done st (c := .int kk _) rfl h (by simp [C.plain, eqGuard, binOp, Op.intBits, bitw])
      case or => refine done st (c := .int kk _) rfl h (by simp [C.plain, eqGuard, binOp, Op.intBits, bitw])
      case xor => refine done st (c := .int kk _) rfl h (by simp [C.plain, eqGuard, binOp, Op.intBits, bitw])
      case andNot => refine done st (c := .int kk _) rfl h (by simp [C.plain, eqGuard, binOp, Op.intBits, bitw])
      case eql => refine done st (c := .bool _) rfl (tf_sound h) (by simp [C.plain, eqGuard, binOp, Op.intCmp]; rfl)
      case neq => refine done st (c := .bool _) rfl (nf_sound h) (by simp [C.plain, eqGuard, binOp, Op.intCmp]; rfl)
      case lss => refine done st (c := .bool _) rfl (tf_sound h) (by simp [C.plain, eqGuard, binOp, Op.intCmp])
      case leq => refine done st (c := .bool _) rfl (tf_sound h) (by simp [C.plain, eqGuard, binOp, Op.intCmp])
      case gtr => refine done st (c := .bool _) rfl (tf_sound h) (by simp [C.plain, eqGuard, binOp, Op.intCmp])
      case geq => refine done st (c := .bool _) rfl (tf_sound h) (by simp [C.plain, eqGuard, binOp, Op.intCmp])
      all_goals exact h.elim
  · rename_i a b
    simp only [VV.is, V1.is, C.is, C.plain] at hx hy
    subst hx hy
    cases op <;> simp only [evStr] at h
    case add =>
      refine done st (c := .str (a ++ b)) rfl h.2 ?_
      have h1 : ¬ (((a.size + b.size : Nat) : Int) > IntKind.i64.max) := by
        have := h.1; simp only [IntKind.max, IntKind.signed, IntKind.bits]; omega
      simp only [eqGuard, binOp, Op.stringOp, h1, if_false]
      simp [C.plain]
    case eql => refine done st (c := .bool _) rfl (tf_sound h) (by simp [C.plain, eqGuard, binOp, Op.stringOp, ← toList_beq])
    case neq => refine done st (c := .bool _) rfl (nf_sound h) (by simp [C.plain, eqGuard, binOp, Op.stringOp, ← toList_beq])
    case lss => refine done st (c := .bool _) rfl (tf_sound h) (by simp [C.plain, eqGuard, binOp, Op.stringOp])
    case geq => refine done st (c := .bool _) rfl (nf_sound h) (by simp [C.plain, eqGuard, binOp, Op.stringOp])
    case leq => refine done st (c := .bool _) rfl (tf_sound h) (by simp [C.plain, eqGuard, binOp, Op.stringOp, toList_beq])
    case gtr => refine done st (c := .bool _) rfl (nf_sound h) (by simp [C.plain, eqGuard, binOp, Op.stringOp, toList_beq])
    all_goals exact h.elim
  · simp only [VV.is, V1.is, C.is, C.plain] at hx hy
    subst hx hy
    exact evNil_sound st h (fun op => by cases op <;> simp [eqGuard]) (fun hb => by obtain ⟨e, he⟩ := ptrB_of hb; exact equal_step fun n => (by simp [Op.equalIn, run_underlying he])) (fun op ho => by rcases ho with rfl | rfl <;> rfl)
  · simp only [VV.is, V1.is, C.is, C.plain] at hx hy
    subst hx hy
    exact evNil_sound st h (fun op => by cases op <;> simp [eqGuard]) (fun hb => by obtain ⟨e, he⟩ := ptrB_of hb; exact equal_step fun n => (by simp [Op.equalIn, run_underlying he])) (fun op ho => by rcases ho with rfl | rfl <;> rfl)
  · simp only [VV.is, V1.is, C.is, C.plain] at hx hy
    subst hx hy
    exact evNil_sound st h (fun op => by cases op <;> simp [eqGuard]) (fun hb => by obtain ⟨e, he⟩ := ptrB_of hb; exact equal_step fun n => (by simp [Op.equalIn, run_underlying he])) (fun op ho => by rcases ho with rfl | rfl <;> rfl)
  · simp only [VV.is, V1.is, C.is, C.plain] at hx hy
    subst hx hy
    exact evNil_sound st h (fun op => by cases op <;> simp [eqGuard]) (fun hb => by obtain ⟨e, he⟩ := ptrB_of hb; exact equal_step fun n => (by simp [Op.equalIn, run_underlying he])) (fun op ho => by rcases ho with rfl | rfl <;> rfl)
  · simp only [VV.is, V1.is, C.is, C.plain] at hx hy
    subst hx hy
    exact evNil_sound st h (fun op => by cases op <;> simp [eqGuard]) (fun hb => by obtain ⟨e, he⟩ := ptrB_of hb; exact equal_step fun n => (by simp [Op.equalIn, run_underlying he])) (fun op ho => by rcases ho with rfl | rfl <;> rfl)
  · simp only [VV.is, V1.is, C.is, C.plain] at hx hy
    subst hx hy
    exact evNil_sound st h (fun op => by cases op <;> simp [eqGuard]) (fun hb => by obtain ⟨e, he⟩ := slcB_of hb; exact equal_step fun n => (by simp [Op.equalIn, run_underlying he])) (fun op ho => by rcases ho with rfl | rfl <;> rfl)
  · rename_i e0 sz0 x0
    simp only [VV.is, V1.is, C.is, C.plain] at hx hy
    subst hx hy
    cases x0 <;> exact evNil_sound st h (fun op => by cases op <;> simp [eqGuard, RS.val]) (fun hb => by obtain ⟨e, he⟩ := slcB_of hb; exact equal_step fun n => (by simp [Op.equalIn, run_underlying he, RS.val, RS.isNil])) (fun op ho => by rcases ho with rfl | rfl <;> rfl)
  · rename_i e0 sz0 x0
    simp only [VV.is, V1.is, C.is, C.plain] at hx hy
    subst hx hy
    cases x0 <;> exact evNil_sound st h (fun op => by cases op <;> simp [eqGuard, RS.val]) (fun hb => by obtain ⟨e, he⟩ := slcB_of hb; exact equal_step fun n => (by simp [Op.equalIn, run_underlying he, RS.val, RS.isNil])) (fun op ho => by rcases ho with rfl | rfl <;> rfl)
  · rename_i a b
    simp only [VV.is, V1.is, C.is, C.plain] at hx hy
    subst hx hy
    obtain ⟨hg, h'⟩ := guardP_iff.1 h
    have he := boolB_of hg
    have hb : (Op.equal T (.bool a) (.bool b)).run P w = .ok (a == b) w := equal_step fun n => (by simp [Op.equalIn, run_underlying he])
    have hd : decide (a = b) = (a == b) := by cases a <;> cases b <;> rfl
    split at h'
    · refine done st (c := .bool _) rfl (tf_sound h') ?_
      simp only [Sem.run_bind]
      rw [show binOp .eql T (.bool a) (.bool b) = (do pure (.bool (← Op.equal T (.bool a) (.bool b))) : Sem Value) from rfl]
      simp [eqGuard, hb, C.plain, ← hd]
    · refine done st (c := .bool _) rfl (nf_sound h') ?_
      simp only [Sem.run_bind]
      rw [show binOp .neq T (.bool a) (.bool b) = (do pure (.bool (!(← Op.equal T (.bool a) (.bool b)))) : Sem Value) from rfl]
      simp [eqGuard, hb, C.plain, ← hd]
    · exact h'.elim
  · exact h.elim
def evUn (op : UnOp) (x : VV) (f : VV → Prop) : Prop :=
  match op, x with
  | .not, .one (.c (.bool b)) => ite2 b (f (.c (.bool false))) (f (.c (.bool true)))
  | .neg, .one (.c (.int k n)) => arith k (0 - n) f
  | .xor, .one (.c (.int k n)) => f (.c (.int k (bitw .xor k (if k.signed then -1 else k.max) n)))
  | _, _ => False
theorem evUn_sound (st : HeapOK S w0 r H w) {op : UnOp} {x : VV} {k : VV → VH K → Prop} (h : evUn op x fun v => k v H) {v : Value} (hx : x.is r v) :
    ∃ v', (Op.unary op v).run P w = .ok v' w ∧ After S w0 r H k v' w := by
  unfold evUn at h
  split at h
  · simp only [VV.is, V1.is, C.is, C.plain] at hx
    subst hx
    rcases ite2_of h with ⟨rfl, h⟩ | ⟨rfl, h⟩ <;> refine done st (c := .bool _) rfl h (by simp [C.plain, Op.unary])
  · simp only [VV.is, V1.is, C.is, C.plain] at hx
    subst hx
    refine done st (c := .int _ _) rfl (arith_sound h) (by simp [C.plain, Op.unary, Op.intArith])
  · simp only [VV.is, V1.is, C.is, C.plain] at hx
    subst hx
    refine done st (c := .int _ _) rfl h (by simp [C.plain, Op.unary, Op.intBits, bitw])
  · exact h.elim
def evConv (P : Program) (src dst : TypeId) (x : VV) (f : VV → Prop) : Prop :=
  match P.underlying src, P.underlying dst, x with
  | some _, some (.int k), .one (.c (.int _ n)) => arith k n f
  | some (.string), some .string, .one (.c (.str s)) => f (.c (.str s))
  | _, _, _ => False
theorem evConv_sound (st : HeapOK S w0 r H w) {src dst : TypeId} {x : VV} {k : VV → VH K → Prop} (h : evConv P src dst x fun v => k v H) {v : Value} (hx : x.is r v) :
    ∃ v', (convert src dst v).run P w = .ok v' w ∧ After S w0 r H k v' w := by
  unfold evConv at h
  split at h
  · rename_i d kk kk' n hs hd
    simp only [VV.is, V1.is, C.is, C.plain] at hx
    subst hx
    refine done st (c := .int _ _) rfl (arith_sound h) (by simp [C.plain, convert, run_underlying hs, run_underlying hd, Conv.intToInt])
  · rename_i s hs hd
    simp only [VV.is, V1.is, C.is, C.plain] at hx
    subst hx
    refine done st (c := .str s) rfl h (by simp [C.plain, convert, run_underlying hs, run_underlying hd])
  · exact h.elim
def evExtract (x : VV) (i : Nat) (f : VV → Prop) : Prop :=
  match x with
  | .tup l => match l[i]? with | some y => f (.one y) | none => False
  | _ => False
theorem evExtract_sound (st : HeapOK S w0 r H w) {x : VV} {i : Nat} {k : VV → VH K → Prop} (h : evExtract x i fun v => k v H) {v : Value} (hx : x.is r v) (hl : x.lt H.length) :
    ∃ v', (Instr.extract v i).run P w = .ok v' w ∧ After S w0 r H k v' w := by
  unfold evExtract at h
  split at h
  · rename_i l
    obtain ⟨vs, rfl, hr⟩ := hx
    split at h
    · rename_i y hy
      obtain ⟨u, hu, hyu⟩ := hr.get i y hy
      exact ⟨u, by simp [Instr.extract, hu], After.pure st h hyu (hl y (List.mem_of_getElem? hy))⟩
    · exact h.elim
  · exact h.elim
def bt (s : ByteArray) (i : Nat) : Int := ((s.data.getD i 0).toNat : Int)
def evPart (P : Program) (e : TypeId) (l : List C) (off : Nat) (f : VV → Prop) : Prop :=
  match P.info? e, P.underlying e with
  | some inf, some d => match isRowB d with
    | true => f (.agg ((l.drop off).take inf.size))
    | false => match l[off]? with | some c => f (.c c) | none => False
  | _, _ => False
theorem evPart_sound (st : HeapOK S w0 r H w) {e : TypeId} {l : List C} {off : Nat} {k : VV → VH K → Prop} (h : evPart P e l off fun v => k v H) {vs : List Value} (hr : Rel r l vs) (hl : (VV.agg l).lt H.length) :
    ∃ v', (part e vs.toArray off).run P w = .ok v' w ∧ After S w0 r H k v' w := by
  unfold evPart at h
  split at h
  · rename_i inf d hi hd
    split at h
    · rename_i hrow
      have hagg : (isAgg e).run P w = .ok true w := by
        unfold isAgg; rw [Sem.run_bind, run_underlying hd w]; cases d <;> simp_all [isRowB]
      refine ⟨.agg ((vs.drop off).take inf.size).toArray, ?_, After.pure st h ⟨_, rfl, (hr.drop _).take _⟩ (fun c hc => hl c (List.mem_of_mem_drop (List.mem_of_mem_take hc)))⟩
      simp [part, hagg, sizeOf, typeInfo, hi, List.drop_take]
    · rename_i hrow
      have hagg : (isAgg e).run P w = .ok false w := by
        unfold isAgg; rw [Sem.run_bind, run_underlying hd w]; cases d <;> simp_all [isRowB]
      split at h
      · rename_i c hc
        obtain ⟨u, hu', hcu⟩ := hr.get _ c hc
        exact ⟨u, by simp [part, hagg, hu'], After.pure st h hcu (hl c (List.mem_of_getElem? hc))⟩
      · exact h.elim
  · exact h.elim
def evIndex (P : Program) (T : TypeId) (x ix : VV) (f : VV → Prop) : Prop :=
  match ix, P.underlying T, x with
  | .one (.c (.int _ z)), some .string, .one (.c (.str s)) => (0 ≤ z ∧ z < (s.size : Int)) ∧ f (.c (.int .u8 (bt s z.toNat)))
  | .one (.c (.int _ z)), some (.array len e), .one (.agg l) => match P.info? e with
    | some inf => (0 ≤ z ∧ z < (len : Int)) ∧ idxSplit z (fun q => evPart P e l (q * inf.size) f) len 0
    | none => False
  | _, _, _ => False
theorem evIndex_sound (st : HeapOK S w0 r H w) {T : TypeId} {x ix : VV} {k : VV → VH K → Prop} (h : evIndex P T x ix fun v => k v H) {v u : Value} (hx : x.is r v) (hix : ix.is r u) (hl : x.lt H.length) :
    ∃ v', (Instr.index T v u).run P w = .ok v' w ∧ After S w0 r H k v' w := by
  unfold evIndex at h
  split at h
  · rename_i kk z s hu
    simp only [VV.is, V1.is, C.is, C.plain] at hx hix
    subst hx hix
    obtain ⟨hz, h⟩ := h
    have hlt : z.toNat < s.size := by omega
    refine ⟨.int .u8 (bt s z.toNat), ?_, After.pure st h rfl (lt_of_nm rfl)⟩
    have hg : s[z.toNat]? = some s[z.toNat] := by simp [hlt]
    simp only [Instr.index, asIntOf, Sem.run_bind, Sem.run_pure, Result.andThen_ok, run_underlying hu, hz.1, if_true, hg]
    have : s[z.toNat] = s.data.getD z.toNat 0 := by
      have hlt' : z.toNat < s.data.size := hlt
      have hlt2 : z.toNat < s.size := hlt
      simp only [Array.getD, hlt']; rfl
    simp [bt, this]
  · rename_i kk z len e l hu
    simp only [VV.is, V1.is, C.is, C.plain] at hix
    subst hix
    obtain ⟨vs, rfl, hr⟩ := hx
    split at h
    · rename_i inf hi
      obtain ⟨hz, h⟩ := h
      have h := idxSplit_sound h (by simpa using hz.1) (by simpa using hz.2)
      obtain ⟨v', h1, h2⟩ := evPart_sound st h hr hl
      refine ⟨v', ?_, h2⟩
      simp only [Instr.index, asIntOf, Sem.run_bind, Sem.run_pure, Result.andThen_ok, run_underlying hu, hz.1, hz.2, and_self, if_true, sizeOf, typeInfo, hi]
      simp [hi, h1]
    · exact h.elim
  · exact h.elim
def evField (P : Program) (T : TypeId) (x : VV) (fd : Nat) (f : VV → Prop) : Prop :=
  match x, P.underlying T with
  | .one (.agg l), some (.struct fs) =>
    match fs[fd]? with
    | some fl => match P.info? fl.type, P.underlying fl.type with
      | some inf, some d => match isRowB d with
        | true => f (.agg ((l.drop fl.offset).take inf.size))
        | false => match l[fl.offset]? with | some c => f (.c c) | none => False
      | _, _ => False
    | none => False
  | _, _ => False
theorem evField_sound (st : HeapOK S w0 r H w) {T : TypeId} {x : VV} {fd : Nat} {k : VV → VH K → Prop} (h : evField P T x fd fun v => k v H) {v : Value} (hx : x.is r v) (hl : x.lt H.length) :
    ∃ v', (Instr.field T v fd).run P w = .ok v' w ∧ After S w0 r H k v' w := by
  unfold evField at h
  split at h
  · rename_i l fs hu
    obtain ⟨vs, rfl, hr⟩ := hx
    split at h
    · rename_i fl hf
      split at h
      · rename_i inf d hi hd
        split at h
        · rename_i hrow
          have hagg : (isAgg fl.type).run P w = .ok true w := by
            unfold isAgg; rw [Sem.run_bind, run_underlying hd w]; cases d <;> simp_all [isRowB]
          refine ⟨.agg ((vs.drop fl.offset).take inf.size).toArray, ?_, After.pure st h ⟨_, rfl, (hr.drop _).take _⟩ (fun c hc => hl c (List.mem_of_mem_drop (List.mem_of_mem_take hc)))⟩
          simp [Instr.field, run_underlying hu, hf, asAgg, part, hagg, sizeOf, typeInfo, hi, List.drop_take]
        · rename_i hrow
          have hagg : (isAgg fl.type).run P w = .ok false w := by
            unfold isAgg; rw [Sem.run_bind, run_underlying hd w]; cases d <;> simp_all [isRowB]
          split at h
          · rename_i c hc
            obtain ⟨u, hu', hcu⟩ := hr.get _ c hc
            exact ⟨u, by simp [Instr.field, run_underlying hu, hf, asAgg, part, hagg, hu'], After.pure st h hcu (hl c (List.mem_of_getElem? hc))⟩
          · exact h.elim
      · exact h.elim
    · exact h.elim
  · exact h.elim
def evLen (P : Program) (T : TypeId) (x : VV) (f : VV → Prop) : Prop :=
  match P.underlying T, x with
  | some .string, .one (.c (.str s)) => f (.c (.int .i64 (s.size : Int)))
  | some (.array n _), _ => f (.c (.int .i64 (n : Int)))
  | some (.slice _), .one (.c (.slc _ _ n _)) => f (.c (.int .i64 (n : Int)))
  | some (.slice _), .one (.c .nils) => f (.c (.int .i64 0))
  | some (.slice _), .one (.c (.rs _ _ x)) => f (.c (.int .i64 (x.len : Int)))
  | some (.slice _), .one (.c (.ls _ _ _ n _)) => f (.c (.int .i64 (n : Int)))
  | _, _ => False
theorem evLen_sound (st : HeapOK S w0 r H w) {T ty : TypeId} {x : VV} {k : VV → VH K → Prop} (h : evLen P T x fun v => k v H) {v : Value} (hx : x.is r v) :
    ∃ v', (Builtin.len_ #[T] ty #[v]).run P w = .ok v' w ∧ After S w0 r H k v' w := by
  unfold evLen at h
  split at h
  · rename_i s hu
    simp only [VV.is, V1.is, C.is, C.plain] at hx
    subst hx
    refine done st (c := .int _ _) rfl h (by simp [C.plain, Builtin.len_, run_underlying hu, goInt])
  · rename_i n e hu
    refine done st (c := .int _ _) rfl h (by simp [C.plain, Builtin.len_, run_underlying hu, goInt])
  · rename_i e n lo m cap hu
    obtain ⟨a, rfl, _⟩ := hx
    refine done st (c := .int _ _) rfl h (by simp [C.plain, Builtin.len_, run_underlying hu, goInt])
  · rename_i e hu
    simp only [VV.is, V1.is, C.is, C.plain] at hx
    subst hx
    refine done st (c := .int _ _) rfl h (by simp [C.plain, Builtin.len_, run_underlying hu, goInt])
  · rename_i e e' sz x hu
    simp only [VV.is, V1.is, C.is, C.plain] at hx
    subst hx
    refine done st (c := .int _ _) rfl h (by cases x <;> simp [RS.val, RS.len, C.plain, Builtin.len_, run_underlying hu, goInt])
  · rename_i e e' b o n cap hu
    simp only [VV.is, V1.is, C.is, C.plain] at hx
    subst hx
    refine done st (c := .int _ _) rfl h (by simp [C.plain, Builtin.len_, run_underlying hu, goInt])
  · exact h.elim
def evMM (mx : Bool) (x y : VV) (f : VV → Prop) : Prop :=
  match x, y with
  | .one (.c (.int k a)), .one (.c (.int _ b)) => match mx with | true => f (.c (.int k (max a b))) | false => f (.c (.int k (min a b)))
  | _, _ => False
theorem evMax_sound (st : HeapOK S w0 r H w) {ts : Array TypeId} {ty : TypeId} {x y : VV} {k : VV → VH K → Prop} (h : evMM true x y fun v => k v H) {v u : Value} (hx : x.is r v) (hy : y.is r u) :
    ∃ v', (Builtin.max_ ts ty #[v, u]).run P w = .ok v' w ∧ After S w0 r H k v' w := by
  unfold evMM at h
  split at h
  · rename_i kk a kk' b
    simp only [VV.is, V1.is, C.is, C.plain] at hx hy
    subst hx hy
    refine ⟨.int kk (max a b), ?_, After.pure st h rfl (lt_of_nm rfl)⟩
    simp [Builtin.max_, Builtin.max2]
    split <;> omega
  · exact h.elim
theorem evMin_sound (st : HeapOK S w0 r H w) {ts : Array TypeId} {ty : TypeId} {x y : VV} {k : VV → VH K → Prop} (h : evMM false x y fun v => k v H) {v u : Value} (hx : x.is r v) (hy : y.is r u) :
    ∃ v', (Builtin.min_ ts ty #[v, u]).run P w = .ok v' w ∧ After S w0 r H k v' w := by
  unfold evMM at h
  split at h
  · rename_i kk a kk' b
    simp only [VV.is, V1.is, C.is, C.plain] at hx hy
    subst hx hy
    refine ⟨.int kk (min a b), ?_, After.pure st h rfl (lt_of_nm rfl)⟩
    simp [Builtin.min_, Builtin.min2]
    split <;> omega
  · exact h.elim
end Go.Proofs.YtndlpbheifalhaaGreatDoor.E
end
section
namespace Go.Proofs.YtndlpbheifalhaaGreatDoor.E
set_option linter.unusedVariables false
set_option linter.unusedSimpArgs false
variable {K : Kinds} {P : Program} {S : Nat → Prop} {w0 w : World} {r : Nat → Ref} {H : VH K}
def fillC (place : Nat → Option (Nat × Nat)) (cs : List C) : List (Nat × VV) → Option (List C)
  | [] => some cs
  | (i, v) :: rest =>
    match place i, v.cs with
    | some (off, size), some vs => match vs.length == size && Nat.ble (off + vs.length) cs.length && vs.all C.one with
      | true => fillC place (splice cs off vs) rest
      | false => none
    | _, _ => none
def RelP (r : Nat → Ref) (N : Nat) : List (Nat × VV) → List (Nat × Value) → Prop
  | [], [] => True
  | (i, x) :: ps, (j, v) :: qs => i = j ∧ x.is r v ∧ x.lt N ∧ RelP r N ps qs
  | _, _ => False
theorem foldl_setIf (off : Nat) : ∀ (vs : List Value) (n : Nat) (cells : Array Value), off + n + vs.length ≤ cells.size →
    ((vs.zipIdx n).foldl (fun cs (p : Value × Nat) => cs.setIfInBounds (off + p.2) p.1) cells).toList = cells.toList.take (off + n) ++ vs ++ cells.toList.drop (off + n + vs.length)
  | [], n, cells, _ => by simp
  | v :: vs, n, cells, h => by
    simp only [List.zipIdx_cons, List.foldl_cons]
    rw [foldl_setIf off vs (n + 1) _ (by simp at h ⊢; omega)]
    have := list_seg_step cells.toList (off + n) v vs (by simp at h ⊢; omega)
    simp only [Array.toList_setIfInBounds, ← Nat.add_assoc] at this ⊢
    rw [this]
    simp [Nat.add_assoc]
theorem fill_sound {place : Nat → Option (Nat × Nat)} {N : Nat} : ∀ {ps : List (Nat × VV)} {qs : List (Nat × Value)} {cs : List C} {vs : List Value} {out : List C}, fillC place cs ps = some out → RelP r N ps qs → Rel r cs vs → (∀ c ∈ cs, c.lt N) →
    ∃ us, Instr.fill place vs.toArray qs = some us.toArray ∧ Rel r out us ∧ out.length = cs.length ∧ ∀ c ∈ out, c.lt N
  | [], [], cs, vs, out, h, _, hr, hl => by simp only [fillC, Option.some.injEq] at h; subst h; exact ⟨vs, rfl, hr, rfl, hl⟩
  | (i, x) :: ps, (j, v) :: qs, cs, vs, out, h, hp, hr, hl => by
    obtain ⟨rfl, hx, hxl, hp⟩ := hp
    simp only [fillC] at h
    split at h
    · rename_i off size xs hpl hcs
      split at h
      · rename_i hg
        simp only [Bool.and_eq_true, beq_iff_eq, Nat.ble_eq] at hg
        obtain ⟨⟨hsz, hfit⟩, hone⟩ := hg
        obtain ⟨us, hvc, hru, hc⟩ := cs_is hcs hx hxl hone
        have hul := hru.length
        have hvl := hr.length
        have hrs : Rel r (splice cs off xs) (vs.take off ++ us ++ vs.drop (off + us.length)) := by
          rw [hul]; exact ((hr.take off).append hru).append (hr.drop (off + xs.length))
        have hls : ∀ c ∈ splice cs off xs, c.lt N := fun c hc' => by
          simp only [splice, List.mem_append] at hc'
          rcases hc' with (hc' | hc') | hc'
          · exact hl c (List.mem_of_mem_take hc')
          · exact (hc c hc').1
          · exact hl c (List.mem_of_mem_drop hc')
        obtain ⟨out', ho, hro, hlen, hlo⟩ := fill_sound (qs := qs) h hp hrs hls
        refine ⟨out', ?_, hro, by rw [hlen, splice_length hfit], hlo⟩
        have hsize : v.cells.size = size := by rw [hvc]; simp; omega
        have hbound : ¬ (off + v.cells.size > vs.toArray.size) := by rw [hvc]; simp; omega
        have hfold : (v.cells.zipIdx.foldl (fun (cs : Array Value) (x : Value × Nat) => match x with | (c, j) => cs.setIfInBounds (off + j) c) vs.toArray) = (vs.take off ++ us ++ vs.drop (off + us.length)).toArray := by
          have := foldl_setIf off us 0 vs.toArray (by simp; omega)
          rw [hvc]
          apply Array.ext'
          simp only [Nat.add_zero] at this
          rw [← Array.foldl_toList]
          simpa using this
        simp only [Instr.fill, hpl, hsize]
        rw [if_neg (by simp; rw [← hsize]; simpa using hbound)]
        rw [hfold]
        exact ho
      · cases h
    · cases h
  | [], _ :: _, _, _, _, _, hp, _, _ => hp.elim
  | _ :: _, [], _, _, _, _, hp, _, _ => hp.elim
def builtC (P : Program) (t : TypeId) (ps : List (Nat × VV)) : Option (List C) :=
  match P.info? t, P.underlying t with
  | some it, some (.array _ e) =>
    match it.zero, P.info? e with
    | some z, some ie => fillC (fun i => some (i * ie.size, ie.size)) (z.cells.toList.map ofConstC) ps
    | _, _ => none
  | some it, some (.struct fields) =>
    match it.zero, fields.toList.mapM (fun f => (P.info? f.type).map fun i => (f.offset, i.size)) with
    | some z, some places => fillC (fun i => places[i]?) (z.cells.toList.map ofConstC) ps
    | _, _ => none
  | _, _ => none
def evBuild (P : Program) (t : TypeId) (ps : List (Nat × VV)) (f : VV → Prop) : Prop :=
  match builtC P t ps with
  | some cs => f (.agg cs)
  | none => False
theorem constL_lt (l : List Value) (N : Nat) : ∀ c ∈ l.map ofConstC, c.lt N := fun c hc => by obtain ⟨u, _, rfl⟩ := List.mem_map.1 hc; exact lt_of_nm (ofConstC_nm u)
theorem evBuild_sound (st : HeapOK S w0 r H w) {t : TypeId} {ps : List (Nat × VV)} {k : VV → VH K → Prop} (h : evBuild P t ps fun v => k v H) {qs : Array (Nat × Value)} (hp : RelP r H.length ps qs.toList) :
    ∃ v', (Instr.build t qs).run P w = .ok v' w ∧ After S w0 r H k v' w := by
  unfold evBuild at h
  split at h
  · rename_i cs hb
    have key : ∃ us : List Value, P.built t qs.toList = some us.toArray ∧ Rel r cs us ∧ ∀ c ∈ cs, c.lt H.length := by
      unfold builtC at hb
      unfold Program.built
      split at hb
      · rename_i it n e hi hu
        split at hb
        · rename_i z ie hz he
          obtain ⟨us, h1, h2, _, h3⟩ := fill_sound hb hp (ofConstL_rel z.cells.toList) (constL_lt _ _)
          refine ⟨us, ?_, h2, h3⟩
          simp only [hi, hu, hz, he]
          simpa using h1
        · cases hb
      · rename_i it fields hi hu
        split at hb
        · rename_i z places hz hpl
          obtain ⟨us, h1, h2, _, h3⟩ := fill_sound hb hp (ofConstL_rel z.cells.toList) (constL_lt _ _)
          refine ⟨us, ?_, h2, h3⟩
          simp only [hi, hu, hz, hpl]
          simpa using h1
        · cases hb
      · cases hb
    obtain ⟨us, h1, h2, h3⟩ := key
    exact ⟨.agg us.toArray, run_build w t qs _ h1, After.pure st h ⟨us, rfl, h2⟩ h3⟩
  · exact h.elim
def chunk (kd : K.Kd) : Nat → List C → Option (List (K.α kd))
  | 0, cs => match cs with | [] => some [] | _ => none
  | n + 1, cs => match K.dec kd (cs.take (K.size kd)), chunk kd n (cs.drop (K.size kd)) with
    | some x, some xs => some (x :: xs)
    | _, _ => none
theorem chunk_flat (hK : K.Ok) {kd : K.Kd} : ∀ {n : Nat} {cs : List C} {xs : List (K.α kd)}, chunk kd n cs = some xs → flat kd xs = cs ∧ xs.length = n
  | 0, cs, xs, h => by
    simp only [chunk] at h
    split at h
    · injection h with h; subst h; exact ⟨rfl, rfl⟩
    · cases h
  | n + 1, cs, xs, h => by
    simp only [chunk] at h
    split at h
    · rename_i x ys hx hys
      injection h with h; subst h
      obtain ⟨h1, h2⟩ := chunk_flat hK hys
      refine ⟨?_, by simp [h2]⟩
      have hd := hK.dec kd _ _ hx
      simp only [flat, List.flatMap_cons] at h1 ⊢
      rw [h1, hd, List.take_append_drop]
    · cases h
def evSliceLit0 (P : Program) (t : TypeId) (len : Nat) (ps : List (Nat × VV)) (H : VH K) (k : VV → VH K → Prop) : Prop :=
  match P.underlying t with
  | some (.slice e) => match P.info? e, K.ofType e with
    | some ie, some kd => match ie.zero with
      | some z => guardP (ie.size == K.size kd && (K.elem kd == e && (z.cells.size == ie.size && Nat.ble (len * ie.size) 16777216)))
          (match fillC (fun i => some (i * ie.size, ie.size)) ((List.replicate len (z.cells.toList.map ofConstC)).flatten) ps with
          | some cs => match chunk kd len cs with
            | some xs => k (.c (.slc H.length 0 len none)) (H ++ [.arr kd xs])
            | none => False
          | none => False)
      | none => False
    | _, _ => False
  | _ => False
theorem replicate_flatten_get (l : List Value) : ∀ (n j : Nat), j < n * l.length → ((List.replicate n l).flatten)[j]? = l[j % l.length]?
  | 0, j, h => by simp at h
  | n + 1, j, h => by
    rw [List.replicate_succ, List.flatten_cons]
    by_cases hj : j < l.length
    · rw [List.getElem?_append_left hj, Nat.mod_eq_of_lt hj]
    · rw [List.getElem?_append_right (by omega), replicate_flatten_get l n (j - l.length) (by rw [Nat.add_mul] at h; omega)]
      congr 1
      exact (Nat.mod_eq_sub_mod (by omega)).symm
theorem madeCells_flatten (z : Array Value) (n : Nat) : (madeCells z (n * z.size)).toList = (List.replicate n z.toList).flatten := by
  apply List.ext_getElem?
  intro j
  by_cases hj : j < n * z.size
  · rw [replicate_flatten_get z.toList n j (by simpa using hj)]
    have hp : 0 < z.size := by rcases Nat.eq_zero_or_pos z.size with h | h; (rw [h] at hj; omega); exact h
    have hm : j % z.size < z.size := Nat.mod_lt _ hp
    simp [madeCells, hj, hm]
  · have h1 : (madeCells z (n * z.size)).toList.length ≤ j := by rw [Array.length_toList, size_madeCells]; omega
    have h2 : ((List.replicate n z.toList).flatten).length ≤ j := by simp; omega
    rw [List.getElem?_eq_none h1, List.getElem?_eq_none h2]
theorem rel_replicate {cs : List C} {vs : List Value} (h : Rel r cs vs) : ∀ n, Rel r (List.replicate n cs).flatten (List.replicate n vs).flatten
  | 0 => trivial
  | n + 1 => by simp only [List.replicate_succ, List.flatten_cons]; exact h.append (rel_replicate h n)
theorem ownsRow_new {w : World} {e : TypeId} {size n cap : Nat} {cur : Array Value} {xs : List Value} (hc : cur.size = cap * size) (hn : n ≤ cap) (hm : cap ≤ maxLen) (ht : cur.toList.take (n * size) = xs) (hx : xs.length = n * size) :
    (w.alloc (.cells cur e)).ownsRow 0 e size (.slice (some ⟨w.heap.size, 0, none⟩) n cap) n xs :=
  ⟨hx, .inr ⟨w.heap.size, cap, cur, rfl, Nat.zero_le _, heap_alloc_new w _, hn, hm, hc, ht⟩⟩
theorem val_is {x : Ref} {R : Nat → Ref} {N n : Nat} (h : R N = x) (ho : x.off = 0) : (C.slc N 0 n none).is R (x.val n) :=
  ⟨if x.nl then none else some ⟨x.blk, 0, none⟩, by simp [Ref.val, h], .inr (by simp [h, ho])⟩
theorem After.newArr (hK : K.Ok) (st : HeapOK S w0 r H w) {kd : K.Kd} {xs : List (K.α kd)} {k : VV → VH K → Prop} (h : k (.c (.slc H.length 0 xs.length none)) (H ++ [.arr kd xs])) {n : Nat} (hn : n = xs.length) {cur : Array Value} {cap : Nat}
    (hc : cur.size = cap * K.size kd) (hle : n ≤ cap) (hm : cap ≤ maxLen) (ht : cur.toList.take (n * K.size kd) = (flat kd xs).map C.plain) :
    After S w0 r H k (.slice (some ⟨w.heap.size, 0, none⟩) n cap) (w.alloc (.cells cur (K.elem kd))) := by
  subst hn
  have ho := ownsRow_new (w := w) (e := K.elem kd) hc hle hm ht (by rw [List.length_map, flat_length hK])
  obtain ⟨x, hx, hsz, st'⟩ := st.owned (xs := xs) none (World.grownBy_alloc w _ none) (fun b hb => by cases hb) ho (fun b hb => .inr (by simp [Value.ownBlock] at hb; omega))
  refine ⟨_, _, _, h, ?_, fun m hm => by simp [C.nm] at hm; subst hm; simp, by simp, fun n hn => upd_old hn, RoKeep.push rfl, st'⟩
  rw [hx]
  exact val_is upd_new hsz.2
theorem evSliceLit0_sound (hK : K.Ok) (st : HeapOK S w0 r H w) {t : TypeId} {len : Nat} {ps : List (Nat × VV)} {k : VV → VH K → Prop} (h : evSliceLit0 P t len ps H k) {qs : Array (Nat × Value)} (hp : RelP r H.length ps qs.toList) :
    ∃ v' w', (Instr.buildSlice t len qs).run P w = .ok v' w' ∧ After S w0 r H k v' w' := by
  unfold evSliceLit0 at h
  split at h
  · rename_i e hu
    split at h
    · rename_i ie kd hi ho
      split at h
      · rename_i z hz
        obtain ⟨hg, h⟩ := guardP_iff.1 h
        simp only [Bool.and_eq_true, beq_iff_eq, Nat.ble_eq] at hg
        obtain ⟨hsz, hel, hzs, hbig⟩ := hg
        split at h
        · rename_i cs hf
          split at h
          · rename_i xs hc
            obtain ⟨hfl, hxl⟩ := chunk_flat hK hc
            have hpos := hK.pos kd
            obtain ⟨us, h1, h2, h3, h4⟩ := fill_sound hf hp (rel_replicate (ofConstL_rel z.cells.toList) len) (fun c hc => by
              obtain ⟨l, hl, hc⟩ := List.mem_flatten.1 hc
              obtain rfl := (List.mem_replicate.1 hl).2
              exact constL_lt _ _ c hc)
            have hus : us = (flat kd xs).map C.plain := by
              refine Rel.of_plain (r := r) (flat_nm hK kd xs) ?_
              rw [hfl]; exact h2
            have hlen : us.length = len * K.size kd := by rw [hus, List.length_map, flat_length hK, hxl]
            refine ⟨.slice (some ⟨w.heap.size, 0, none⟩) len len, w.alloc (.cells us.toArray e), ?_, ?_⟩
            · have hbig' : ¬ (len * ie.size > 2 ^ 24) := by omega
              by_cases h0 : len * ie.size = 0
              · have hl0 : len = 0 := by
                  rcases Nat.mul_eq_zero.1 h0 with h | h
                  · exact h
                  · omega
                subst hl0
                simp only [List.replicate_zero, List.flatten_nil] at h1
                simp [Instr.buildSlice, run_underlying hu, sizeOf, typeInfo, hi, newRow]
                rw [show (Array.map (fun x => (default : Value)) (Array.range 0)) = #[] from by apply Array.ext'; simp, h1]
                simp
              · have hcur : (Array.range (len * ie.size)).map (fun x => z.cells[x % z.cells.size]!) = ((List.replicate len z.cells.toList).flatten).toArray := by
                  have := madeCells_flatten z.cells len
                  rw [hzs] at this
                  apply Array.ext'
                  rw [← this]
                  simp [madeCells, hzs]
                simp only [Nat.not_lt, gt_iff_lt] at hbig'
                simp [Instr.buildSlice, run_underlying hu, sizeOf, typeInfo, hi, h0, hbig, zeroValue, hz, hcur, h1, newRow]
            · rw [← hel]
              refine After.newArr hK st (xs := xs) (by rw [hxl]; exact h) hxl.symm (by simp [hlen]) (Nat.le_refl _) ?_ ?_
              · simp only [maxLen]
                have : len ≤ len * ie.size := Nat.le_mul_of_pos_right _ (by omega)
                omega
              · rw [List.take_of_length_le (by simp [hlen])]
                exact hus
          · exact h.elim
        · exact h.elim
      · exact h.elim
    · exact h.elim
  · exact h.elim
theorem HeapOK.frz (st : HeapOK S w0 r H w) {n m : Nat} {kd : K.Kd} {xs : List (K.α kd)} {φ : Bag K} (hn : at_ H n = .arr kd xs) (hm : at_ H m = .bag φ) :
    ((r n).nl = true ∧ xs = [] ∧ (r n).cap = 0 ∧ HeapOK S w0 r (H.set n .gone) w) ∨
    ((r n).nl = false ∧ (r n).sz = K.size kd ∧ (r n).off = 0 ∧ φ (r n).blk = none ∧ xs.length ≤ (r n).cap ∧ HeapOK S w0 r ((H.set n .gone).set m (.bag (bput φ (r n).blk (.row kd (r n).cap xs)))) w) := by
  have hok := st.ok n
  rw [hn] at hok
  obtain ⟨⟨hsz, hoff⟩, hnc, ho⟩ := hok
  have hnl : n < H.length := at_lt (by rw [hn]; simp)
  have hml : m < H.length := at_lt (by rw [hm]; simp)
  have hne : n ≠ m := fun e => by rw [e, hm] at hn; cases hn
  have hgone : at_ (H.set n .gone) n = .gone := by rw [at_set hnl, if_pos rfl]
  cases hx : (r n).nl with
  | true =>
    left
    refine ⟨rfl, ?_, hnc hx, ?_⟩
    · cases xs with
      | nil => rfl
      | cons y ys => have := nl_false (r := r) (x := r n) ⟨⟨hsz, hoff⟩, hnc, ho⟩ (by simp); rw [hx] at this; cases this
    · refine st.evolve (fun q => q = n) (RoKeep.set hnl rfl) (by simp) (fun _ _ => rfl) (fun q _ ht => by rw [at_set hnl, if_neg ht]) rfl rfl rfl (Nat.le_refl _) (fun _ _ _ => rfl) (fun q hq hc => ?_) (fun q b hc hb => ?_) (fun q q' b hne hc hc' hb hb' => ?_)
      · have : q = n := hc.resolve_right (by simp at hq; omega)
        subst this; rw [hgone]; exact ⟨trivial, trivial⟩
      · rcases hc with rfl | hge
        · rw [blkOf, hgone] at hb; exact hb.elim
        · rw [blkOf, at_ge (by simpa using hge)] at hb; exact hb.elim
      · rcases hc with rfl | hge
        · rw [blkOf, hgone] at hb; exact hb.elim
        · rw [blkOf, at_ge (by simpa using hge)] at hb; exact hb.elim
  | false =>
    right
    have hbn : blkOf r H n (r n).blk := by rw [blkOf, hn]; exact ⟨hx, rfl⟩
    have hfree : φ (r n).blk = none := by
      cases hφ : φ (r n).blk with
      | none => rfl
      | some i => exact absurd (show blkOf r H m (r n).blk by rw [blkOf, hm]; exact ⟨i, hφ⟩) (st.inj n m _ hne hbn)
    rw [val_of hx] at ho
    have hcap : xs.length ≤ (r n).cap := by
      rcases ho.2 with ⟨h, _⟩ | ⟨g, c, cur, h', _, _, hnc', _⟩
      · simp at h
      · simp only [Value.slice.injEq] at h'; omega
    refine ⟨rfl, hsz, hoff, hfree, hcap, ?_⟩
    have hml' : m < (H.set n Atom.gone).length := by simpa using hml
    have atn : at_ ((H.set n .gone).set m (.bag (bput φ (r n).blk (.row kd (r n).cap xs)))) n = .gone := by rw [at_set hml', if_neg hne, hgone]
    have atm : at_ ((H.set n .gone).set m (.bag (bput φ (r n).blk (.row kd (r n).cap xs)))) m = .bag (bput φ (r n).blk (.row kd (r n).cap xs)) := by rw [at_set hml', if_pos rfl]
    refine st.evolve (fun q => q = n ∨ q = m) (RoKeep.trans (RoKeep.set hnl rfl) (RoKeep.set hml' rfl)) (by simp) (fun _ _ => rfl) (fun q _ ht => ?_) rfl rfl rfl (Nat.le_refl _) (fun _ _ _ => rfl) (fun q hq hc => ?_) (fun q b hc hb => ?_) (fun q q' b hne' hc hc' hb hb' => ?_)
    · rw [at_set hml', if_neg (fun e => ht (.inr e)), at_set hnl, if_neg (fun e => ht (.inl e))]
    · rcases hc.resolve_right (by simp at hq; omega) with rfl | rfl
      · rw [atn]; exact ⟨trivial, trivial⟩
      · rw [atm]
        refine ⟨fun b i hi => ?_, trivial⟩
        unfold bput at hi
        split at hi
        · rename_i e
          injection hi with hi
          subst e hi
          exact ho
        · have := st.ok q
          rw [hm] at this
          exact this b i hi
    · rcases hc with (rfl | rfl) | hge
      · rw [blkOf, atn] at hb; exact hb.elim
      · rw [blkOf, atm] at hb
        obtain ⟨i, hi⟩ := hb
        unfold bput at hi
        split at hi
        · rename_i e; subst e; exact .inl ⟨n, .inl rfl, hbn⟩
        · exact .inl ⟨q, .inr rfl, by rw [blkOf, hm]; exact ⟨i, hi⟩⟩
      · rw [blkOf, at_ge (by simpa using hge)] at hb; exact hb.elim
    · have only : ∀ p b, ((p = n ∨ p = m) ∨ H.length ≤ p) → blkOf r ((H.set n .gone).set m (.bag (bput φ (r n).blk (.row kd (r n).cap xs)))) p b → p = m := fun p b hc hb => by
        rcases hc with (rfl | rfl) | hge
        · rw [blkOf, atn] at hb; exact hb.elim
        · rfl
        · rw [blkOf, at_ge (by simpa using hge)] at hb; exact hb.elim
      exact hne' ((only q b hc hb).trans (only q' b hc' hb').symm)
/-- Cells of one's own are known by their place from here on. -/
theorem HeapOK.frzBox {S : Nat → Prop} {w0 w : World} {r : Nat → Ref} {H : VH K} (st : HeapOK S w0 r H w) {n m : Nat} {T : TypeId} {cs : List C} {φ : Bag K} (hn : at_ H n = .cells T cs) (hm : at_ H m = .bag φ) (hcs : ∀ c ∈ cs, c.nm = none ∧ c.one = true) :
    (r n).off = 0 ∧ φ (r n).blk = none ∧ HeapOK S w0 r ((H.set n .gone).set m (.bag (bput φ (r n).blk (.box T cs)))) w := by
  have hok := st.ok n
  rw [hn] at hok
  obtain ⟨⟨hnil, hoff⟩, vs, hv, hru⟩ := hok
  rw [Rel.of_plain (fun c hc => (hcs c hc).1) hru] at hv
  have hnl : n < H.length := at_lt (by rw [hn]; simp)
  have hml : m < H.length := at_lt (by rw [hm]; simp)
  have hne : n ≠ m := fun e => by rw [e, hm] at hn; cases hn
  have hgone : at_ (H.set n .gone) n = .gone := by rw [at_set hnl, if_pos rfl]
  have hbn : blkOf r H n (r n).blk := by rw [blkOf, hn]; exact rfl
  have hfree : φ (r n).blk = none := by
    cases hφ : φ (r n).blk with
    | none => rfl
    | some i => exact absurd (show blkOf r H m (r n).blk by rw [blkOf, hm]; exact ⟨i, hφ⟩) (st.inj n m _ hne hbn)
  refine ⟨hoff, hfree, ?_⟩
  have hml' : m < (H.set n Atom.gone).length := by simpa using hml
  have atn : at_ ((H.set n .gone).set m (.bag (bput φ (r n).blk (.box T cs)))) n = .gone := by rw [at_set hml', if_neg hne, hgone]
  have atm : at_ ((H.set n .gone).set m (.bag (bput φ (r n).blk (.box T cs)))) m = .bag (bput φ (r n).blk (.box T cs)) := by rw [at_set hml', if_pos rfl]
  have only : ∀ q b, (q = n ∨ q = m) ∨ H.length ≤ q → blkOf r ((H.set n .gone).set m (.bag (bput φ (r n).blk (.box T cs)))) q b → q = m := fun q b hc hb => by
    rcases hc with (rfl | rfl) | hge
    · rw [blkOf, atn] at hb; exact hb.elim
    · rfl
    · rw [blkOf, at_ge (by simpa using hge)] at hb; exact hb.elim
  have hbag := st.ok m
  rw [hm] at hbag
  refine st.evolve (fun q => q = n ∨ q = m) (RoKeep.trans (RoKeep.set hnl rfl) (RoKeep.set hml' rfl)) (by simp) (fun _ _ => rfl) (fun q _ ht => ?_) rfl rfl rfl (Nat.le_refl _) (fun _ _ _ => rfl) (fun q hq hc => ?_) (fun q b hc hb => ?_) (fun q q' b hne' hc hc' hb hb' => hne' ((only q b hc hb).trans (only q' b hc' hb').symm))
  · rw [at_set hml', if_neg (fun e => ht (.inr e)), at_set hnl, if_neg (fun e => ht (.inl e))]
  · rcases hc.resolve_right (by simp at hq; omega) with rfl | rfl
    · rw [atn]; exact ⟨trivial, trivial⟩
    · rw [atm]
      refine ⟨fun b i hi => ?_, trivial⟩
      unfold bput at hi
      split at hi
      · rename_i e
        injection hi with hi
        subst e hi
        exact ⟨hcs, hv⟩
      · exact hbag b i hi
  · obtain rfl := only q b hc hb
    rw [blkOf, atm] at hb
    obtain ⟨i, hi⟩ := hb
    left
    unfold bput at hi
    split at hi
    · rename_i e; subst e; exact ⟨n, .inl rfl, hbn⟩
    · exact ⟨q, .inr rfl, by rw [blkOf, hm]; exact ⟨i, hi⟩⟩
def evFrz (e2 : TypeId) (n len : Nat) (H : VH K) (κ : RS → VH K → Prop) : Prop :=
  match at_ H n, K.ofType e2 with
  | .arr kd xs, some k2 => match K.deq kd k2 with
    | .isTrue _ => len = xs.length ∧ anyBag H fun m φ => (xs = [] → κ .nil (H.set n .gone)) ∧ ∀ b c, φ b = none → xs.length ≤ c → κ (.mk b 0 len c) ((H.set n .gone).set m (.bag (bput φ b (.row kd c xs))))
    | .isFalse _ => False
  | _, _ => False
theorem evFrz_sound (st : HeapOK S w0 r H w) {e2 : TypeId} {n len : Nat} {κ : RS → VH K → Prop} (h : evFrz e2 n len H κ) {v : Value} (hv : (C.slc n 0 len none).is r v) {k2 : K.Kd} (hk2 : K.ofType e2 = some k2) :
    ∃ x H', κ x H' ∧ v = x.val (K.size k2) ∧ H'.length = H.length ∧ RoKeep H H' ∧ HeapOK S w0 r H' w := by
  unfold evFrz at h
  rw [hk2] at h
  split at h
  · rename_i kd xs _ k2' hn hk
    injection hk with hk
    subst hk
    split at h
    · rename_i e _
      subst e
      obtain ⟨rfl, h⟩ := h
      obtain ⟨m, φ, hm, h1, h2⟩ := anyBag_at h
      have hnl : n < H.length := at_lt (by rw [hn]; simp)
      have hml : m < (H.set n Atom.gone).length := by simpa using at_lt (H := H) (n := m) (by rw [hm]; simp)
      obtain ⟨a, rfl, ha⟩ := hv
      have ha : a = if (r n).nl then none else some ⟨(r n).blk, (r n).off + 0 * (r n).sz, none⟩ := ha.resolve_left (fun h => h.1 rfl)
      rcases st.frz hn hm with ⟨q1, q2, q3, q4⟩ | ⟨q1, q2, q3, q4, q5, q6⟩
      · subst q2
        refine ⟨_, _, h1 rfl, ?_, by simp, RoKeep.set hnl rfl, q4⟩
        rw [ha, q1]
        simp [RS.val, q3]
      · refine ⟨_, _, h2 _ _ q4 q5, ?_, by simp, RoKeep.trans (RoKeep.set hnl rfl) (RoKeep.set hml rfl), q6⟩
        rw [ha, q1, q3]
        simp [RS.val]
    · exact h.elim
  · exact h.elim
def frzPs (e2 : TypeId) (sz : Nat) : List (Nat × VV) → VH K → (List (Nat × VV) → VH K → Prop) → Prop
  | [], H, κ => κ [] H
  | (i, v) :: t, H, κ => match v with
    | .one (.c (.slc n 0 len none)) => evFrz e2 n len H fun x H' => frzPs e2 sz t H' fun t' H'' => κ ((i, .c (.rs e2 sz x)) :: t') H''
    | .one (.c .nils) => frzPs e2 sz t H fun t' H'' => κ ((i, .c (.rs e2 sz .nil)) :: t') H''
    | v => frzPs e2 sz t H fun t' H'' => κ ((i, v) :: t') H''
theorem frzPs_sound {e2 : TypeId} {k2 : K.Kd} (hk2 : K.ofType e2 = some k2) : ∀ {ps : List (Nat × VV)} {qs : List (Nat × Value)} {H : VH K} {κ : List (Nat × VV) → VH K → Prop} (st : HeapOK S w0 r H w), RelP r H.length ps qs → frzPs e2 (K.size k2) ps H κ →
    ∃ ps' H', κ ps' H' ∧ RelP r H'.length ps' qs ∧ H'.length = H.length ∧ RoKeep H H' ∧ HeapOK S w0 r H' w
  | [], qs, H, κ, st, hp, h => ⟨[], H, h, hp, rfl, RoKeep.refl H, st⟩
  | (i, v) :: t, [], H, κ, st, hp, h => hp.elim
  | (i, v) :: t, (j, u) :: qs, H, κ, st, hp, h => by
    obtain ⟨h1, h2, h3, h4⟩ := hp
    unfold frzPs at h
    split at h
    · rename_i n len
      obtain ⟨x, H1, hk, hv, hl, hro, st1⟩ := evFrz_sound st h h2 hk2
      obtain ⟨ps', H2, hk', hp', hl', hro', st2⟩ := frzPs_sound hk2 st1 (hl ▸ h4) hk
      exact ⟨_, H2, hk', ⟨h1, hv, lt_of_nm rfl, hp'⟩, hl'.trans hl, hro.trans hro', st2⟩
    · obtain ⟨ps', H2, hk', hp', hl', hro', st2⟩ := frzPs_sound hk2 st h4 h
      exact ⟨_, H2, hk', ⟨h1, h2, lt_of_nm rfl, hp'⟩, hl', hro', st2⟩
    · obtain ⟨ps', H2, hk', hp', hl', hro', st2⟩ := frzPs_sound hk2 st h4 h
      exact ⟨_, H2, hk', ⟨h1, h2, hl' ▸ h3, hp'⟩, hl', hro', st2⟩
/-- The kind of slices that a type's elements are. -/
def innerK (P : Program) (t : TypeId) : Option (TypeId × K.Kd) :=
  match P.underlying t with
  | some (.slice e) => match P.underlying e with
    | some (.slice e2) => (K.ofType e2).map fun k => (e2, k)
    | _ => none
  | _ => none
theorem innerK_of {P : Program} {t e2 : TypeId} {k2 : K.Kd} (h : innerK P t = some (e2, k2)) : K.ofType e2 = some k2 := by
  unfold innerK at h
  split at h
  · split at h
    · rename_i e _ e3 _
      cases hk : K.ofType e3 with
      | none => rw [hk] at h; cases h
      | some k => rw [hk] at h; simp only [Option.map_some, Option.some.injEq, Prod.mk.injEq] at h; obtain ⟨rfl, rfl⟩ := h; exact hk
    · cases h
  · cases h
def evSliceLit (P : Program) (t : TypeId) (len : Nat) (ps : List (Nat × VV)) (H : VH K) (k : VV → VH K → Prop) : Prop :=
  match innerK (K := K) P t with
  | some (e2, k2) => frzPs e2 (K.size k2) ps H fun ps' H' => evSliceLit0 P t len ps' H' k
  | none => evSliceLit0 P t len ps H k
theorem evSliceLit_sound (hK : K.Ok) (st : HeapOK S w0 r H w) {t : TypeId} {len : Nat} {ps : List (Nat × VV)} {k : VV → VH K → Prop} (h : evSliceLit P t len ps H k) {qs : Array (Nat × Value)} (hp : RelP r H.length ps qs.toList) :
    ∃ v' w', (Instr.buildSlice t len qs).run P w = .ok v' w' ∧ After S w0 r H k v' w' := by
  unfold evSliceLit at h
  split at h
  · rename_i e2 k2 hi
    obtain ⟨ps', H', hk, hp', hl, hro, st'⟩ := frzPs_sound (innerK_of hi) st hp h
    obtain ⟨v', w', hr, r', vv, H2, h1, h2, h3, h4, h5, h6, h7⟩ := evSliceLit0_sound hK st' hk hp'
    exact ⟨v', w', hr, r', vv, H2, h1, h2, h3, by omega, fun n hn => h5 n (by omega), hro.trans h6, h7⟩
  · exact evSliceLit0_sound hK st h hp
def evMake (P : Program) (t : TypeId) (l c : VV) (H : VH K) (k : VV → VH K → Prop) : Prop :=
  match P.underlying t, l, c with
  | some (.slice e), .one (.c (.int _ a)), .one (.c (.int _ b)) => match P.info? e, K.ofType e with
    | some ie, some kd => match ie.zero with
      | some z => match K.dec kd (z.cells.toList.map ofConstC) with
        | some x => (0 ≤ a ∧ a ≤ b) ∧ (b ≤ 4611686018427387904 ∧ (ie.bytes : Int) * b ≤ 281474976710656) ∧ guardP (ie.size == K.size kd && K.elem kd == e)
            (k (.c (.slc H.length 0 a.toNat none)) (H ++ [.arr kd (List.replicate a.toNat x)]))
        | none => False
      | none => False
    | _, _ => False
  | _, _, _ => False
theorem map_plain_ofConst (l : List Value) : (l.map ofConstC).map C.plain = l := by
  have := Rel.of_plain (r := fun _ => ⟨0, 0, 0, false, 0⟩) (fun c hc => by obtain ⟨u, _, rfl⟩ := List.mem_map.1 hc; exact ofConstC_nm u) (ofConstL_rel l)
  exact this.symm
theorem evMake_sound (hK : K.Ok) (st : HeapOK S w0 r H w) {t : TypeId} {l c : VV} {k : VV → VH K → Prop} (h : evMake P t l c H k) {v u : Value} (hl : l.is r v) (hc : c.is r u) :
    ∃ v' w', (Instr.makeSlice t v u).run P w = .ok v' w' ∧ After S w0 r H k v' w' := by
  unfold evMake at h
  split at h
  · rename_i e ka a kb b hu
    simp only [VV.is, V1.is, C.is, C.plain] at hl hc
    subst hl hc
    split at h
    · rename_i ie kd hi ho
      split at h
      · rename_i z hz
        split at h
        · rename_i x hx
          obtain ⟨⟨ha, hab⟩, ⟨hb, hby⟩, h⟩ := h
          obtain ⟨hg, h⟩ := guardP_iff.1 h
          simp only [Bool.and_eq_true, beq_iff_eq] at hg
          obtain ⟨hsz, hel⟩ := hg
          have hd := hK.dec kd _ _ hx
          have hzp : (K.enc kd x).map C.plain = z.cells.toList := by rw [hd, map_plain_ofConst]
          have hzs : z.cells.size = K.size kd := by rw [← hK.len kd x, ← Array.length_toList, ← hzp, List.length_map]
          have hr := run_make (P := P) w t e ie z hu hi hz ka kb a b ha hab hby (by omega)
          refine ⟨_, _, hr, ?_⟩
          rw [← hel, hsz]
          refine After.newArr hK st (xs := List.replicate a.toNat x) (by simpa using h) (by simp) (size_madeCells _ _) (by omega) (by simp only [maxLen]; omega) ?_
          rw [← hzs, madeCells_flatten]
          have hsplit : b.toNat = a.toNat + (b.toNat - a.toNat) := by omega
          rw [hsplit, ← List.replicate_append_replicate, List.flatten_append]
          rw [List.take_left' (by simp)]
          rw [← hzp]
          simp only [flat, List.flatMap_def, List.map_replicate, List.map_flatten]
        · exact h.elim
      · exact h.elim
    · exact h.elim
  · exact h.elim
end Go.Proofs.YtndlpbheifalhaaGreatDoor.E
end
section
namespace Go.Proofs.YtndlpbheifalhaaGreatDoor.E
set_option linter.unusedVariables false
set_option linter.unusedSimpArgs false
variable {K : Kinds} {P : Program} {S : Nat → Prop} {w0 w : World} {r : Nat → Ref} {H : VH K}
def castK (K : Kinds) {a b : K.Kd} (h : a = b) (xs : List (K.α a)) : List (K.α b) := h ▸ xs
theorem castK_rfl {a : K.Kd} (xs : List (K.α a)) : castK K rfl xs = xs := rfl
def capLe (n : Nat) (q : Option Nat) : Prop := match q with | some c => n ≤ c | none => True
/-- What a slice that is known by its place holds. -/
def RS.row (φ : Bag K) (kd : K.Kd) : RS → Option (List (K.α kd))
  | .nil => some []
  | .mk b lo len cap => match φ b with
    | some (.row k c xs) => match K.deq k kd with
      | .isTrue e => if lo + len ≤ xs.length ∧ lo + cap ≤ c ∧ len ≤ cap then some (((castK K e xs).drop lo).take len) else none
      | .isFalse _ => none
    | _ => none
theorem RS.row_mk {φ : Bag K} {kd : K.Kd} {b lo len cap : Nat} {ys : List (K.α kd)} (h : RS.row φ kd (.mk b lo len cap) = some ys) :
    ∃ c xs, φ b = some (.row kd c xs) ∧ lo + len ≤ xs.length ∧ lo + cap ≤ c ∧ len ≤ cap ∧ ys = (xs.drop lo).take len := by
  simp only [RS.row] at h
  split at h
  · rename_i k c xs hφ
    split at h
    · rename_i e _
      subst e
      simp only [castK_rfl] at h
      split at h
      · rename_i hc
        injection h with h
        exact ⟨c, xs, hφ, hc.1, hc.2.1, hc.2.2, h.symm⟩
      · cases h
    · cases h
  · cases h
theorem RS.row_of {φ : Bag K} {kd : K.Kd} {b lo len cap c : Nat} {xs : List (K.α kd)} (h : φ b = some (.row kd c xs)) (h1 : lo + len ≤ xs.length) (h2 : lo + cap ≤ c) (h3 : len ≤ cap) : RS.row φ kd (.mk b lo len cap) = some ((xs.drop lo).take len) := by
  simp only [RS.row, h]
  split
  · simp [castK_rfl, h1, h2, h3]
  · rename_i hne _; exact absurd rfl hne
theorem RS.row_len {φ : Bag K} {kd : K.Kd} {x : RS} {ys : List (K.α kd)} (h : x.row φ kd = some ys) : ys.length = x.len := by
  cases x with
  | nil => simp only [RS.row] at h; injection h with h; subst h; rfl
  | mk b lo len cap =>
    obtain ⟨c, xs, _, h1, _, _, rfl⟩ := RS.row_mk h
    simp only [RS.len, List.length_take, List.length_drop]; omega
/-- A text's bytes, as cells. -/
def strC (s : ByteArray) : List C := s.data.toList.map fun b => .int .u8 (b.toNat : Int)
theorem strC_plain (s : ByteArray) : (strC s).map C.plain = byteCells s := by simp [strC, byteCells, List.map_map, Function.comp_def, C.plain]
theorem strC_length (s : ByteArray) : (strC s).length = s.size := by
  rw [← List.length_map (f := C.plain), strC_plain, byteCells_length]
def srcK (P : Program) (tx : TypeId) (x : VV) (H : VH K) (kd : K.Kd) (f : List (K.α kd) → Prop) : Prop :=
  match P.underlying tx, x with
  | some (.slice _), .one (.c .nils) => f []
  | some (.slice _), .one (.c (.slc m lo len cap)) =>
    match (at_ H m).lst with
    | some ⟨kd', xs⟩ => (lo + len ≤ xs.length ∧ capLe len cap) ∧ match K.deq kd' kd with
      | .isTrue e => f (((castK K e xs).drop lo).take len)
      | .isFalse _ => False
    | _ => False
  | some (.slice _), .one (.c (.rs _ sz x)) => guardP (sz == K.size kd) (anyBag H fun _ φ => ∃ ys, x.row φ kd = some ys ∧ f ys)
  | some .string, .one (.c (.str s)) => guardP (K.size kd == 1) (∃ ys, flat kd ys = strC s ∧ f ys)
  | _, _ => False
theorem slc_addr (hK : K.Ok) {n lo len : Nat} {cap : Option Nat} {v : Value} (hx : (C.slc n lo len cap).is r v) {a : Atom K} {kd : K.Kd} {xs : List (K.α kd)} (hl : a.lst = some ⟨kd, xs⟩) (ha : a.ok r (r n) w) (hle : lo + len ≤ xs.length) (hcap : capLe len cap) (hpos : 0 < len) :
    (r n).nl = false ∧ v = .slice (some ⟨(r n).blk, (r n).off + lo * (r n).sz, none⟩) len (cap.getD ((r n).cap - lo)) := by
  obtain ⟨hsz, hxc, hnl, _⟩ := lst_ok hK hl ha
  have hnl := hnl (by omega)
  obtain ⟨b, rfl, hor⟩ := hx
  refine ⟨hnl, ?_⟩
  rcases hor with ⟨_, h0⟩ | h'
  · exfalso
    cases cap with
    | none => simp only [Option.getD_none] at h0; omega
    | some c => simp only [capLe] at hcap; simp only [Option.getD_some] at h0; omega
  · rw [h']; simp [hnl]
theorem lst_cells (hK : K.Ok) {x : Ref} {a : Atom K} {kd : K.Kd} {xs : List (K.α kd)} (hl : a.lst = some ⟨kd, xs⟩) (ha : a.ok r x w) (lo len : Nat) (hle : lo + len ≤ xs.length) (hpos : 0 < len) :
    ∀ j u, ((flat kd ((xs.drop lo).take len)).map C.plain)[j]? = some u → w.cell? (Addr.add ⟨x.blk, x.off + lo * x.sz, none⟩ j) = some u := by
  obtain ⟨hsz, _, _, hc⟩ := lst_ok hK hl ha
  have hc := hc (by omega)
  intro j u hj
  have hlt : j < len * K.size kd := by
    have h1 := (List.getElem?_eq_some_iff.1 hj).1
    rw [List.length_map, flat_length hK, List.length_take, List.length_drop] at h1
    have h2 : min len (xs.length - lo) = len := by omega
    rwa [h2] at h1
  rw [flat_take hK, flat_drop hK, List.map_take, List.map_drop, List.getElem?_take, if_pos hlt, List.getElem?_drop] at hj
  have := hc (lo * K.size kd + j) u hj
  rw [Addr.add_mid, hsz, Nat.add_assoc]
  exact this
theorem srcK_sound (hK : K.Ok) (st : HeapOK S w0 r H w) {tx : TypeId} {x : VV} {kd : K.Kd} {f : List (K.α kd) → Prop} (h : srcK P tx x H kd f) {v : Value} (hx : x.is r v) :
    ∃ ys, f ys ∧ Src P (K.size kd) tx v ys.length ((flat kd ys).map C.plain) w := by
  have one : ∀ ys : List (K.α kd), ∀ u ∈ (flat kd ys).map C.plain, u.oneCell' = true := fun ys u hu => by
    obtain ⟨c, hc, rfl⟩ := List.mem_map.1 hu
    have := flat_one hK kd ys c hc
    exact C.plain_one this
  unfold srcK at h
  split at h
  · rename_i e hu
    simp only [VV.is, V1.is, C.is, C.plain] at hx
    subst hx
    exact ⟨[], h, Src.ofNil w hu 0⟩
  · rename_i e m lo len cap hu
    split at h
    · rename_i kd' xs ha
      obtain ⟨⟨hle, hcap⟩, h⟩ := h
      split at h
      · rename_i e _
        subst e
        simp only [castK_rfl] at h
        refine ⟨_, h, ?_⟩
        have hok := st.ok m
        have hlen : ((xs.drop lo).take len).length = len := by simp; omega
        rcases Nat.eq_zero_or_pos len with h0 | hpos
        · subst h0
          obtain ⟨a, rfl, _⟩ := hx
          simp only [List.take_zero, List.length_nil]
          cases a with
          | none => exact ⟨.inl ⟨_, hu⟩, fun _ => rfl, by simp [Builtin.firstCells, flat], by simp [Builtin.firstCells, flat], by simp [flat], fun u hu => by simp [flat] at hu⟩
          | some a => exact Src.ofSlice w hu a 0 _ [] (by simp) (by simp) (by simp)
        · obtain ⟨hnl, rfl⟩ := slc_addr hK hx ha hok hle hcap hpos
          rw [hlen]
          exact Src.ofSlice w hu _ len _ _ (by rw [List.length_map, flat_length hK, hlen]) (lst_cells hK ha hok lo len hle hpos) (one _)
      · exact h.elim
    · exact h.elim
  · rename_i e e' sz x hu
    obtain ⟨hg, h'⟩ := guardP_iff.1 h
    clear h
    simp only [beq_iff_eq] at hg
    subst hg
    have h := h'
    obtain ⟨n, φ, hn, ys, hys, hf⟩ := anyBag_at h
    simp only [VV.is, V1.is, C.is, C.plain] at hx
    subst hx
    refine ⟨ys, hf, ?_⟩
    cases x with
    | nil => simp only [RS.row] at hys; injection hys with hys; subst hys; exact Src.ofNil w hu 0
    | mk b lo len cap =>
      obtain ⟨c, xs, hφ, h1, h2, h3, rfl⟩ := RS.row_mk hys
      have hok := st.ok n
      rw [hn] at hok
      have hrow := rowOk (r := fun _ => (⟨b, K.size kd, c, false, 0⟩ : Ref)) (hok b _ hφ)
      have hlen : ((xs.drop lo).take len).length = len := by simp; omega
      rw [hlen]
      rcases Nat.eq_zero_or_pos len with h0 | hpos
      · subst h0
        simp only [List.take_zero]
        exact Src.ofSlice w hu _ 0 _ [] (by simp) (by simp) (by simp)
      · have := Src.ofSlice w hu (⟨b, lo * K.size kd, none⟩ : Addr) len cap ((flat kd ((xs.drop lo).take len)).map C.plain) (by rw [List.length_map, flat_length hK, hlen]) (by simpa using lst_cells hK (a := .arr kd xs) rfl hrow lo len h1 hpos) (one _)
        exact this
  · rename_i s hu
    obtain ⟨hg, ys, hfl, hf⟩ := guardP_iff.1 h
    simp only [beq_iff_eq] at hg
    simp only [VV.is, V1.is, C.is, C.plain] at hx
    subst hx
    have hl : ys.length = s.size := by
      have h1 := flat_length hK kd ys
      rw [hfl, strC_length, hg] at h1
      omega
    refine ⟨ys, hf, ?_⟩
    rw [hg, hl, hfl, strC_plain]
    exact Src.ofString w hu s
  · exact h.elim
/-- The whole row of a slice that is known by its place. -/
def RS.full (φ : Bag K) (kd : K.Kd) : RS → Option (List (K.α kd))
  | .nil => some []
  | .mk b lo len cap => match φ b with
    | some (.row k c xs) => match K.deq k kd with
      | .isTrue e => if lo = 0 ∧ len = xs.length ∧ cap = c then some (castK K e xs) else none
      | .isFalse _ => none
    | _ => none
theorem RS.full_mk {φ : Bag K} {kd : K.Kd} {b lo len cap : Nat} {ys : List (K.α kd)} (h : RS.full φ kd (.mk b lo len cap) = some ys) :
    φ b = some (.row kd cap ys) ∧ lo = 0 ∧ len = ys.length := by
  simp only [RS.full] at h
  split at h
  · rename_i k c xs hφ
    split at h
    · rename_i e _
      subst e
      simp only [castK_rfl] at h
      split at h
      · rename_i hc
        injection h with h
        obtain ⟨h1, h2, h3⟩ := hc
        subst h h3
        exact ⟨hφ, h1, h2⟩
      · cases h
    · cases h
  · cases h
theorem RS.full_of {φ : Bag K} {kd : K.Kd} {b cap : Nat} {xs : List (K.α kd)} (h : φ b = some (.row kd cap xs)) : RS.full φ kd (.mk b 0 xs.length cap) = some xs := by
  simp only [RS.full, h]
  split
  · simp [castK_rfl]
  · rename_i hne _; exact absurd rfl hne
/-- What may have come of an append to a slice that is known by its place. -/
inductive App (φ : Bag K) (kd : K.Kd) (xs ys : List (K.α kd)) : RS → RS → Bag K → Prop where
  | none_ : xs = [] → ys = [] → App φ kd xs ys .nil .nil φ
  | room (b c : Nat) : φ b = some (.row kd c xs) → xs.length + ys.length ≤ c → App φ kd xs ys (.mk b 0 xs.length c) (.mk b 0 (xs.length + ys.length) c) (bput φ b (.row kd c (xs ++ ys)))
  | new (x : RS) (b c : Nat) : φ b = none → xs.length + ys.length ≤ c → App φ kd xs ys x (.mk b 0 (xs.length + ys.length) c) (bput φ b (.row kd c (xs ++ ys)))
def evAppend (P : Program) (t tx : TypeId) (s x : VV) (H : VH K) (k : VV → VH K → Prop) : Prop :=
  match P.underlying t with
  | some (.slice e) => match P.info? e with
    | some ie => match ie.zero with
      | some z => match s with
        | .one (.c .nils) => match K.ofType e with
          | some kd => guardP (ie.size == K.size kd && (K.elem kd == e && (z.cells.size == ie.size && Nat.ble 1 ie.bytes))) (srcK P tx x H kd fun ys =>
              ys.length * ie.bytes ≤ 140737488355328 ∧ k (.c (.slc H.length 0 ys.length none)) (H ++ [.arr kd ys]))
          | none => False
        | .one (.c (.slc n 0 len none)) => match at_ H n with
          | .arr kd xs => guardP (ie.size == K.size kd && (K.elem kd == e && (z.cells.size == ie.size && Nat.ble 1 ie.bytes))) (len = xs.length ∧ srcK P tx x H kd fun ys =>
              (xs.length + ys.length) * ie.bytes ≤ 140737488355328 ∧ k (.c (.slc H.length 0 (xs.length + ys.length) none)) (H.set n .gone ++ [.arr kd (xs ++ ys)]))
          | _ => False
        | .one (.c (.rs e' sz g)) => match K.ofType e with
          | some kd => guardP (ie.size == K.size kd && (K.elem kd == e && (z.cells.size == ie.size && (Nat.ble 1 ie.bytes && (e' == e && sz == K.size kd))))) (srcK P tx x H kd fun ys =>
              anyBag H fun n φ => ∃ xs, g.full φ kd = some xs ∧ (xs.length + ys.length) * ie.bytes ≤ 140737488355328 ∧ ∀ g' φ', App φ kd xs ys g g' φ' → k (.c (.rs e sz g')) (H.set n (.bag φ')))
          | none => False
        | _ => False
      | none => False
    | none => False
  | _ => False
theorem slc0_val {n len : Nat} {v : Value} (h : (C.slc n 0 len none).is r v) (ho : (r n).off = 0) : v = (r n).val len := by
  obtain ⟨a, rfl, hor⟩ := h
  rcases hor with ⟨h, _⟩ | h
  · exact absurd rfl h
  · rw [h]; simp [Ref.val, ho]
theorem evAppend_sound (hK : K.Ok) (st : HeapOK S w0 r H w) {t tx ty : TypeId} {s x : VV} {k : VV → VH K → Prop} (h : evAppend P t tx s x H k) {v u : Value} (hs : s.is r v) (hx : x.is r u) :
    ∃ v' w', (Builtin.append_ #[t, tx] ty #[v, u]).run P w = .ok v' w' ∧ After S w0 r H k v' w' := by
  unfold evAppend at h
  split at h
  · rename_i e hu
    split at h
    · rename_i ie hi
      split at h
      · rename_i z hz
        split at h
        · split at h
          · rename_i kd hkd
            obtain ⟨hg, h⟩ := guardP_iff.1 h
            simp only [Bool.and_eq_true, beq_iff_eq, Nat.ble_eq] at hg
            obtain ⟨hsz, hel, hzs, hby⟩ := hg
            obtain ⟨ys, ⟨hb, hk⟩, hsrc⟩ := srcK_sound hK st h hx
            simp only [VV.is, V1.is, C.is, C.plain] at hs
            subst hs
            have hpos := hK.pos kd
            rw [← hsz] at hsrc
            have hlen63 : 0 + ys.length ≤ maxLen := by
              have : ys.length ≤ ys.length * ie.bytes := Nat.le_mul_of_pos_right _ hby
              simp only [maxLen]; omega
            obtain ⟨v', w', hr, ho, hgr, hob⟩ := append_src (P := P) (ty := ty) hu hi hz hzs (by omega) (World.ownsRow_nil w 0 e ie.size) hsrc hlen63 (by simpa using hb)
            refine ⟨v', w', hr, ?_⟩
            simp only [Nat.zero_add, List.nil_append] at ho
            rw [← hel, hsz] at ho
            obtain ⟨y, hy, hy2, st'⟩ := st.owned (xs := ys) none hgr (fun b hb => by simp [Value.ownBlock] at hb) ho (fun b hb => .inr (by
              rcases hob with h1 | h1
              · rw [h1] at hb; simp [Value.ownBlock] at hb
              · rw [h1] at hb; injection hb with hb; omega))
            subst hy
            exact ⟨_, _, _, hk, val_is upd_new hy2.2, fun m hm => by simp [C.nm] at hm; subst hm; simp, by simp, fun n hn => upd_old hn, RoKeep.push rfl, st'⟩
          · exact h.elim
        · rename_i n len
          split at h
          · rename_i kd xs ha
            obtain ⟨hg, h2⟩ := guardP_iff.1 h
            clear h
            obtain ⟨hle, h⟩ := h2
            subst hle
            simp only [Bool.and_eq_true, beq_iff_eq, Nat.ble_eq] at hg
            obtain ⟨hsz, hel, hzs, hby⟩ := hg
            obtain ⟨ys, ⟨hb, hk⟩, hsrc⟩ := srcK_sound hK st h hx
            have hok := st.ok n
            rw [ha] at hok
            obtain ⟨⟨hrsz, hoff⟩, hnc, ho⟩ := hok
            have hv := slc0_val hs hoff
            subst hv
            have hpos := hK.pos kd
            rw [← hsz] at hsrc
            rw [hel, ← hsz] at ho
            have hlen63 : xs.length + ys.length ≤ maxLen := by
              have : xs.length + ys.length ≤ (xs.length + ys.length) * ie.bytes := Nat.le_mul_of_pos_right _ hby
              simp only [maxLen]; omega
            obtain ⟨v', w', hr, ho', hgr, hob⟩ := append_src (P := P) (ty := ty) hu hi hz hzs (by omega) ho hsrc hlen63 hb
            refine ⟨v', w', hr, ?_⟩
            rw [← List.map_append, ← flat_append, ← List.length_append, ← hel, hsz] at ho'
            have hown : ∀ b, ((r n).val xs.length).ownBlock = some b → blkOf r H n b := fun b hb => by
              rw [blkOf, ha]
              simp only [Atom.has]
              cases hnl : (r n).nl with
              | true => simp [Ref.val, hnl, Value.ownBlock] at hb
              | false => simp [Ref.val, hnl, Value.ownBlock] at hb; simp [hb]
            obtain ⟨y, hy, hy2, st'⟩ := st.owned (xs := xs ++ ys) (some n) hgr (fun b hb _ => ⟨n, rfl, hown b hb⟩) ho' (fun b hb => by
              rcases hob with h1 | h1
              · rw [h1] at hb; exact .inl ⟨n, rfl, hown b hb⟩
              · rw [h1] at hb; injection hb with hb; exact .inr (by omega))
            subst hy
            have hk : k (VV.c (C.slc (List.length H) 0 (xs ++ ys).length none)) (List.set H n Atom.gone ++ [Atom.arr kd (xs ++ ys)]) := by rw [List.length_append]; exact hk
            exact ⟨_, _, _, hk, val_is upd_new hy2.2, fun m hm => by simp [C.nm] at hm; subst hm; simp, by simp, fun n hn => upd_old hn, RoKeep.trans (RoKeep.kill (o := some n)) (by simpa [kill] using RoKeep.push rfl), st'⟩
          · exact h.elim
        · rename_i e' sz g
          split at h
          · rename_i kd hkd
            obtain ⟨hg, h2⟩ := guardP_iff.1 h
            clear h
            simp only [Bool.and_eq_true, beq_iff_eq, Nat.ble_eq] at hg
            obtain ⟨hsz, hel, hzs, hby, he, hs'⟩ := hg
            subst he hs'
            obtain ⟨ys, h3, hsrc⟩ := srcK_sound hK st h2 hx
            obtain ⟨n, φ, hn, xs, hfull, hb, hk⟩ := anyBag_at h3
            simp only [VV.is, V1.is, C.is, C.plain] at hs
            subst hs
            have hok : ∀ b i, φ b = some i → i.ok b w := by have := st.ok n; rw [hn] at this; exact this
            have hpos := hK.pos kd
            rw [← hsz] at hsrc
            have hlen63 : xs.length + ys.length ≤ maxLen := by
              have : xs.length + ys.length ≤ (xs.length + ys.length) * ie.bytes := Nat.le_mul_of_pos_right _ hby
              simp only [maxLen]; omega
            have hown : w.ownsRow 0 e' ie.size (g.val (K.size kd)) xs.length ((flat kd xs).map C.plain) := by
              cases g with
              | nil =>
                simp only [RS.full] at hfull
                injection hfull with hfull
                subst hfull
                exact World.ownsRow_nil w 0 _ _
              | mk b lo len cap =>
                obtain ⟨h4, rfl, rfl⟩ := RS.full_mk hfull
                have := hok b _ h4
                rw [← hel, hsz]
                have e1 : (RS.mk b 0 xs.length cap).val (K.size kd) = .slice (some ⟨b, 0, none⟩) xs.length cap := by simp [RS.val]
                rw [e1]
                exact this
            obtain ⟨v', w', hr, ho', hcase⟩ := append_src2 (P := P) (ty := ty) hu hi hz hzs (by omega) hown hsrc hlen63 hb
            refine ⟨v', w', hr, ?_⟩
            rw [← List.map_append, ← flat_append, ← List.length_append, ← hel, hsz] at ho'
            have hnl : n < H.length := at_lt (by rw [hn]; simp)
            rcases hcase with ⟨hgr, ⟨rfl, hv0, hm0⟩ | ⟨c, rfl, hc⟩⟩ | ⟨hgr, g', c, hv0, rfl, hc⟩
            · have hgn : g = .nil := by cases g with | nil => rfl | mk b lo len cap => simp [RS.val] at hv0
              subst hgn
              simp only [RS.full] at hfull
              injection hfull with hfull
              subst hfull
              have hy0 : ys = [] := List.eq_nil_of_length_eq_zero hm0
              have hst := st.bagStep (φ' := φ) hn hgr.os hgr.tape hgr.output hgr.size (fun b hb _ => hgr.block b hb (by simp)) (fun b i hi => BI.ok_keep (hok b i hi) (hgr.block b (BI.ok_lt (hok b i hi)) (by simp))) (fun b i hi => .inl ⟨i, hi⟩)
              exact ⟨r, _, _, hk _ _ (.none_ rfl hy0), rfl, lt_of_nm rfl, by simp, fun _ _ => rfl, RoKeep.set hnl rfl, hst⟩
            · have hfresh : φ w.heap.size = none := by
                cases hφ : φ w.heap.size with
                | none => rfl
                | some i => exact absurd (BI.ok_lt (hok _ i hφ)) (Nat.lt_irrefl _)
              have hst := st.bagStep (φ' := bput φ w.heap.size (.row kd c (xs ++ ys))) hn hgr.os hgr.tape hgr.output hgr.size (fun b hb _ => hgr.block b hb (by simp)) (fun b i hi => by
                unfold bput at hi
                split at hi
                · rename_i e1
                  injection hi with hi
                  subst e1 hi
                  simpa [BI.ok] using ho'
                · exact BI.ok_keep (hok b i hi) (hgr.block b (BI.ok_lt (hok b i hi)) (by simp))) (fun b i hi => by
                unfold bput at hi
                split at hi
                · rename_i e1; subst e1; exact .inr (Nat.le_refl _)
                · exact .inl ⟨i, hi⟩)
              exact ⟨r, _, _, hk _ _ (.new _ _ c hfresh hc), by simp [VV.is, V1.is, C.is, C.plain, RS.val], lt_of_nm rfl, by simp, fun _ _ => rfl, RoKeep.set hnl rfl, hst⟩
            · obtain ⟨b, hg2, hφ⟩ : ∃ b, g = .mk b 0 xs.length c ∧ φ b = some (.row kd c xs) ∧ b = g' := by
                cases g with
                | nil => simp [RS.val] at hv0
                | mk b lo len cap =>
                  obtain ⟨h4, rfl, rfl⟩ := RS.full_mk hfull
                  simp [RS.val] at hv0
                  obtain ⟨rfl, rfl⟩ := hv0
                  exact ⟨b, rfl, h4, rfl⟩
              obtain ⟨hφ, rfl⟩ := hφ
              subst hg2
              have hob : Value.ownBlock ((RS.mk b 0 xs.length c).val (K.size kd)) = some b := rfl
              rw [hob] at hgr
              have hst := st.bagStep (φ' := bput φ b (.row kd c (xs ++ ys))) hn hgr.os hgr.tape hgr.output hgr.size (fun b' hb' hno => hgr.block b' hb' (fun e1 => hno _ (by injection e1 with e1; subst e1; exact hφ))) (fun b' i hi => by
                unfold bput at hi
                split at hi
                · rename_i e1
                  injection hi with hi
                  subst e1 hi
                  simpa [BI.ok] using ho'
                · rename_i hne
                  exact BI.ok_keep (hok b' i hi) (hgr.block b' (BI.ok_lt (hok b' i hi)) (fun e1 => hne (by injection e1 with e1)))) (fun b' i hi => by
                unfold bput at hi
                split at hi
                · rename_i e1; subst e1; exact .inl ⟨_, hφ⟩
                · exact .inl ⟨i, hi⟩)
              exact ⟨r, _, _, hk _ _ (.room b c hφ hc), by simp [VV.is, V1.is, C.is, C.plain, RS.val], lt_of_nm rfl, by simp, fun _ _ => rfl, RoKeep.set hnl rfl, hst⟩
          · exact h.elim
        · exact h.elim
      · exact h.elim
    · exact h.elim
  · exact h.elim
def optInt (dflt : Int) : Option VV → Option Int
  | none => some dflt
  | some (.one (.c (.int _ z))) => some z
  | some _ => none
def RS.cut (l h m : Nat) : RS → RS
  | .nil => .nil
  | .mk b lo _ _ => .mk b (if m = l then lo else lo + l) (h - l) (m - l)
def evCut (P : Program) (t : TypeId) (x : VV) (lo hi mx : Option VV) (H : VH K) (k : VV → VH K → Prop) : Prop :=
  match P.underlying t, x, optInt 0 lo with
  | some .string, .one (.c (.str s)), some l =>
    match mx, optInt (s.size : Int) hi with
    | none, some h => (0 ≤ l ∧ l ≤ h ∧ h ≤ (s.size : Int)) ∧ k (.c (.str (s.extract l.toNat h.toNat))) H
    | _, _ => False
  | some (.slice e), .one (.c (.slc n b len cap)), some l =>
    match (at_ H n).lst, optInt (len : Int) hi with
    | some ⟨kd, xs⟩, some h =>
      guardP (P.cellsOf e == K.size kd && (P.info? e).isSome) (
      match mx with
      | none => (0 ≤ l ∧ l ≤ h) ∧ (match cap with | some c => h ≤ (c : Int) | none => (b : Int) + h ≤ (xs.length : Int)) ∧
          k (.c (.slc n (b + l.toNat) (h - l).toNat (cap.map (· - l.toNat)))) H
      | some _ => match hi, optInt 0 mx with
        | some _, some m => (0 ≤ l ∧ l ≤ h ∧ h ≤ m) ∧ (match cap with | some c => m ≤ (c : Int) | none => (b : Int) + m ≤ (xs.length : Int)) ∧
          k (.c (.slc n (b + l.toNat) (h - l).toNat (some (m - l).toNat))) H
        | _, _ => False)
    | _, _ => False
  | some (.slice e), .one (.c (.rs e' sz x)), some l =>
    match optInt (x.len : Int) hi with
    | some h =>
      guardP (e == e' && (P.cellsOf e == sz && (P.info? e).isSome)) (
      match mx with
      | none => (0 ≤ l ∧ l ≤ h ∧ h ≤ (x.cap : Int)) ∧ k (.c (.rs e sz (RS.cut l.toNat h.toNat x.cap x))) H
      | some _ => match hi, optInt 0 mx with
        | some _, some m => (0 ≤ l ∧ l ≤ h ∧ h ≤ m ∧ m ≤ (x.cap : Int)) ∧ k (.c (.rs e sz (RS.cut l.toNat h.toNat m.toNat x))) H
        | _, _ => False)
    | none => False
  | _, _, _ => False
def OptIs (r : Nat → Ref) : Option VV → Option Value → Prop
  | none, none => True
  | some x, some v => x.is r v
  | _, _ => False
theorem run_sliceBound {k : IntKind} {i : Int} {y : Nat} {c : BoundsCode} (h0 : 0 ≤ i) (h1 : i ≤ (y : Int)) : (Instr.sliceBound (.int k i) y c).run P w = .ok i.toNat w := by
  simp [Instr.sliceBound, asIntOf, h0, h1]
theorem run_sliceBounds {isS : Bool} {len cap : Nat} {l h : Int} {lo hi : Option Value} (hlo : (lo = none ∧ l = 0) ∨ ∃ k, lo = some (.int k l)) (hhi : (hi = none ∧ h = len) ∨ ∃ k, hi = some (.int k h)) (h0 : 0 ≤ l) (hlh : l ≤ h) (hc : h ≤ (cap : Int)) :
    (Instr.sliceBounds isS len cap lo hi none).run P w = .ok (l.toNat, h.toNat, cap) w := by
  have h1 : 0 ≤ h := by omega
  have h2 : l ≤ ((h.toNat : Nat) : Int) := by omega
  have e1 := fun k c => run_sliceBound (P := P) (w := w) (k := k) (c := c) h0 h2
  have e2 := fun k c => run_sliceBound (P := P) (w := w) (k := k) (c := c) h1 hc
  rcases hlo with ⟨rfl, rfl⟩ | ⟨kl, rfl⟩ <;> rcases hhi with ⟨rfl, rfl⟩ | ⟨kh, rfl⟩ <;>
    simp_all [Instr.sliceBounds]
theorem run_sliceBounds3 {isS : Bool} {len cap : Nat} {l h m : Int} {lo hi : Option Value} {km : IntKind} (hlo : (lo = none ∧ l = 0) ∨ ∃ k, lo = some (.int k l)) (hhi : ∃ k, hi = some (.int k h)) (h0 : 0 ≤ l) (hlh : l ≤ h) (hm : h ≤ m) (hc : m ≤ (cap : Int)) :
    (Instr.sliceBounds isS len cap lo hi (some (.int km m))).run P w = .ok (l.toNat, h.toNat, m.toNat) w := by
  have h1 : 0 ≤ h := by omega
  have h2 : 0 ≤ m := by omega
  have h3 : h ≤ ((m.toNat : Nat) : Int) := by omega
  have h4 : l ≤ ((h.toNat : Nat) : Int) := by omega
  have e1 := fun k c => run_sliceBound (P := P) (w := w) (k := k) (c := c) h0 h4
  have e2 := fun k c => run_sliceBound (P := P) (w := w) (k := k) (c := c) h1 h3
  have e3 := fun k c => run_sliceBound (P := P) (w := w) (k := k) (c := c) h2 hc
  obtain ⟨kh, rfl⟩ := hhi
  rcases hlo with ⟨rfl, rfl⟩ | ⟨kl, rfl⟩ <;>
    simp_all [Instr.sliceBounds]
theorem optInt_of {d z : Int} {x : Option VV} {v : Option Value} (h : optInt d x = some z) (hx : OptIs r x v) : (v = none ∧ z = d) ∨ ∃ k, v = some (.int k z) := by
  unfold optInt at h
  split at h
  · injection h with h
    cases v with
    | none => exact .inl ⟨rfl, h.symm⟩
    | some v => exact hx.elim
  · rename_i kk z'
    injection h with h
    subst h
    cases v with
    | none => exact hx.elim
    | some v =>
      have hx : v = .int kk z' := hx
      subst hx
      exact .inr ⟨kk, rfl⟩
  · cases h
theorem cut_addr {n b len l hl : Nat} {cap : Option Nat} {v : Value} {e : TypeId} {m : Nat} {cap' : Option Nat} (hx : (C.slc n b len cap).is r v) (hm : ∀ c, cap.getD ((r n).cap - b) = c → l ≤ m ∧ m ≤ c)
    (hcap' : cap'.getD ((r n).cap - (b + l)) = m - l) :
    ∃ a, v = .slice a len (cap.getD ((r n).cap - b)) ∧ (C.slc n (b + l) hl cap').is r (.slice (if m = l then a else a.map (·.add (l * (r n).sz))) hl (m - l)) := by
  obtain ⟨a, rfl, hor⟩ := hx
  obtain ⟨hlm, hmc⟩ := hm _ rfl
  refine ⟨a, rfl, ?_⟩
  refine ⟨if m = l then a else a.map (·.add (l * (r n).sz)), by rw [hcap'], ?_⟩
  rw [hcap']
  by_cases e1 : m = l
  · subst e1
    simp only [if_true, Nat.sub_self]
    by_cases e2 : b + m = 0
    · have hb : b = 0 := by omega
      have hm0 : m = 0 := by omega
      subst hb hm0
      rcases hor with ⟨h, _⟩ | h
      · exact absurd rfl h
      · exact .inr (by simpa using h)
    · exact .inl ⟨e2, trivial⟩
  · simp only [e1, if_false]
    right
    rcases hor with ⟨_, h0⟩ | h
    · omega
    · rw [h]
      split
      · rfl
      · simp [Addr.add_mid, Nat.add_mul, Nat.add_assoc]
theorem evCut_sound (hK : K.Ok) (st : HeapOK S w0 r H w) {t : TypeId} {x : VV} {lo hi mx : Option VV} {k : VV → VH K → Prop} (h : evCut P t x lo hi mx H k) {v : Value} {vlo vhi vmx : Option Value} (hx : x.is r v) (hl : x.lt H.length)
    (hlo : OptIs r lo vlo) (hhi : OptIs r hi vhi) (hmx : OptIs r mx vmx) :
    ∃ v', (Instr.sliceAt t v vlo vhi vmx).run P w = .ok v' w ∧ After S w0 r H k v' w := by
  unfold evCut at h
  split at h
  · rename_i s l hu hol
    simp only [VV.is, V1.is, C.is, C.plain] at hx
    subst hx
    split at h
    · rename_i hh hoh
      obtain ⟨⟨h0, h1, h2⟩, h⟩ := h
      have hmn : vmx = none := by cases vmx with | none => rfl | some _ => exact hmx.elim
      subst hmn
      have hb := run_sliceBounds (P := P) (w := w) (isS := false) (len := s.size) (cap := s.size) (optInt_of hol hlo) (optInt_of hoh hhi) h0 h1 h2
      refine ⟨.string (s.extract l.toNat hh.toNat), ?_, After.pure st h rfl (lt_of_nm rfl)⟩
      simp [Instr.sliceAt, run_underlying hu, Instr.slice, hb]
    · exact h.elim
  · rename_i e n b len cap l hu hol
    split at h
    · rename_i kd xs hh ha hoh
      obtain ⟨hg, h⟩ := guardP_iff.1 h
      simp only [Bool.and_eq_true, beq_iff_eq] at hg
      obtain ⟨i, hi⟩ := Option.isSome_iff_exists.1 hg.2
      obtain ⟨hsz, hxc, _, _⟩ := lst_ok hK ha (st.ok n)
      have hcs : i.size = (r n).sz := by rw [hsz, ← hg.1]; simp [Program.cellsOf, hi]
      split at h
      · obtain ⟨⟨h0, h1⟩, h2, h⟩ := h
        have hmn : vmx = none := by cases vmx with | none => rfl | some _ => exact hmx.elim
        subst hmn
        have hhc : hh ≤ ((cap.getD ((r n).cap - b) : Nat) : Int) := by
          cases cap with
          | some c => simpa using h2
          | none => simp only [Option.getD_none]; simp only at h2; omega
        obtain ⟨a, hv, his⟩ := cut_addr (e := e) (l := l.toNat) (hl := (hh - l).toNat) (m := cap.getD ((r n).cap - b)) (cap' := cap.map (· - l.toNat)) hx (fun c hc => by omega)
          (by cases cap with | some c => simp | none => simp only [Option.map_none, Option.getD_none]; omega)
        subst hv
        have hb := run_sliceBounds (P := P) (w := w) (isS := true) (len := len) (cap := cap.getD ((r n).cap - b)) (optInt_of hol hlo) (optInt_of hoh hhi) h0 h1 hhc
        refine ⟨_, ?_, After.pure st h his (fun m hm => hl m hm)⟩
        simp [Instr.sliceAt, run_underlying hu, Instr.slice, hb, sizeOf, typeInfo, hi, hcs]
        omega
      · rename_i mv
        split at h
        · rename_i hv0 m hom
          obtain ⟨⟨h0, h1, h1'⟩, h2, h⟩ := h
          rcases optInt_of hom hmx with ⟨hn, _⟩ | ⟨km, rfl⟩
          · subst hn; exact hmx.elim
          · rcases optInt_of hoh hhi with ⟨hn, hlen⟩ | ⟨kh, rfl⟩
            · subst hn; exact hhi.elim
            · have hhc : m ≤ ((cap.getD ((r n).cap - b) : Nat) : Int) := by
                cases cap with
                | some c => simpa using h2
                | none => simp only [Option.getD_none]; simp only at h2; omega
              obtain ⟨a, hv, his⟩ := cut_addr (e := e) (l := l.toNat) (hl := (hh - l).toNat) (m := m.toNat) (cap' := some (m - l).toNat) hx (fun c hc => by omega) (by simp; omega)
              subst hv
              have hb := run_sliceBounds3 (P := P) (w := w) (isS := true) (len := len) (cap := cap.getD ((r n).cap - b)) (km := km) (optInt_of hol hlo) ⟨kh, rfl⟩ h0 h1 h1' hhc
              refine ⟨_, ?_, After.pure st h his (fun m hm => hl m hm)⟩
              simp [Instr.sliceAt, run_underlying hu, Instr.slice, hb, sizeOf, typeInfo, hi, hcs]
              omega
        · exact h.elim
    · exact h.elim
  · rename_i e e' sz x l hu hol
    simp only [VV.is, V1.is, C.is, C.plain] at hx
    subst hx
    split at h
    · rename_i hh hoh
      obtain ⟨hg, h'⟩ := guardP_iff.1 h
      clear h
      simp only [Bool.and_eq_true, beq_iff_eq] at hg
      obtain ⟨rfl, hsz, hsome⟩ := hg
      have h := h'
      clear h'
      obtain ⟨i, hi⟩ := Option.isSome_iff_exists.1 hsome
      have hcs : i.size = sz := by rw [← hsz]; simp [Program.cellsOf, hi]
      have fin : ∀ m : Nat, l.toNat ≤ m → hh.toNat ≤ m → m ≤ x.cap → (Instr.sliceBounds true x.len x.cap vlo vhi vmx).run P w = .ok (l.toNat, hh.toNat, m) w →
          (Instr.sliceAt t (x.val sz) vlo vhi vmx).run P w = .ok ((RS.cut l.toNat hh.toNat m x).val sz) w := fun m h1 h2 h3 hb => by
        cases x with
        | nil =>
          simp only [RS.cap, RS.len] at h3 hb
          obtain rfl : m = 0 := by omega
          have e1 : l.toNat = 0 := by omega
          have e2 : hh.toNat = 0 := by omega
          rw [e1, e2] at hb
          simp [RS.val, RS.cut, Instr.sliceAt, run_underlying hu, Instr.slice, hb, sizeOf, typeInfo, hi, hcs]
        | mk b lo len cap =>
          simp only [RS.cap, RS.len] at h3 hb
          by_cases e1 : m = l.toNat
          · subst e1
            simp [RS.val, RS.cut, Instr.sliceAt, run_underlying hu, Instr.slice, hb, sizeOf, typeInfo, hi, hcs]
          · simp [RS.val, RS.cut, Instr.sliceAt, run_underlying hu, Instr.slice, hb, sizeOf, typeInfo, hi, hcs, e1, Addr.add_lit, Nat.add_mul]
      split at h
      · obtain ⟨⟨h0, h1, h2⟩, h⟩ := h
        have hmn : vmx = none := by cases vmx with | none => rfl | some _ => exact hmx.elim
        subst hmn
        have hb := run_sliceBounds (P := P) (w := w) (isS := true) (len := x.len) (cap := x.cap) (optInt_of hol hlo) (optInt_of hoh hhi) h0 h1 h2
        exact ⟨_, fin x.cap (by omega) (by omega) (Nat.le_refl _) hb, After.pure st h rfl (lt_of_nm rfl)⟩
      · rename_i mv
        split at h
        · rename_i hv0 m hom
          obtain ⟨⟨h0, h1, h1', h2⟩, h⟩ := h
          rcases optInt_of hom hmx with ⟨hn, _⟩ | ⟨km, rfl⟩
          · subst hn; exact hmx.elim
          · rcases optInt_of hoh hhi with ⟨hn, hlen⟩ | ⟨kh, rfl⟩
            · subst hn; exact hhi.elim
            · have hb := run_sliceBounds3 (P := P) (w := w) (isS := true) (len := x.len) (cap := x.cap) (km := km) (optInt_of hol hlo) ⟨kh, rfl⟩ h0 h1 h1' h2
              exact ⟨_, fin m.toNat (by omega) (by omega) (by omega) hb, After.pure st h rfl (lt_of_nm rfl)⟩
        · exact h.elim
    · exact h.elim
  · exact h.elim
end Go.Proofs.YtndlpbheifalhaaGreatDoor.E
end
section
namespace Go.Proofs.YtndlpbheifalhaaGreatDoor.E
set_option linter.unusedVariables false
set_option linter.unusedSimpArgs false
variable {K : Kinds} {P : Program} {S : Nat → Prop} {w0 w : World} {r : Nat → Ref} {H : VH K}
/-- 'c', in a state whose lists from name N on are nil, is c' told by other names. -/
def EqC (N : Nat) (f : Nat → Nat) : C → C → Prop
  | .bool a, .bool b => a = b
  | .int k a, .int k' b => guardP (decide (k = k')) (a = b)
  | .str a, .str b => a = b
  | .ptr n i j, .ptr n' i' j' => guardP (n == f n' && j == j') (i = i')
  | .nilp, .nilp => True
  | .nils, .nils => True
  | .nils, .slc n' lo len cap => guardP (Nat.ble N (f n') && cap.isNone) (lo = 0 ∧ len = 0)
  | .slc n lo len cap, .slc n' lo' len' cap' => guardP (n == f n') (lo = lo' ∧ len = len' ∧ cap = cap')
  | .lit v, .lit v' => v = v'
  | .rs e sz x, .rs e' sz' x' => guardP (e == e' && sz == sz') (x = x')
  | .nils, .rs _ _ x' => x' = .nil
  | .rp e sz b i j, .rp e' sz' b' i' j' => guardP (e == e' && (sz == sz' && j == j')) (b = b' ∧ i = i')
  | .fn g l, .fn g' l' => guardP (g == g') (l = l')
  | .ls e b o n c, .ls e' b' o' n' c' => guardP (e == e') (b = b' ∧ o = o' ∧ n = n' ∧ c = c')
  | _, _ => False
def EqCs (N : Nat) (f : Nat → Nat) : List C → List C → Prop
  | [], [] => True
  | c :: cs, d :: ds => EqC N f c d ∧ EqCs N f cs ds
  | _, _ => False
def EqV1 (N : Nat) (f : Nat → Nat) : V1 → V1 → Prop
  | .c x, .c y => EqC N f x y
  | .agg l, .agg l' => EqCs N f l l'
  | _, _ => False
def EqV1s (N : Nat) (f : Nat → Nat) : List V1 → List V1 → Prop
  | [], [] => True
  | c :: cs, d :: ds => EqV1 N f c d ∧ EqV1s N f cs ds
  | _, _ => False
def EqV (N : Nat) (f : Nat → Nat) : VV → VV → Prop
  | .one x, .one y => EqV1 N f x y
  | .tup l, .tup l' => EqV1s N f l l'
  | _, _ => False
def EqVs (N : Nat) (f : Nat → Nat) : List VV → List VV → Prop
  | [], [] => True
  | _ :: vs, .any :: us => EqVs N f vs us
  | v :: vs, u :: us => EqV N f v u ∧ EqVs N f vs us
  | _, _ => False
def EqA (N : Nat) (f : Nat → Nat) : Atom K → Atom K → Prop
  | _, .gone => True
  | .cells T cs, .cells T' cs' => guardP (T == T') (EqCs N f cs cs')
  | .arr k xs, .arr k' xs' => match K.deq k k' with
    | .isTrue e => castK K e xs = xs'
    | .isFalse _ => False
  | .arr k xs, .ro k' xs' => match K.deq k k' with
    | .isTrue e => castK K e xs = xs'
    | .isFalse _ => False
  | .ro k xs, .ro k' xs' => match K.deq k k' with
    | .isTrue e => castK K e xs = xs'
    | .isFalse _ => False
  | .bag φ, .bag φ' => φ = φ'
  | _, _ => False
def EqH (N : Nat) (f : Nat → Nat) (H1 : VH K) : List Nat → VH K → Prop
  | [], [] => True
  | n :: τ, a :: H' => EqA N f (at_ H1 n) a ∧ EqH N f H1 τ H'
  | _, _ => False
def nmB (N : Nat) (c : C) : Bool := match c with
  | .ptr n _ _ => Nat.blt n N
  | .slc n _ _ _ => Nat.blt n N
  | _ => true
theorem nmB_lt {N : Nat} {c : C} (h : nmB N c = true) : c.lt N := by
  intro n hn
  cases c <;> simp_all [C.nm, nmB, Nat.blt_eq]
def V1.ltB (N : Nat) : V1 → Bool
  | .c x => nmB N x
  | .agg l => l.all (nmB N)
def VV.ltB (N : Nat) : VV → Bool
  | .one x => x.ltB N
  | .tup l => l.all (V1.ltB N)
  | .any => true
theorem V1.ltB_lt {N : Nat} {x : V1} (h : x.ltB N = true) : x.lt N := by
  cases x with
  | c x => exact nmB_lt h
  | agg l => exact fun c hc => nmB_lt (List.all_eq_true.1 h c hc)
theorem VV.ltB_lt {N : Nat} {x : VV} (h : x.ltB N = true) : x.lt N := by
  cases x with
  | one x => exact V1.ltB_lt h
  | tup l => exact fun c hc => V1.ltB_lt (List.all_eq_true.1 h c hc)
  | any => trivial
def Atom.ltB (N : Nat) : Atom K → Bool
  | .cells _ cs => cs.all fun c => nmB N c && c.one
  | _ => true
theorem Atom.ltB_lt {N : Nat} {a : Atom K} (h : a.ltB N = true) : a.lt N := by
  cases a with
  | cells T cs => exact fun c hc => by have := List.all_eq_true.1 h c hc; simp only [Bool.and_eq_true] at this; exact ⟨nmB_lt this.1, this.2⟩
  | _ => trivial
def nilRef (size : Nat) : Ref := ⟨0, size, 0, true, 0⟩
/-- The names from N on stand for nil lists. -/
def Nils (N M : Nat) (r : Nat → Ref) : Prop := ∀ n, N ≤ n → n < M → (r n).nl = true ∧ (r n).cap = 0
theorem EqC_sound {N M : Nat} {f : Nat → Nat} (hn : Nils N M r) (hf : ∀ n, f n < M) {c d : C} {v : Value} (h : EqC N f c d) (hc : c.is r v) : d.is (fun n => r (f n)) v := by
  unfold EqC at h
  split at h
  · subst h; exact hc
  · obtain ⟨hg, h'⟩ := guardP_iff.1 h
    clear h
    have := of_decide_eq_true hg
    subst this h'; exact hc
  · subst h; exact hc
  · obtain ⟨hg, h'⟩ := guardP_iff.1 h
    clear h
    simp only [Bool.and_eq_true, beq_iff_eq] at hg
    obtain ⟨rfl, rfl⟩ := hg
    subst h'; exact hc
  · exact hc
  · exact hc
  · obtain ⟨hg, hlo, hlen⟩ := guardP_iff.1 h
    simp only [Bool.and_eq_true, Nat.ble_eq, Option.isNone_iff_eq_none] at hg
    obtain ⟨hN, rfl⟩ := hg
    subst hlo hlen
    obtain ⟨h1, h2⟩ := hn _ hN (hf _)
    simp only [C.is, C.plain] at hc
    subst hc
    exact ⟨none, by simp [h2], .inr (by simp [h1])⟩
  · obtain ⟨hg, hlo, hlen, hcap⟩ := guardP_iff.1 h
    simp only [beq_iff_eq] at hg
    subst hg hlo hlen hcap
    exact hc
  · subst h; exact hc
  · obtain ⟨hg, h'⟩ := guardP_iff.1 h
    simp only [Bool.and_eq_true, beq_iff_eq] at hg
    obtain ⟨rfl, rfl⟩ := hg
    subst h'; exact hc
  · subst h; exact hc
  · obtain ⟨hg, h1, h2⟩ := guardP_iff.1 h
    simp only [Bool.and_eq_true, beq_iff_eq] at hg
    obtain ⟨rfl, rfl, rfl⟩ := hg
    subst h1 h2; exact hc
  · obtain ⟨hg, h1⟩ := guardP_iff.1 h
    simp only [beq_iff_eq] at hg
    subst hg h1; exact hc
  · obtain ⟨hg, h1, h2, h3, h4⟩ := guardP_iff.1 h
    simp only [beq_iff_eq] at hg
    subst hg h1 h2 h3 h4; exact hc
  · exact h.elim
theorem EqCs_sound {N M : Nat} {f : Nat → Nat} (hn : Nils N M r) (hf : ∀ n, f n < M) : ∀ {cs ds : List C} {vs : List Value}, EqCs N f cs ds → Rel r cs vs → Rel (fun n => r (f n)) ds vs
  | [], [], [], _, _ => trivial
  | c :: cs, d :: ds, v :: vs, h, hr => ⟨EqC_sound hn hf h.1 hr.1, EqCs_sound hn hf h.2 hr.2⟩
  | [], [], _ :: _, _, h => h.elim
  | _ :: _, [], _, h, _ => h.elim
  | [], _ :: _, _, h, _ => h.elim
  | _ :: _, _ :: _, [], _, h => h.elim
theorem EqV1_sound {N M : Nat} {f : Nat → Nat} (hn : Nils N M r) (hf : ∀ n, f n < M) {x y : V1} {v : Value} (h : EqV1 N f x y) (hx : x.is r v) : y.is (fun n => r (f n)) v := by
  unfold EqV1 at h
  split at h
  · exact EqC_sound hn hf h hx
  · obtain ⟨vs, e, hr⟩ := hx; exact ⟨vs, e, EqCs_sound hn hf h hr⟩
  · exact h.elim
theorem EqV1s_sound {N M : Nat} {f : Nat → Nat} (hn : Nils N M r) (hf : ∀ n, f n < M) : ∀ {cs ds : List V1} {vs : List Value}, EqV1s N f cs ds → RelV r cs vs → RelV (fun n => r (f n)) ds vs
  | [], [], [], _, _ => trivial
  | c :: cs, d :: ds, v :: vs, h, hr => ⟨EqV1_sound hn hf h.1 hr.1, EqV1s_sound hn hf h.2 hr.2⟩
  | [], [], _ :: _, _, h => h.elim
  | _ :: _, [], _, h, _ => h.elim
  | [], _ :: _, _, h, _ => h.elim
  | _ :: _, _ :: _, [], _, h => h.elim
theorem EqV_sound {N M : Nat} {f : Nat → Nat} (hn : Nils N M r) (hf : ∀ n, f n < M) {x y : VV} {v : Value} (h : EqV N f x y) (hx : x.is r v) : y.is (fun n => r (f n)) v := by
  unfold EqV at h
  split at h
  · exact EqV1_sound hn hf h hx
  · obtain ⟨vs, e, hr⟩ := hx; exact ⟨vs, e, EqV1s_sound hn hf h hr⟩
  · exact h.elim
/-- Values stand for values, in order. -/
def Are (r : Nat → Ref) : List VV → List Value → Prop
  | [], [] => True
  | x :: xs, v :: vs => x.is r v ∧ Are r xs vs
  | _, _ => False
theorem Are.length {r : Nat → Ref} : ∀ {xs : List VV} {vs : List Value}, Are r xs vs → vs.length = xs.length
  | [], [], _ => rfl
  | c :: cs, v :: vs, h => by simp [Are.length h.2]
  | [], _ :: _, h => h.elim
  | _ :: _, [], h => h.elim
theorem Are.get {r : Nat → Ref} : ∀ {xs : List VV} {vs : List Value}, Are r xs vs → ∀ i, (xs.getD i .any).is r (vs.getD i undef)
  | [], [], _, i => by simp [VV.is]
  | x :: xs, v :: vs, h, 0 => by simpa using h.1
  | x :: xs, v :: vs, h, i + 1 => by simpa using Are.get h.2 i
  | [], _ :: _, h, _ => h.elim
  | _ :: _, [], h, _ => h.elim
theorem Are.of_get {r : Nat → Ref} : ∀ {xs : List VV} {vs : List Value}, vs.length = xs.length → (∀ i, i < xs.length → (xs.getD i .any).is r (vs.getD i undef)) → Are r xs vs
  | [], [], _, _ => trivial
  | x :: xs, v :: vs, hl, h => ⟨by simpa using h 0 (by simp), Are.of_get (by simpa using hl) fun i hi => by simpa using h (i + 1) (by simpa using hi)⟩
  | [], _ :: _, hl, _ => by simp at hl
  | _ :: _, [], hl, _ => by simp at hl
theorem Are.congr {r r' : Nat → Ref} {N : Nat} (h : ∀ n, n < N → r' n = r n) : ∀ {xs : List VV} {vs : List Value}, (∀ x ∈ xs, x.lt N) → Are r xs vs → Are r' xs vs
  | [], [], _, _ => trivial
  | c :: cs, v :: vs, hl, hr => ⟨VV.is_congr (hl c (by simp)) h hr.1, Are.congr h (fun c hc => hl c (by simp [hc])) hr.2⟩
  | [], _ :: _, _, h => h.elim
  | _ :: _, [], _, h => h.elim
theorem EqVs_sound {N M : Nat} {f : Nat → Nat} (hn : Nils N M r) (hf : ∀ n, f n < M) : ∀ {xs ys : List VV} {vs : List Value}, EqVs N f xs ys → Are r xs vs → Are (fun n => r (f n)) ys vs
  | [], [], [], _, _ => trivial
  | x :: xs, y :: ys, v :: vs, h, hr => by
    cases y with
    | any => exact ⟨trivial, EqVs_sound hn hf (by simpa [EqVs] using h) hr.2⟩
    | one y => simp only [EqVs] at h; exact ⟨EqV_sound hn hf h.1 hr.1, EqVs_sound hn hf h.2 hr.2⟩
    | tup y => simp only [EqVs] at h; exact ⟨EqV_sound hn hf h.1 hr.1, EqVs_sound hn hf h.2 hr.2⟩
  | [], [], _ :: _, _, h => h.elim
  | x :: xs, [], _, h, _ => by simp [EqVs] at h
  | [], y :: ys, _, h, _ => by cases y <;> simp [EqVs] at h
  | _ :: _, _ :: _, [], _, h => h.elim
theorem EqA_sound (hK : K.Ok) {N M : Nat} {f : Nat → Nat} (hn : Nils N M r) (hf : ∀ n, f n < M) {a b : Atom K} {x : Ref} (h : EqA N f a b) (ha : a.ok r x w) : b.ok (fun n => r (f n)) x w ∧ (∀ c, b.has x c → a.has x c) ∧ (∀ c, b.rb x = some c → (∀ d, ¬ b.has x d) ∧ (a.has x c ∨ a.rb x = some c)) := by
  unfold EqA at h
  split at h
  · exact ⟨trivial, fun c hc => hc.elim, fun c hc => by simp [Atom.rb] at hc⟩
  · obtain ⟨hg, h'⟩ := guardP_iff.1 h
    clear h
    simp only [beq_iff_eq] at hg
    subst hg
    obtain ⟨hn', vs, hv, hr⟩ := ha
    exact ⟨⟨hn', vs, hv, EqCs_sound hn hf h' hr⟩, fun c hc => hc, fun c hc => by simp [Atom.rb] at hc⟩
  · split at h
    · rename_i e _
      subst e
      simp only [castK_rfl] at h
      subst h
      exact ⟨ha, fun c hc => hc, fun c hc => by simp [Atom.rb] at hc⟩
    · exact h.elim
  · split at h
    · rename_i k xs _ _ _ e _
      subst e
      simp only [castK_rfl] at h
      subst h
      obtain ⟨h1, h2, h3, h4⟩ := lst_ok hK (a := .arr k xs) rfl ha
      refine ⟨⟨h1, h2, ha.2.1, fun hne => ⟨?_, h4 (List.length_pos_iff.2 hne)⟩⟩, fun c hc => hc.elim, fun c hc => ⟨fun d hd => hd.elim, .inl ?_⟩⟩
      · have hnl := h3 (List.length_pos_iff.2 hne)
        exact (World.ownsRow.lt ha.2.2 x.blk (by simp [Ref.val, hnl, Value.ownBlock])).2
      · cases xs with
        | nil => simp [Atom.rb] at hc
        | cons y ys => have hnl := h3 (by simp); simp only [Atom.rb, Option.some.injEq] at hc; exact ⟨hnl, hc⟩
    · exact h.elim
  · split at h
    · rename_i e _
      subst e
      simp only [castK_rfl] at h
      subst h
      exact ⟨ha, fun c hc => hc.elim, fun c hc => ⟨fun d hd => hd.elim, .inr hc⟩⟩
    · exact h.elim
  · subst h; exact ⟨ha, fun c hc => hc, fun c hc => by simp [Atom.rb] at hc⟩
  · exact h.elim
theorem EqH_get {N : Nat} {f : Nat → Nat} {H1 : VH K} : ∀ {τ : List Nat} {H' : VH K}, EqH N f H1 τ H' → ∀ m, m < H'.length → EqA N f (at_ H1 (τ.getD m 0)) (at_ H' m)
  | n :: τ, a :: H', h, 0, _ => by simpa [at_] using h.1
  | n :: τ, a :: H', h, m + 1, hm => by simpa [at_] using EqH_get h.2 m (by simpa using hm)
  | [], [], _, m, hm => by simp at hm
  | [], _ :: _, h, _, _ => h.elim
  | _ :: _, [], _, _, hm => by simp at hm
theorem EqH_len {N : Nat} {f : Nat → Nat} {H1 : VH K} : ∀ {τ : List Nat} {H' : VH K}, EqH N f H1 τ H' → τ.length = H'.length
  | n :: τ, a :: H', h => by simp [EqH_len h.2]
  | [], [], _ => rfl
  | [], _ :: _, h => h.elim
  | _ :: _, [], h => h.elim
/-- Nil lists under new names. -/
def nilsOf (ks : List K.Kd) : VH K := ks.map fun k => .arr k []
theorem HeapOK.nils : ∀ (ks : List K.Kd) {r : Nat → Ref} {H : VH K} (st : HeapOK S w0 r H w), ∃ r1, HeapOK S w0 r1 (H ++ nilsOf ks) w ∧ (∀ n, n < H.length → r1 n = r n) ∧ Nils H.length (H.length + ks.length) r1
  | [], r, H, st => ⟨r, by simpa [nilsOf] using st, fun _ _ => rfl, fun n h1 h2 => by simp at h2; omega⟩
  | k :: ks, r, H, st => by
    have ho : w.ownsRow 0 (K.elem k) (K.size k) (.slice none 0 0) ([] : List (K.α k)).length ((flat k []).map C.plain) := World.ownsRow_nil w 0 _ _
    obtain ⟨x, hx, hsz, st2⟩ := st.owned none (row := none) ⟨rfl, rfl, rfl, Nat.le_refl _, fun _ _ _ => rfl⟩ (fun b hb => by cases hb) ho (fun b hb => by simp [Value.ownBlock] at hb)
    have hnl : x.nl = true ∧ x.cap = 0 := by
      simp only [Ref.val, Value.slice.injEq] at hx
      cases hn : x.nl with
      | true => exact ⟨rfl, hx.2.2.symm⟩
      | false => simp [hn] at hx
    obtain ⟨r1, st1, hr1, hn1⟩ := HeapOK.nils ks st2
    have hl : (kill H none ++ [Atom.arr k ([] : List (K.α k))]).length = H.length + 1 := by simp [kill]
    refine ⟨r1, by simpa [nilsOf, kill, List.append_assoc] using st1, fun n hn => ?_, fun n h1 h2 => ?_⟩
    · rw [hr1 n (by omega), upd_old hn]
    · by_cases e : n = H.length
      · subst e
        rw [hr1 _ (by omega), upd_new]; exact hnl
      · exact hn1 n (by omega) (by simp at h2; omega)
def nodupB : List Nat → Bool
  | [] => true
  | x :: xs => !(xs.contains x) && nodupB xs
def prefB (N0 : Nat) (τ : List Nat) : Bool := τ.take N0 == List.range N0
/-- The names of what isn't gone. -/
def live : List Nat → VH K → List Nat
  | _ :: τ, .gone :: H => live τ H
  | n :: τ, _ :: H => n :: live τ H
  | _, _ => []
theorem live_mem : ∀ {τ : List Nat} {H : VH K} (i : Nat), i < τ.length → at_ H i ≠ .gone → τ.getD i 0 ∈ live τ H
  | n :: τ, a :: H, 0, _, h => by
    cases a <;> first | exact absurd rfl h | simp [live]
  | n :: τ, a :: H, i + 1, hi, h => by
    have ih := live_mem (τ := τ) (H := H) i (by simpa using hi) (by simpa [at_] using h)
    cases a <;> simp only [live, List.getD_cons_succ] <;> first | exact ih | exact List.mem_cons_of_mem _ ih
  | n :: τ, [], i, _, h => absurd (by simp [at_]) h
  | [], _, i, hi, _ => by simp at hi
theorem live_inj : ∀ {τ : List Nat} {H : VH K}, nodupB (live τ H) = true → ∀ i j, i < τ.length → j < τ.length → at_ H i ≠ .gone → at_ H j ≠ .gone → τ.getD i 0 = τ.getD j 0 → i = j
  | n :: τ, a :: H, h, i, j, hi, hj, gi, gj, e => by
    have hd : a ≠ .gone → (n ∉ live τ H) ∧ nodupB (live τ H) = true := fun ha => by
      have h' : nodupB (n :: live τ H) = true := by cases a <;> first | exact absurd rfl ha | exact h
      simp only [nodupB, Bool.and_eq_true, Bool.not_eq_true', List.contains_eq_mem, decide_eq_false_iff_not] at h'
      exact h'
    have tl : nodupB (live τ H) = true := by
      by_cases ha : a = .gone
      · subst ha; exact h
      · exact (hd ha).2
    match i, j with
    | 0, 0 => rfl
    | 0, j + 1 =>
      have ha : a ≠ .gone := by simpa [at_] using gi
      simp only [List.getD_cons_zero, List.getD_cons_succ] at e
      exact absurd (e ▸ live_mem j (by simpa using hj) (by simpa [at_] using gj)) (hd ha).1
    | i + 1, 0 =>
      have ha : a ≠ .gone := by simpa [at_] using gj
      simp only [List.getD_cons_zero, List.getD_cons_succ] at e
      exact absurd (e ▸ live_mem i (by simpa using hi) (by simpa [at_] using gi)) (hd ha).1
    | i + 1, j + 1 =>
      simp only [List.getD_cons_succ] at e
      rw [live_inj tl i j (by simpa using hi) (by simpa using hj) (by simpa [at_] using gi) (by simpa [at_] using gj) e]
  | n :: τ, [], _, i, j, _, _, gi, _, _ => absurd (by simp [at_]) gi
  | [], _, _, i, _, hi, _, _, _, _ => by simp at hi
/-- The state (vs, H) seen as (us, H'). -/
def Into (N0 : Nat) (ks : List K.Kd) (τ : List Nat) (vs : List VV) (H : VH K) (us : List VV) (H' : VH K) : Prop :=
  guardP (nodupB (live τ H') && (τ.all (fun n => Nat.blt n (H.length + ks.length)) && (prefB N0 τ && (Nat.ble N0 H'.length && (us.all (VV.ltB H'.length) && (H'.all (Atom.ltB H'.length)))))))
    (EqVs H.length (fun n => τ.getD n 0) vs us ∧ EqH H.length (fun n => τ.getD n 0) (H ++ nilsOf ks) τ H')
theorem HeapOK.sub (hK : K.Ok) {τ : List Nat} {H1 H' : VH K} {N M : Nat} (st : HeapOK S w0 r H1 w) (hn : Nils N M r) (hf : ∀ n, τ.getD n 0 < M) (hnd : nodupB (live τ H') = true) (h : EqH N (fun n => τ.getD n 0) H1 τ H') (hl : H'.all (Atom.ltB H'.length) = true) :
    HeapOK S w0 (fun n => r (τ.getD n 0)) H' w ∧ ∀ m b, blkOf (fun n => r (τ.getD n 0)) H' m b → m < H'.length ∧ blkOf r H1 (τ.getD m 0) b := by
  have hlen := EqH_len h
  have key : ∀ m, m < H'.length → (at_ H' m).ok (fun n => r (τ.getD n 0)) (r (τ.getD m 0)) w ∧ (∀ c, (at_ H' m).has (r (τ.getD m 0)) c → (at_ H1 (τ.getD m 0)).has (r (τ.getD m 0)) c) ∧
      (∀ c, (at_ H' m).rb (r (τ.getD m 0)) = some c → (∀ d, ¬ (at_ H' m).has (r (τ.getD m 0)) d) ∧ ((at_ H1 (τ.getD m 0)).has (r (τ.getD m 0)) c ∨ (at_ H1 (τ.getD m 0)).rb (r (τ.getD m 0)) = some c)) :=
    fun m hm => EqA_sound hK hn hf (EqH_get h m hm) (st.ok _)
  have blk : ∀ m b, blkOf (fun n => r (τ.getD n 0)) H' m b → m < H'.length ∧ blkOf r H1 (τ.getD m 0) b := fun m b hb => by
    have hm : m < H'.length := at_lt fun e => by rw [blkOf, e] at hb; simp [Atom.has] at hb
    exact ⟨hm, (key m hm).2.1 b hb⟩
  refine ⟨⟨fun n => ?_, fun n => ?_, fun n m b hne hb hb' => ?_, fun n b hb => st.own _ b (blk n b hb).2, fun n m b hn hm => ?_, st.out⟩, blk⟩
  · rcases Nat.lt_or_ge n H'.length with h' | h'
    · exact (key n h').1
    · rw [at_ge h']; trivial
  · rcases Nat.lt_or_ge n H'.length with h' | h'
    · have : at_ H' n ∈ H' := by
        simp only [at_, List.getD_eq_getElem?_getD, List.getElem?_eq_getElem h', Option.getD_some]; exact List.getElem_mem h'
      exact Atom.ltB_lt (List.all_eq_true.1 hl _ this)
    · rw [at_ge h']; trivial
  · obtain ⟨h1, h1'⟩ := blk n b hb
    obtain ⟨h2, h2'⟩ := blk m b hb'
    refine st.inj _ _ b (fun e => hne ?_) h1' h2'
    have gn : at_ H' n ≠ .gone := fun e => by rw [blkOf, e] at hb; exact hb.elim
    have gm : at_ H' m ≠ .gone := fun e => by rw [blkOf, e] at hb'; exact hb'.elim
    exact live_inj hnd n m (by omega) (by omega) gn gm e
  · have hnlt : n < H'.length := at_lt fun e => by rw [rbOf, e] at hn; simp [Atom.rb] at hn
    obtain ⟨hnb, hor⟩ := (key n hnlt).2.2 b hn
    obtain ⟨hm1, hm2⟩ := blk m b hm
    rcases hor with h1 | h1
    · have hne : n ≠ m := fun e => by
        subst e
        exact hnb b hm
      have gn : at_ H' n ≠ .gone := fun e => by rw [rbOf, e] at hn; simp [Atom.rb] at hn
      have gm : at_ H' m ≠ .gone := fun e => by rw [blkOf, e] at hm; exact hm.elim
      exact st.inj (τ.getD n 0) (τ.getD m 0) b (fun e => hne (live_inj hnd n m (by omega) (by omega) gn gm e)) h1 hm2
    · exact st.ro (τ.getD n 0) (τ.getD m 0) b h1 hm2
theorem Into_sound (hK : K.Ok) {N0 : Nat} {ks : List K.Kd} {τ : List Nat} {vs us : List VV} {H' : VH K} {vals : List Value} (st : HeapOK S w0 r H w) (hv : Are r vs vals) (hvl : ∀ x ∈ vs, x.lt H.length) (h : Into N0 ks τ vs H us H') :
    ∃ r', HeapOK S w0 r' H' w ∧ N0 ≤ H'.length ∧ (∀ n, n < N0 → n < H.length → r' n = r n) ∧ Are r' us vals ∧ ∀ x ∈ us, x.lt H'.length := by
  obtain ⟨hg, hV, hH⟩ := guardP_iff.1 h
  simp only [Bool.and_eq_true, List.all_eq_true, Nat.blt_eq, Nat.ble_eq] at hg
  obtain ⟨hnd, hlt, hpre, hN0, hus, hal⟩ := hg
  obtain ⟨r1, st1, hr1, hn1⟩ := HeapOK.nils ks st
  have hlen := EqH_len hH
  by_cases hpos : 0 < H.length + ks.length
  · have hf : ∀ n, τ.getD n 0 < H.length + ks.length := fun n => by
      rcases Nat.lt_or_ge n τ.length with h' | h'
      · rw [List.getD_eq_getElem?_getD, List.getElem?_eq_getElem h', Option.getD_some]; exact hlt _ (List.getElem_mem h')
      · rw [List.getD_eq_getElem?_getD, List.getElem?_eq_none h']; exact hpos
    obtain ⟨st2, _⟩ := st1.sub hK hn1 hf hnd hH (by simpa using hal)
    refine ⟨_, st2, hN0, fun n hn hnH => ?_, EqVs_sound hn1 hf hV (hv.congr hr1 hvl), fun x hx => VV.ltB_lt (hus x hx)⟩
    have hp : τ.take N0 = List.range N0 := by simpa [prefB] using hpre
    have : τ.getD n 0 = n := by
      have h1 : (τ.take N0)[n]? = some n := by rw [hp]; simp [hn]
      rw [List.getElem?_take, if_pos hn] at h1
      rw [List.getD_eq_getElem?_getD, h1]; rfl
    simp only [this]
    exact hr1 n hnH
  · have hτ : τ = [] := by
      cases τ with
      | nil => rfl
      | cons x τ => have := hlt x (by simp); omega
    subst hτ
    have hH' : H' = [] := List.eq_nil_of_length_eq_zero (by simpa using hlen.symm)
    subst hH'
    have hks : ks = [] := List.eq_nil_of_length_eq_zero (by omega)
    have hHn : H = [] := List.eq_nil_of_length_eq_zero (by omega)
    subst hks hHn
    refine ⟨r, st, hN0, fun _ _ _ => rfl, ?_, fun x hx => VV.ltB_lt (hus x hx)⟩
    have hne : Nils 0 1 (fun _ => nilRef 0) := fun n _ _ => ⟨rfl, rfl⟩
    have h1 := EqVs_sound (r := fun _ => nilRef 0) (M := 1) hne (fun n => by simp) hV (hv.congr (N := 0) (fun n hn => by omega) (by simpa using hvl))
    exact h1.congr (N := 0) (fun n hn => by omega) (fun x hx => VV.ltB_lt (hus x hx))
end Go.Proofs.YtndlpbheifalhaaGreatDoor.E
end
section
namespace Go.Proofs.YtndlpbheifalhaaGreatDoor.E
set_option linter.unusedVariables false
set_option linter.unusedSimpArgs false
variable {K : Kinds} {P : Program} {S : Nat → Prop} {w0 w : World} {r : Nat → Ref} {H : VH K}
/-- How a function may panic. -/
structure Pan (K : Kinds) where
  Y : Type
  ok : Y → Prop
  ch : Y → List PanicEntry
  post : Y → VH K
  /-- It never returns. -/
  only : Bool := false
structure Ct (K : Kinds) where
  need : Prop
  pre : VH K
  args : List VV
  Y : Type
  ok : Y → Prop
  ret : Y → VV
  post : Y → VH K
  pan : Option (Pan K) := none
def Ours (r : Nat → Ref) (H : VH K) (b : Nat) : Prop := ∃ m, blkOf r H m b
def Ct.Post (ct : Ct K) (v : VV) (H' : VH K) : Prop := ∃ y, ct.ok y ∧ v = ct.ret y ∧ H' = ct.post y
/-- The state behind a panic: what was told of it, and what is left. -/
def AfterP (S : Nat → Prop) (w0 : World) (r : Nat → Ref) (H : VH K) (k : List PanicEntry → VH K → Prop) (ch : List PanicEntry) (w' : World) : Prop := After S w0 r H (fun _ H' => k ch H') undef w'
def Ct.PostP (ct : Ct K) (ch : List PanicEntry) (H' : VH K) : Prop := ∃ p, ct.pan = some p ∧ ∃ z, p.ok z ∧ ch = p.ch z ∧ H' = p.post z
def Ct.rets (ct : Ct K) : Bool := match ct.pan with | some p => !p.only | none => true
def Ct.Ends (ct : Ct K) (r : Nat → Ref) (w : World) (e : Ending) (w' : World) : Prop :=
  (ct.rets = true ∧ ∃ v', e = .returned v' ∧ After (Ours r ct.pre) w r ct.pre ct.Post v' w') ∨ ∃ ch, e = .panicked ch ∧ AfterP (Ours r ct.pre) w r ct.pre ct.PostP ch w'
structure CtOk (P : Program) (f : FuncId) (ct : Ct K) : Prop where
  enter : ∀ args w, (callFunc f args).run P w = .ok (.enter f args) w
  callsP : ct.need → ∀ (r : Nat → Ref) (w : World) (vals : List Value), HeapOK (Ours r ct.pre) w r ct.pre w → Are r ct.args vals → (∀ x ∈ ct.args, x.lt ct.pre.length) →
    Calls P f vals.toArray w (ct.Ends r w)
/-- A contract without a panic. -/
theorem CtOk.mkR {P : Program} {f : FuncId} {ct : Ct K} (enter : ∀ args w, (callFunc f args).run P w = .ok (.enter f args) w)
    (calls : ct.need → ∀ (r : Nat → Ref) (w : World) (vals : List Value), HeapOK (Ours r ct.pre) w r ct.pre w → Are r ct.args vals → (∀ x ∈ ct.args, x.lt ct.pre.length) →
      Calls P f vals.toArray w fun e w' => ∃ v', e = .returned v' ∧ After (Ours r ct.pre) w r ct.pre ct.Post v' w') (hp : ct.pan = none := by rfl) : CtOk P f ct :=
  ⟨enter, fun hn r w vals st ha hal => (calls hn r w vals st ha hal).mono fun e w' h => .inl ⟨by unfold Ct.rets; rw [hp], h⟩⟩
theorem CtOk.calls {P : Program} {f : FuncId} {ct : Ct K} (h : CtOk P f ct) (hn : ct.need) (r : Nat → Ref) (w : World) (vals : List Value) (st : HeapOK (Ours r ct.pre) w r ct.pre w) (ha : Are r ct.args vals) (hal : ∀ x ∈ ct.args, x.lt ct.pre.length) (hp : ct.pan = none := by rfl) :
    Calls P f vals.toArray w fun e w' => ∃ v', e = .returned v' ∧ After (Ours r ct.pre) w r ct.pre ct.Post v' w' :=
  (h.callsP hn r w vals st ha hal).mono fun e w' h => by
    rcases h with ⟨_, h⟩ | ⟨ch, rfl, r', vv, H', ⟨p, h2, _⟩, _⟩
    · exact h
    · rw [hp] at h2; cases h2
def C.ren (g : Nat → Nat) : C → C
  | .ptr n i j => .ptr (g n) i j
  | .slc n lo len cap => .slc (g n) lo len cap
  | c => c
def V1.ren (g : Nat → Nat) : V1 → V1
  | .c x => .c (x.ren g)
  | .agg l => .agg (l.map (C.ren g))
def VV.ren (g : Nat → Nat) : VV → VV
  | .one x => .one (x.ren g)
  | .tup l => .tup (l.map (V1.ren g))
  | .any => .any
def Atom.ren (g : Nat → Nat) : Atom K → Atom K
  | .cells T cs => .cells T (cs.map (C.ren g))
  | a => a
section ren
variable {r' : Nat → Ref} {g : Nat → Nat} {N : Nat}
theorem C.ren_is (hg : ∀ n, n < N → r' (g n) = r n) {c : C} {v : Value} (hl : c.lt N) (h : c.is r v) : (c.ren g).is r' v := by
  cases c with
  | ptr n i j => have := hg n (hl n rfl); simp only [C.is, C.ren] at h ⊢; rw [this]; exact h
  | slc n lo len cap => have := hg n (hl n rfl); simp only [C.is, C.ren] at h ⊢; rw [this]; exact h
  | _ => exact h
theorem C.ren_lt {M : Nat} (hg : ∀ n, n < N → g n < M) {c : C} (hl : c.lt N) : (c.ren g).lt M := by
  intro m hm
  cases c with
  | ptr n i j => simp [C.ren, C.nm] at hm; subst hm; exact hg n (hl n rfl)
  | slc n lo len cap => simp [C.ren, C.nm] at hm; subst hm; exact hg n (hl n rfl)
  | _ => cases hm
theorem C.ren_one {c : C} (h : c.one = true) : (c.ren g).one = true := by cases c <;> first | rfl | exact h
theorem Rel.ren (hg : ∀ n, n < N → r' (g n) = r n) : ∀ {cs : List C} {vs : List Value}, (∀ c ∈ cs, c.lt N) → Rel r cs vs → Rel r' (cs.map (C.ren g)) vs
  | [], [], _, _ => trivial
  | c :: cs, v :: vs, hl, h => ⟨C.ren_is hg (hl c (by simp)) h.1, Rel.ren hg (fun c hc => hl c (by simp [hc])) h.2⟩
  | [], _ :: _, _, h => h.elim
  | _ :: _, [], _, h => h.elim
theorem V1.ren_is (hg : ∀ n, n < N → r' (g n) = r n) {c : V1} {v : Value} (hl : c.lt N) (h : c.is r v) : (c.ren g).is r' v := by
  cases c with
  | c x => exact C.ren_is hg hl h
  | agg l => obtain ⟨vs, e, hr⟩ := h; exact ⟨vs, e, Rel.ren hg hl hr⟩
theorem V1.ren_lt {M : Nat} (hg : ∀ n, n < N → g n < M) {c : V1} (hl : c.lt N) : (c.ren g).lt M := by
  cases c with
  | c x => exact C.ren_lt hg hl
  | agg l => intro c hc; obtain ⟨d, hd, rfl⟩ := List.mem_map.1 hc; exact C.ren_lt hg (hl d hd)
theorem RelV.ren (hg : ∀ n, n < N → r' (g n) = r n) : ∀ {cs : List V1} {vs : List Value}, (∀ c ∈ cs, c.lt N) → RelV r cs vs → RelV r' (cs.map (V1.ren g)) vs
  | [], [], _, _ => trivial
  | c :: cs, v :: vs, hl, h => ⟨V1.ren_is hg (hl c (by simp)) h.1, RelV.ren hg (fun c hc => hl c (by simp [hc])) h.2⟩
  | [], _ :: _, _, h => h.elim
  | _ :: _, [], _, h => h.elim
theorem VV.ren_is (hg : ∀ n, n < N → r' (g n) = r n) {c : VV} {v : Value} (hl : c.lt N) (h : c.is r v) : (c.ren g).is r' v := by
  cases c with
  | one x => exact V1.ren_is hg hl h
  | tup l => obtain ⟨vs, e, hr⟩ := h; exact ⟨vs, e, RelV.ren hg hl hr⟩
  | any => trivial
theorem VV.ren_lt {M : Nat} (hg : ∀ n, n < N → g n < M) {c : VV} (hl : c.lt N) : (c.ren g).lt M := by
  cases c with
  | one x => exact V1.ren_lt hg hl
  | tup l => intro c hc; obtain ⟨d, hd, rfl⟩ := List.mem_map.1 hc; exact V1.ren_lt hg (hl d hd)
  | any => trivial
theorem Atom.ren_ok (hg : ∀ n, n < N → r' (g n) = r n) {a : Atom K} {x : Ref} (hl : a.lt N) (h : a.ok r x w) : (a.ren g).ok r' x w := by
  cases a with
  | cells T cs => obtain ⟨hn, vs, hv, hr⟩ := h; exact ⟨hn, vs, hv, Rel.ren hg (fun c hc => (hl c hc).1) hr⟩
  | _ => exact h
theorem Atom.ren_lt {M : Nat} (hg : ∀ n, n < N → g n < M) {a : Atom K} (hl : a.lt N) : (a.ren g).lt M := by
  cases a with
  | cells T cs => intro c hc; obtain ⟨d, hd, rfl⟩ := List.mem_map.1 hc; exact ⟨C.ren_lt hg (hl d hd).1, C.ren_one (hl d hd).2⟩
  | _ => exact hl
theorem Atom.ren_has {a : Atom K} {x : Ref} : (a.ren g).has x = a.has x := by cases a <;> rfl
end ren
def setAll (H : VH K) : List Nat → VH K → VH K
  | n :: τ, a :: l => setAll (H.set n a) τ l
  | _, _ => H
theorem setAll_len : ∀ (τ : List Nat) (l : VH K) (H : VH K), (setAll H τ l).length = H.length
  | n :: τ, a :: l, H => by simp only [setAll]; rw [setAll_len τ l]; simp
  | [], _, H => by simp [setAll]
  | _ :: _, [], H => by simp [setAll]
theorem setAll_other : ∀ (τ : List Nat) (l : VH K) (H : VH K) (n : Nat), n ∉ τ → at_ (setAll H τ l) n = at_ H n
  | m :: τ, a :: l, H, n, h => by
    simp only [List.mem_cons, not_or] at h
    simp only [setAll]
    rw [setAll_other τ l _ n h.2]
    simp only [at_, List.getD_eq_getElem?_getD, List.getElem?_set]
    rw [if_neg (Ne.symm h.1)]
  | [], _, H, n, _ => by simp [setAll]
  | _ :: _, [], H, n, _ => by simp [setAll]
theorem setAll_at : ∀ (τ : List Nat) (l : VH K) (H : VH K) (m : Nat), nodupB τ = true → (∀ n ∈ τ, n < H.length) → m < τ.length → m < l.length → at_ (setAll H τ l) (τ.getD m 0) = at_ l m
  | n :: τ, a :: l, H, 0, hnd, hl, _, _ => by
    simp only [setAll, List.getD_cons_zero]
    simp only [nodupB, Bool.and_eq_true, Bool.not_eq_true', List.contains_eq_mem, decide_eq_false_iff_not] at hnd
    rw [setAll_other τ l _ n hnd.1]
    rw [at_set (hl n (by simp)), if_pos rfl]
    simp [at_]
  | n :: τ, a :: l, H, m + 1, hnd, hl, hm, hm' => by
    simp only [nodupB, Bool.and_eq_true] at hnd
    simp only [setAll, List.getD_cons_succ]
    rw [setAll_at τ l _ m hnd.2 (fun q hq => by simpa using hl q (by simp [hq])) (by simpa using hm) (by simpa using hm')]
    simp [at_]
  | [], _, _, m, _, _, hm, _ => by simp at hm
  | _ :: _, [], _, m, _, _, _, hm => by simp at hm
def newName (M : Nat) (τ : List Nat) (m : Nat) : Nat := match τ[m]? with | some n => n | none => M + (m - τ.length)
def frameH (H1 : VH K) (τ : List Nat) (post : VH K) : VH K := setAll H1 τ post ++ post.drop τ.length
/-- What the callee only reads stays what it is to the caller. -/
def keepRo (H1 : VH K) : List Nat → VH K → VH K → VH K
  | n :: τ, a :: pre, b :: post => (match a.isRo with | true => at_ H1 n | false => b) :: keepRo H1 τ pre post
  | _, _, post => post
theorem keepRo_len {H1 : VH K} : ∀ {τ : List Nat} {pre post : VH K}, (keepRo H1 τ pre post).length = post.length
  | n :: τ, a :: pre, b :: post => by simp [keepRo, keepRo_len (τ := τ)]
  | [], _, _ => by simp [keepRo]
  | _ :: _, [], _ => by simp [keepRo]
  | _ :: _, _ :: _, [] => by simp [keepRo]
theorem keepRo_no {H1 : VH K} : ∀ {τ : List Nat} {pre post : VH K} (m : Nat), (at_ pre m).isRo = false → at_ (keepRo H1 τ pre post) m = at_ post m
  | n :: τ, a :: pre, b :: post, 0, h => by
    have : a.isRo = false := by simpa [at_] using h
    simp [keepRo, this, at_]
  | n :: τ, a :: pre, b :: post, m + 1, h => by
    have := keepRo_no (H1 := H1) (τ := τ) (pre := pre) (post := post) m (by simpa [at_] using h)
    simpa [keepRo, at_] using this
  | [], _, _, _, _ => by simp [keepRo]
  | _ :: _, [], _, _, _ => by simp [keepRo]
  | _ :: _, _ :: _, [], _, _ => by simp [keepRo]
theorem keepRo_yes {H1 : VH K} : ∀ {τ : List Nat} {pre post : VH K} (m : Nat), m < τ.length → m < post.length → (at_ pre m).isRo = true → at_ (keepRo H1 τ pre post) m = at_ H1 (τ.getD m 0)
  | n :: τ, a :: pre, b :: post, 0, _, _, h => by
    have : a.isRo = true := by simpa [at_] using h
    simp [keepRo, this, at_]
  | n :: τ, a :: pre, b :: post, m + 1, h1, h2, h => by
    have := keepRo_yes (H1 := H1) (τ := τ) (pre := pre) (post := post) m (by simpa using h1) (by simpa using h2) (by simpa [at_] using h)
    simpa [keepRo, at_] using this
  | [], _, _, _, h, _, _ => by simp at h
  | _ :: _, [], _, _, _, _, h => by simp [at_, Atom.isRo] at h
  | _ :: _, _ :: _, [], _, _, h, _ => by simp at h
theorem RoKeep.nils {H : VH K} : ∀ (ks : List K.Kd), RoKeep H (H ++ nilsOf ks) := fun ks m hm => by
  rcases Nat.lt_or_ge m H.length with h | h
  · refine ⟨h, ?_⟩
    simp [at_, List.getD_eq_getElem?_getD, List.getElem?_append_left h]
  · exfalso
    simp only [at_, List.getD_eq_getElem?_getD, List.getElem?_append_right h, nilsOf, List.getElem?_map] at hm
    cases hk : ks[m - H.length]? <;> rw [hk] at hm <;> simp [Atom.isRo] at hm
theorem Atom.ren_ro {g : Nat → Nat} {a : Atom K} : (a.ren g).isRo = a.isRo := by cases a <;> rfl
def evCall (ct : Ct K) (ks : List K.Kd) (τ : List Nat) (args : List VV) (H : VH K) (kp : List PanicEntry → VH K → Prop) (k : VV → VH K → Prop) : Prop :=
  ct.need ∧ guardP (nodupB τ) (Into 0 ks τ args H ct.args ct.pre) ∧ match ct.pan with
    | none => ∀ y, ct.ok y → k ((ct.ret y).ren (newName (H.length + ks.length) τ)) (frameH (H ++ nilsOf ks) τ (keepRo (H ++ nilsOf ks) τ ct.pre ((ct.post y).map (Atom.ren (newName (H.length + ks.length) τ)))))
    | some p => match p.only with
      | true => ∀ z, p.ok z → kp (p.ch z) (frameH (H ++ nilsOf ks) τ (keepRo (H ++ nilsOf ks) τ ct.pre ((p.post z).map (Atom.ren (newName (H.length + ks.length) τ)))))
      | false => (∀ y, ct.ok y → k ((ct.ret y).ren (newName (H.length + ks.length) τ)) (frameH (H ++ nilsOf ks) τ (keepRo (H ++ nilsOf ks) τ ct.pre ((ct.post y).map (Atom.ren (newName (H.length + ks.length) τ)))))) ∧
        ∀ z, p.ok z → kp (p.ch z) (frameH (H ++ nilsOf ks) τ (keepRo (H ++ nilsOf ks) τ ct.pre ((p.post z).map (Atom.ren (newName (H.length + ks.length) τ)))))
theorem at_map {g : Nat → Nat} {l : VH K} {m : Nat} : at_ (l.map (Atom.ren g)) m = (at_ l m).ren g := by
  simp only [at_, List.getD_eq_getElem?_getD, List.getElem?_map]
  cases l[m]? <;> rfl
theorem Out.refl (S : Nat → Prop) (w : World) : Out S w w := ⟨rfl, rfl, rfl, Nat.le_refl _, fun _ _ _ => rfl⟩
/-- A callee's state within the caller's: whatever way of being called (X) shows of it, goes over. -/
theorem evCall_frame (hK : K.Ok) {ct : Ct K} {ks : List K.Kd} {τ : List Nat} {args : List VV} {kp : List PanicEntry → VH K → Prop} {k : VV → VH K → Prop} (st : HeapOK S w0 r H w) (h : evCall ct ks τ args H kp k) {vals : List Value} (ha : Are r args vals) (hal : ∀ x ∈ args, x.lt H.length)
    {X : (Ending → World → Prop) → Prop} (mono : ∀ {R R' : Ending → World → Prop}, X R → (∀ e w', R e w' → R' e w') → X R')
    (hct : ct.need → ∀ (r : Nat → Ref), HeapOK (Ours r ct.pre) w r ct.pre w → Are r ct.args vals → (∀ x ∈ ct.args, x.lt ct.pre.length) → X (ct.Ends r w)) :
    X fun e w' => (∃ v', e = .returned v' ∧ After S w0 r H k v' w') ∨ ∃ ch, e = .panicked ch ∧ AfterP S w0 r H kp ch w' := by
  obtain ⟨hneed, hinto, hk⟩ := h
  obtain ⟨hnd, hinto⟩ := guardP_iff.1 hinto
  obtain ⟨hg, hV, hH⟩ := guardP_iff.1 hinto
  simp only [Bool.and_eq_true, List.all_eq_true, Nat.blt_eq, Nat.ble_eq] at hg
  obtain ⟨hndl, hlt, hpre, hN0, hus, hatl⟩ := hg
  obtain ⟨r1, st1, hr1, hn1⟩ := HeapOK.nils ks st
  have hlen := EqH_len hH
  have hM : (H ++ nilsOf ks).length = H.length + ks.length := by simp [nilsOf]
  -- the callee's state
  have entry : ∃ rc : Nat → Ref, (∀ m, m < ct.pre.length → rc m = r1 (τ.getD m 0)) ∧ HeapOK S w0 rc ct.pre w ∧ (∀ m b, blkOf rc ct.pre m b → m < ct.pre.length ∧ blkOf r1 (H ++ nilsOf ks) (τ.getD m 0) b) ∧ Are rc ct.args vals := by
    by_cases hpos : 0 < H.length + ks.length
    · have hf : ∀ n, τ.getD n 0 < H.length + ks.length := fun n => by
        rcases Nat.lt_or_ge n τ.length with h' | h'
        · rw [List.getD_eq_getElem?_getD, List.getElem?_eq_getElem h', Option.getD_some]; exact hlt _ (List.getElem_mem h')
        · rw [List.getD_eq_getElem?_getD, List.getElem?_eq_none h']; exact hpos
      obtain ⟨st2, hb2⟩ := st1.sub hK hn1 hf hndl hH (by simpa using hatl)
      exact ⟨_, fun _ _ => rfl, st2, hb2, EqVs_sound hn1 hf hV (ha.congr hr1 hal)⟩
    · have hτ : τ = [] := by
        cases τ with
        | nil => rfl
        | cons x τ => have := hlt x (by simp); omega
      subst hτ
      have hp : ct.pre = [] := List.eq_nil_of_length_eq_zero (by simpa using hlen.symm)
      have hHn : H = [] := List.eq_nil_of_length_eq_zero (by omega)
      subst hHn
      have hus' : ∀ x ∈ ct.args, x.lt 0 := fun x hx => by have := VV.ltB_lt (hus x hx); rwa [hp] at this
      refine ⟨r, fun m hm => by rw [hp] at hm; simp at hm, ?_, fun m b hb => ?_, ?_⟩
      · rw [hp]; exact st
      · rw [hp] at hb; simp [blkOf, at_, Atom.has] at hb
      · have hne : Nils 0 1 (fun _ => nilRef 0) := fun n _ _ => ⟨rfl, rfl⟩
        have h1 := EqVs_sound (r := fun _ => nilRef 0) (M := 1) hne (fun n => by simp) hV (ha.congr (N := 0) (fun n hn => by omega) (by simpa using hal))
        exact h1.congr (N := 0) (fun n hn => by omega) hus'
  obtain ⟨rc, hrc, stc, hbc, hac⟩ := entry
  have stc' : HeapOK (Ours rc ct.pre) w rc ct.pre w := ⟨stc.ok, stc.lt, stc.inj, fun n b hb => .inl ⟨n, hb⟩, stc.ro, Out.refl _ w⟩
  have core : ∀ {v' : Value} {w' : World} {r2 : Nat → Ref} {vv : VV} {H2 : VH K} {k2 : VV → VH K → Prop}, k2 (vv.ren (newName (H.length + ks.length) τ)) (frameH (H ++ nilsOf ks) τ (keepRo (H ++ nilsOf ks) τ ct.pre (H2.map (Atom.ren (newName (H.length + ks.length) τ))))) →
      vv.is r2 v' → vv.lt H2.length → ct.pre.length ≤ H2.length → (∀ n, n < ct.pre.length → r2 n = rc n) → RoKeep ct.pre H2 → HeapOK (Ours rc ct.pre) w r2 H2 w' → After S w0 r H k2 v' w' := by
    intro v' w' r2 vv H2 k2 hk' hvis hvlt hle hr2 hrk st2
    let M := H.length + ks.length
    let g := newName M τ
    have hτle : τ.length ≤ H2.length := by omega
    let R : Nat → Ref := fun n => if n < M then r1 n else r2 (τ.length + (n - M))
    have g1 : ∀ m, m < τ.length → g m = τ.getD m 0 := fun m hm => by
      simp only [g, newName, List.getD_eq_getElem?_getD, List.getElem?_eq_getElem hm, Option.getD_some]
    have g2 : ∀ m, τ.length ≤ m → g m = M + (m - τ.length) := fun m hm => by
      simp only [g, newName, List.getElem?_eq_none hm]
    have mem : ∀ m, m < τ.length → τ.getD m 0 ∈ τ := fun m hm => by
      rw [List.getD_eq_getElem?_getD, List.getElem?_eq_getElem hm]; exact List.getElem_mem hm
    have gR : ∀ m, m < H2.length → R (g m) = r2 m := fun m hm => by
      rcases Nat.lt_or_ge m τ.length with h' | h'
      · rw [g1 m h']
        have := hlt _ (mem m h')
        simp only [R, M, this, if_true]
        rw [hr2 m (by omega), hrc m (by omega)]
      · rw [g2 m h']
        simp only [R]
        rw [if_neg (by omega)]
        congr 1; omega
    let L : VH K := keepRo (H ++ nilsOf ks) τ ct.pre (H2.map (Atom.ren g))
    have hLl : L.length = H2.length := by simp only [L]; rw [keepRo_len, List.length_map]
    have hsl : (setAll (H ++ nilsOf ks) τ L).length = M := by rw [setAll_len, hM]
    have h3l : (frameH (H ++ nilsOf ks) τ L).length = M + (H2.length - τ.length) := by
      rw [frameH, List.length_append, hsl, List.length_drop, hLl]
    have gl : ∀ m, m < H2.length → g m < (frameH (H ++ nilsOf ks) τ L).length := fun m hm => by
      rw [h3l]
      rcases Nat.lt_or_ge m τ.length with h' | h'
      · rw [g1 m h']; have := hlt _ (mem m h'); show _ < H.length + ks.length + _; omega
      · rw [g2 m h']; omega
    have atL : ∀ m, m < H2.length → at_ (frameH (H ++ nilsOf ks) τ L) (g m) = at_ L m := fun m hm => by
      rcases Nat.lt_or_ge m τ.length with h' | h'
      · have hlt' := hlt _ (mem m h')
        rw [g1 m h', ← setAll_at τ L (H ++ nilsOf ks) m hnd (fun n hn => by rw [hM]; exact hlt n hn) h' (by rw [hLl]; exact hm)]
        simp only [at_, frameH, List.getD_eq_getElem?_getD]
        rw [List.getElem?_append_left (by rw [hsl]; exact hlt')]
      · rw [g2 m h']
        simp only [at_, frameH, List.getD_eq_getElem?_getD]
        rw [List.getElem?_append_right (by rw [hsl]; omega), hsl, List.getElem?_drop]
        congr 2; omega
    have at3 : ∀ m, m < H2.length → (at_ ct.pre m).isRo = false → at_ (frameH (H ++ nilsOf ks) τ L) (g m) = (at_ H2 m).ren g := fun m hm hnr => by
      rw [atL m hm, ← at_map]; exact keepRo_no m hnr
    have old3 : ∀ n, n < M → n ∉ τ → at_ (frameH (H ++ nilsOf ks) τ L) n = at_ (H ++ nilsOf ks) n := fun n hn hnt => by
      rw [← setAll_other τ L (H ++ nilsOf ks) n hnt]
      simp only [at_, frameH, List.getD_eq_getElem?_getD]
      rw [List.getElem?_append_left (by rw [hsl]; exact hn)]
    have find : ∀ n, n < (frameH (H ++ nilsOf ks) τ L).length → ((∃ m, m < τ.length ∧ τ.getD m 0 = n ∧ (at_ ct.pre m).isRo = false) ∨ (H ++ nilsOf ks).length ≤ n) → ∃ m, m < H2.length ∧ n = g m ∧ (at_ ct.pre m).isRo = false := fun n hn hc => by
      rw [h3l] at hn
      rw [hM] at hc
      rcases hc with hc | hc
      · obtain ⟨m, hm, hmn, hnr⟩ := hc
        exact ⟨m, by omega, by rw [g1 m hm, hmn], hnr⟩
      · have hc' : M ≤ n := hc
        exact ⟨τ.length + (n - M), by omega, by rw [g2 _ (by omega)]; omega, by rw [at_ge (by omega)]; rfl⟩
    have blk3 : ∀ m, m < H2.length → (at_ ct.pre m).isRo = false → blkOf R (frameH (H ++ nilsOf ks) τ L) (g m) = blkOf r2 H2 m := fun m hm hnr => by
      rw [blkOf, at3 m hm hnr, Atom.ren_has, gR m hm]; rfl
    have inb : ∀ n b, blkOf R (frameH (H ++ nilsOf ks) τ L) n b → n < (frameH (H ++ nilsOf ks) τ L).length := fun n b hb =>
      at_lt fun e => by rw [blkOf, e] at hb; simp [Atom.has] at hb
    have hRK : RoKeep (H ++ nilsOf ks) (frameH (H ++ nilsOf ks) τ L) := fun n hn => by
      have hnl : n < (frameH (H ++ nilsOf ks) τ L).length := at_lt fun e => by rw [e] at hn; cases hn
      have hno : ∀ m, m < H2.length → n = g m → (at_ ct.pre m).isRo = false → False := fun m hm e hnr => by
        rw [e, at3 m hm hnr, Atom.ren_ro] at hn
        have := (hrk m hn).2
        rw [this, hnr] at hn; cases hn
      rcases Nat.lt_or_ge n M with h' | h'
      · refine ⟨by rw [hM]; exact h', ?_⟩
        by_cases ht : n ∈ τ
        · obtain ⟨m, hm, hmn⟩ := List.mem_iff_getElem.1 ht
          have hmn' : n = τ.getD m 0 := by rw [List.getD_eq_getElem?_getD, List.getElem?_eq_getElem hm, Option.getD_some, hmn]
          have hg : n = g m := by rw [g1 m hm, hmn']
          cases hp : (at_ ct.pre m).isRo with
          | false => exact (hno m (by omega) hg hp).elim
          | true =>
            have h1 : at_ L m = at_ (H ++ nilsOf ks) (τ.getD m 0) := keepRo_yes m hm (by rw [List.length_map]; omega) hp
            rw [hg, atL m (by omega), h1, ← hmn', ← hg]
        · exact old3 n h' ht
      · rw [h3l] at hnl
        exact (hno (τ.length + (n - M)) (by omega) (by rw [g2 _ (by omega)]; omega) (by rw [at_ge (by omega)]; rfl)).elim
    refine ⟨R, vv.ren g, frameH (H ++ nilsOf ks) τ L, hk', VV.ren_is gR hvlt hvis, VV.ren_lt gl hvlt, by rw [h3l]; show _ ≤ H.length + ks.length + _; omega, fun n hn => ?_, (RoKeep.nils ks).trans hRK, ?_⟩
    · simp only [R]; rw [if_pos (show n < H.length + ks.length by omega)]; exact hr1 n hn
    · refine st1.evolve (fun n => ∃ m, m < τ.length ∧ τ.getD m 0 = n ∧ (at_ ct.pre m).isRo = false) hRK (by rw [hM, h3l]; exact Nat.le_add_right _ _) (fun n hn => ?_) (fun n hn ht => ?_) st2.out.os st2.out.tape st2.out.output st2.out.size (fun b hb hne => ?_) (fun n hn hc => ?_) (fun n b hc hb => ?_) (fun n m b hne hc hc' hb hb' => ?_)
      · rw [hM] at hn; simp only [R]; exact if_pos hn
      · rw [hM] at hn
        by_cases hmem : n ∈ τ
        · obtain ⟨m, hm, hmn⟩ := List.mem_iff_getElem.1 hmem
          have hmn' : n = τ.getD m 0 := by rw [List.getD_eq_getElem?_getD, List.getElem?_eq_getElem hm, Option.getD_some, hmn]
          have hg : n = g m := by rw [g1 m hm, hmn']
          cases hp : (at_ ct.pre m).isRo with
          | false => exact absurd ⟨m, hm, hmn'.symm, hp⟩ ht
          | true =>
            have h1 : at_ L m = at_ (H ++ nilsOf ks) (τ.getD m 0) := keepRo_yes m hm (by rw [List.length_map]; omega) hp
            rw [hg, atL m (by omega), h1, ← hmn', ← hg]
        · exact old3 n hn hmem
      · refine st2.out.block b hb fun hs => ?_
        obtain ⟨m, hm⟩ := hs
        obtain ⟨h1, h2⟩ := hbc m b hm
        refine hne _ ⟨m, by omega, rfl, ?_⟩ h2
        cases hp : at_ ct.pre m <;> first | rfl | (rw [blkOf, hp] at hm; cases hm)
      · obtain ⟨m, hm, rfl, hnr⟩ := find n hn hc
        rw [at3 m hm hnr, gR m hm]
        exact ⟨Atom.ren_ok gR (st2.lt m) (st2.ok m), Atom.ren_lt gl (st2.lt m)⟩
      · obtain ⟨m, hm, rfl, hnr⟩ := find n (inb n b hb) hc
        rw [blk3 m hm hnr] at hb
        rcases st2.own m b hb with ⟨q, hq⟩ | hge
        · obtain ⟨h1, h2⟩ := hbc q b hq
          refine .inl ⟨_, ⟨q, by omega, rfl, ?_⟩, h2⟩
          cases hp : at_ ct.pre q <;> first | rfl | (rw [blkOf, hp] at hq; cases hq)
        · exact .inr hge
      · obtain ⟨p, hp, rfl, hnp⟩ := find n (inb n b hb) hc
        obtain ⟨q, hq, rfl, hnq⟩ := find m (inb m b hb') hc'
        rw [blk3 p hp hnp] at hb
        rw [blk3 q hq hnq] at hb'
        exact st2.inj p q b (fun e => hne (by rw [e])) hb hb'
  refine mono (hct hneed rc stc' hac (fun x hx => VV.ltB_lt (hus x hx))) ?_
  rintro e w' (⟨hrt, v', rfl, r2, vv, H2, ⟨y, hy, rfl, rfl⟩, hvis, hvlt, hle, hr2, hrk, st2⟩ | ⟨ch, rfl, r2, vv, H2, ⟨p, hp, z, hz, rfl, rfl⟩, hvis, hvlt, hle, hr2, hrk, st2⟩)
  · refine .inl ⟨v', rfl, core ?_ hvis hvlt hle hr2 hrk st2⟩
    cases hp : ct.pan with
    | none => rw [hp] at hk; exact hk y hy
    | some p =>
      have ho : p.only = false := by unfold Ct.rets at hrt; rw [hp] at hrt; simpa using hrt
      rw [hp] at hk
      simp only [ho] at hk
      exact hk.1 y hy
  · rw [hp] at hk
    refine .inr ⟨_, rfl, core (vv := .any) (k2 := fun _ H' => kp (p.ch z) H') ?_ trivial trivial hle hr2 hrk st2⟩
    cases ho : p.only with
    | true => simp only [ho] at hk; exact hk z hz
    | false => simp only [ho] at hk; exact hk.2 z hz
theorem evCall_sound (hK : K.Ok) {f : FuncId} {ct : Ct K} {ks : List K.Kd} {τ : List Nat} {args : List VV} {kp : List PanicEntry → VH K → Prop} {k : VV → VH K → Prop} (hct : CtOk P f ct) (st : HeapOK S w0 r H w) (h : evCall ct ks τ args H kp k) {vals : List Value} (ha : Are r args vals) (hal : ∀ x ∈ args, x.lt H.length) :
    Calls P f vals.toArray w fun e w' => (∃ v', e = .returned v' ∧ After S w0 r H k v' w') ∨ ∃ ch, e = .panicked ch ∧ AfterP S w0 r H kp ch w' := by
  exact evCall_frame hK st h ha hal (X := fun R => Calls P f vals.toArray w R) (fun hx hr => hx.mono hr) fun hn r st ha hal => hct.callsP hn r w vals st ha hal
end Go.Proofs.YtndlpbheifalhaaGreatDoor.E
end
