/- Text 5 of 13 texts that prove the statement of Vx; it holds without conditions beyond the statement's own. -/
import Derived.Laws.AppendOwn
import Derived.Laws.OwnMore
import Derived.Deep.MidRow
import Derived.Calls
import Derived.Deep.AppendSrc
import Derived.Maps.AppendAt
import Derived.IntWalk
import Derived.Tactics
import Derived.Laws.StructEq
import Derived.Laws.BytesString
import Derived.Test.YtndlpbheifalhaaGreatDoorKM2
import Derived.Test.YtndlpbheifalhaaGreatDoorKM3
namespace Go.Proofs.YtndlpbheifalhaaGreatDoor
end Go.Proofs.YtndlpbheifalhaaGreatDoor
namespace Go.Proofs.YtndlpbheifalhaaGreatDoor.E
end Go.Proofs.YtndlpbheifalhaaGreatDoor.E
namespace Go.Proofs.YtndlpbheifalhaaGreatDoor.T
end Go.Proofs.YtndlpbheifalhaaGreatDoor.T
namespace Go.Proofs.YtndlpbheifalhaaGreatDoor.TwireMany
end Go.Proofs.YtndlpbheifalhaaGreatDoor.TwireMany
namespace Go.Proofs.YtndlpbheifalhaaGreatDoor.V
end Go.Proofs.YtndlpbheifalhaaGreatDoor.V
section
namespace Go.Proofs.YtndlpbheifalhaaGreatDoor.E
set_option linter.unusedVariables false
set_option linter.unusedSimpArgs false
variable {K : Kinds} {P : Program} {S : Nat → Prop} {w0 w : World} {r : Nat → Ref} {H : VH K} {Ds : List Deferred}
/-- What a table of contracts stands on; and what package-level variables hold, where that is told. -/
structure TabBase (P : Program) where
  mixed : P.follows .mixedOrders = true
  glob : Nat → Option C
structure Tab (P : Program) (K : Kinds) where
  base : TabBase P
  pick : FuncId → List VV → VH K → Option (Ct K × List K.Kd × List Nat)
  ok : ∀ f args H ct ks τ, pick f args H = some (ct, ks, τ) → CtOk P f ct
def getO (fr : List VV) : Operand → VV
  | .tmp t => fr.getD t .any
  | .const v => ofConst v
  | .global g => .c (.rp 0 0 g 0 0)
  | .func f => .c (.fn f [])
structure FrOK (Ds : List Deferred) (r : Nat → Ref) (N : Nat) (fr : List VV) (a : Act) : Prop where
  is : Are r fr a.tmps.toList
  lt : ∀ x ∈ fr, x.lt N
  defers : a.defers = Ds
theorem getD_lt {fr : List VV} {N : Nat} (h : ∀ x ∈ fr, x.lt N) (i : Nat) : (fr.getD i .any).lt N := by
  rw [List.getD_eq_getElem?_getD]
  rcases Nat.lt_or_ge i fr.length with h' | h'
  · rw [List.getElem?_eq_getElem h']; exact h _ (List.getElem_mem h')
  · rw [List.getElem?_eq_none h']; trivial
theorem FrOK.get {N : Nat} {fr : List VV} {a : Act} (h : FrOK Ds r N fr a) (x : Operand) : (getO fr x).is r (a.eval x) ∧ (getO fr x).lt N := by
  cases x with
  | tmp t =>
    refine ⟨?_, getD_lt h.lt t⟩
    have := h.is.get t
    simpa [getO, Act.eval] using this
  | const v => exact ⟨ofConst_is v, ofConst_lt v N⟩
  | global g => exact ⟨by show Value.pointer (some ⟨g, 0, none⟩) = .pointer (some ⟨g, 0 * 0 + 0, none⟩); simp, lt_of_nm rfl⟩
  | func f => exact ⟨rfl, lt_of_nm rfl⟩
def putF (fr : List VV) (dst : Option Tmp) (v : VV) : List VV := match dst with | some d => fr.set d v | none => fr
theorem Are.set {r : Nat → Ref} : ∀ {xs : List VV} {vs : List Value} (i : Nat) {x : VV} {v : Value}, Are r xs vs → x.is r v → Are r (xs.set i x) (vs.set i v)
  | [], [], _, _, _, _, _ => trivial
  | _ :: _, _ :: _, 0, _, _, h, hx => ⟨hx, h.2⟩
  | _ :: _, _ :: _, i + 1, _, _, h, hx => ⟨h.1, Are.set i h.2 hx⟩
  | [], _ :: _, _, _, _, h, _ => h.elim
  | _ :: _, [], _, _, _, h, _ => h.elim
theorem FrOK.put {N N' : Nat} {r' : Nat → Ref} {fr : List VV} {a : Act} (h : FrOK Ds r N fr a) (hr : ∀ n, n < N → r' n = r n) (hN : N ≤ N') {v : VV} {u : Value} (hv : v.is r' u) (hl : v.lt N') (dst : Option Tmp) :
    FrOK Ds r' N' (putF fr dst v) (a.put dst u) := by
  cases dst with
  | none => exact ⟨h.is.congr hr h.lt, fun x hx => VV.lt_mono (h.lt x hx) hN, h.defers⟩
  | some d =>
    refine ⟨?_, fun x hx => ?_, h.defers⟩
    · simp only [putF, Act.put, Array.toList_setIfInBounds]
      exact (h.is.congr hr h.lt).set d hv
    · rcases List.mem_or_eq_of_mem_set hx with hx | rfl
      · exact VV.lt_mono (h.lt x hx) hN
      · exact hl
/-- The whole of a state of a function's run. -/
structure StOK (Ds : List Deferred) (S : Nat → Prop) (w0 : World) (r0 : Nat → Ref) (N0 : Nat) (r : Nat → Ref) (fr : List VV) (H : VH K) (a : Act) (w : World) : Prop where
  heap : HeapOK S w0 r H w
  frame : FrOK Ds r H.length fr a
  len : N0 ≤ H.length
  keep : ∀ n, n < N0 → r n = r0 n
def evBuiltin (P : Program) (b : Builtin) (ts : List TypeId) (args : List VV) (H : VH K) (k : VV → VH K → Prop) : Prop :=
  match b, ts, args with
  | .len, [t], [x] => evLen P t x fun v => k v H
  | .max, [_, _], [x, y] => evMM true x y fun v => k v H
  | .min, [_, _], [x, y] => evMM false x y fun v => k v H
  | .append, [t, tx], [s, x] => evAppend P t tx s x H k
  | .copy, [t, tx], [s, x] => evCopy P t tx s x H k
  | _, _, _ => False
def evStatic (tab : Tab P K) (f : FuncId) (args : List VV) (H : VH K) (kp : List PanicEntry → VH K → Prop) (k : VV → VH K → Prop) : Prop :=
  match tab.pick f args H with
  | some (ct, ks, τ) => evCall ct ks τ args H kp k
  | none => False
/-- What a function value has taken in: the places of cells. -/
def capsOf : List VV → Option (List (TypeId × Nat))
  | [] => some []
  | .one (.c (.rp T 0 b 0 0)) :: t => (capsOf t).map ((T, b) :: ·)
  | _ => none
abbrev capV (p : TypeId × Nat) : VV := .c (.rp p.1 0 p.2 0 0)
theorem capsOf_are {r : Nat → Ref} : ∀ {xs : List VV} {vs : List Value} {l : List (TypeId × Nat)}, capsOf xs = some l → Are r xs vs → vs = l.map fun p => Value.pointer (some ⟨p.2, 0, none⟩)
  | [], [], l, h, _ => by simp only [capsOf, Option.some.injEq] at h; subst h; rfl
  | [], _ :: _, _, _, h => h.elim
  | x :: xs, [], _, _, h => h.elim
  | x :: xs, v :: vs, l, h, ha => by
    unfold capsOf at h
    split at h
    · rename_i heq
      cases heq
    · rename_i T b t heq
      injection heq with h1 h2
      subst h1 h2
      cases hc : capsOf xs with
      | none => rw [hc] at h; cases h
      | some m =>
        rw [hc] at h
        simp only [Option.map_some, Option.some.injEq] at h
        subst h
        have hv : v = .pointer (some ⟨b, 0 * 0 + 0, none⟩) := ha.1
        rw [List.map_cons, ← capsOf_are hc ha.2, hv]
    · cases h
theorem capV_are {r : Nat → Ref} : ∀ l : List (TypeId × Nat), Are r (l.map capV) (l.map fun p => Value.pointer (some ⟨p.2, 0, none⟩))
  | [] => trivial
  | p :: l => ⟨by show Value.pointer (some ⟨p.2, 0, none⟩) = .pointer (some ⟨p.2, 0 * 0 + 0, none⟩); simp, capV_are l⟩
theorem Are.append {r : Nat → Ref} : ∀ {xs ys : List VV} {vs us : List Value}, Are r xs vs → Are r ys us → Are r (xs ++ ys) (vs ++ us)
  | [], _, [], _, _, h => h
  | x :: xs, _, v :: vs, _, h, k => ⟨h.1, Are.append h.2 k⟩
  | [], _, _ :: _, _, h, _ => h.elim
  | _ :: _, _, [], _, h, _ => h.elim
/-- A package-level variable that is known. -/
def evLoadG (P : Program) (T : TypeId) (g : Nat) (c : C) (H : VH K) (k : VV → VH K → Prop) : Prop :=
  match P.info? T, P.underlying T with
  | some _, some d => match isRowB d with
    | true => False
    | false => anyBag H fun _ φ => boxAt φ g 0 = some c ∧ k (.c c) H
  | _, _ => False
theorem evLoadG_sound (hK : K.Ok) (st : HeapOK S w0 r H w) {T : TypeId} {g : Nat} {c : C} {k : VV → VH K → Prop} (h : evLoadG P T g c H k) :
    ∃ v', (Instr.loadAt T (.pointer (some ⟨g, 0, none⟩))).run P w = .ok v' w ∧ After S w0 r H k v' w := by
  have h0 : evLoad0 P T (.c (.rp 0 0 g 0 0)) H k := by
    unfold evLoadG at h
    unfold evLoad0
    split at h
    · rename_i hi hu
      split at h
      · exact h.elim
      · rename_i hd
        rw [hi, hu]
        simp only [hd]
        exact box_read (k := fun cs => match cs with | [c] => k (.c c) H | _ => False) h
    · exact h.elim
  have hp : (VV.c (.rp 0 0 g 0 0)).is r (.pointer (some ⟨g, 0, none⟩)) := by
    show Value.pointer (some ⟨g, 0, none⟩) = .pointer (some ⟨g, 0 * 0 + 0, none⟩)
    simp
  exact evLoad0_sound hK st h0 hp
def strOfB (P : Program) (s d : TypeId) : Bool := match P.underlying s, P.underlying d with
  | some (.slice e), some .string => match P.underlying e with
    | some (.int .u8) => true
    | _ => false
  | _, _ => false
def byteB : C → Option UInt8
  | .int .u8 n => some (UInt8.ofNat n.toNat)
  | _ => none
def isByte : C → Bool
  | .int .u8 _ => true
  | _ => false
/-- Cells as bytes. -/
def bytesOf (cs : List C) : ByteArray := ⟨(cs.filterMap byteB).toArray⟩
def evBytesStr (P : Program) (K : Kinds) (s : TypeId) (x : VV) (H : VH K) (k : VV → Prop) : Prop :=
  match P.underlying s with
  | some (.slice e) => match K.ofType e with
    | some kd => guardP (K.size kd == 1) (srcK P s x H kd fun ys => (flat kd ys).all isByte = true ∧ k (.c (.str (bytesOf (flat kd ys)))))
    | none => False
  | _ => False
theorem bytesOf_fold : ∀ (cs : List C) (s : ByteArray), cs.all isByte = true → ∃ ns : List Int, cs.map C.plain = ns.map (Value.int .u8) ∧ ns.foldl (fun r n => r.push (UInt8.ofNat n.toNat)) s = ⟨s.data ++ (cs.filterMap byteB).toArray⟩
  | [], s, _ => ⟨[], rfl, by simp⟩
  | c :: cs, s, h => by
    simp only [List.all_cons, Bool.and_eq_true] at h
    obtain ⟨h1, h2⟩ := h
    match c, h1 with
    | .int .u8 n, _ =>
      obtain ⟨ns, e1, e2⟩ := bytesOf_fold cs (s.push (UInt8.ofNat n.toNat)) h2
      refine ⟨n :: ns, by rw [List.map_cons, List.map_cons, e1]; rfl, ?_⟩
      rw [List.foldl_cons, e2]
      simp [byteB, ByteArray.push]
theorem evBytesStr_sound (hK : K.Ok) (st : HeapOK S w0 r H w) {s d : TypeId} {x : VV} {k : VV → VH K → Prop} (hsd : strOfB P s d = true) (h : evBytesStr P K s x H fun v => k v H) {v : Value} (hx : x.is r v) :
    ∃ v', (convert s d v).run P w = .ok v' w ∧ After S w0 r H k v' w := by
  unfold strOfB at hsd
  split at hsd
  · rename_i e hs hd
    split at hsd
    · rename_i he
      unfold evBytesStr at h
      rw [hs] at h
      simp only at h
      split at h
      · rename_i kd hkd
        have h' := guardP_iff.1 h
        clear h
        obtain ⟨hg, h⟩ := h'
        have hsz : K.size kd = 1 := beq_iff_eq.1 hg
        obtain ⟨ys, ⟨hall, hk⟩, hsrc⟩ := srcK_sound hK st h hx
        obtain ⟨ns, e1, e2⟩ := bytesOf_fold (flat kd ys) ByteArray.empty hall
        have hfin : ns.foldl (fun r n => r.push (UInt8.ofNat n.toNat)) ByteArray.empty = bytesOf (flat kd ys) := by
          rw [e2]; unfold bytesOf; simp
        have after : After S w0 r H k (.string (bytesOf (flat kd ys))) w := After.pure st hk rfl (lt_of_nm rfl)
        have hl := hsrc.len w
        have hc := hsrc.cells
        rw [e1, hsz] at hc
        have shape : (∃ l c, v = .slice none l c) ∨ ∃ a l c, v = .slice (some a) l c := by
          have hu := hs
          unfold srcK at h
          rw [hs] at h
          split at h
          · have hv : v = .slice none 0 0 := hx
            exact .inl ⟨_, _, hv⟩
          · obtain ⟨a, rfl, _⟩ := hx
            cases a with
            | none => exact .inl ⟨_, _, rfl⟩
            | some a => exact .inr ⟨_, _, _, rfl⟩
          · rename_i y _
            have hv : v = RS.val _ y := hx
            cases y with
            | nil => exact .inl ⟨_, _, hv⟩
            | mk b lo n c => exact .inr ⟨_, _, _, hv⟩
          · rename_i hh; cases hh
          · exact h.elim
        rcases shape with ⟨l, c, rfl⟩ | ⟨a, l, c, rfl⟩
        · have hn : ns = [] := by
            have h0 : (#[] : Array Value) = (ns.map (Value.int .u8)).toArray := by
              simpa [Builtin.firstCells] using hc
            cases ns with
            | nil => rfl
            | cons n t => simp at h0
          refine ⟨_, ?_, after⟩
          rw [run_convert_bytes_string w s d e none l c hs he hd, ← hfin, hn]
          rfl
        · have hll : l = ys.length := by simpa [Builtin.lenOf] using hl
          refine ⟨_, ?_, after⟩
          rw [run_convert_bytes_string w s d e (some a) l c hs he hd, run_bytesToString w a l c ns (by
            rw [hll]; simpa [Builtin.firstCells] using hc), hfin]
      · exact h.elim
    · cases hsd
  · cases hsd
/-- A pointer becomes an interface value; a block of one's own is known by its place from here on. -/
def evIface (P : Program) (T : TypeId) (x : VV) (H : VH K) (k : VV → VH K → Prop) : Prop :=
  guardP (match P.underlying T with | some (.pointer _) => true | _ => false) (match x with
    | .one (.c (.rp _ sz b i j)) => k (.c (.lit (.iface T (.pointer (some ⟨b, i * sz + j, none⟩))))) H
    | .one (.c (.ptr n 0 0)) => match at_ H n with
      | .cells Tc cs => guardP (cs.all fun c => c.nm.isNone && c.one) (anyBag H fun m φ => ∀ b, φ b = none → k (.c (.lit (.iface T (.pointer (some ⟨b, 0, none⟩))))) ((H.set n .gone).set m (.bag (bput φ b (.box Tc cs)))))
      | _ => False
    | _ => False)
theorem evIface_sound (st : HeapOK S w0 r H w) {T : TypeId} {x : VV} {v : Value} {k : VV → VH K → Prop} (h : evIface P T x H k) (hv : x.is r v) :
    ∃ v', (Instr.makeInterface T v).run P w = .ok v' w ∧ After S w0 r H k v' w := by
  have h' := guardP_iff.1 h
  clear h
  obtain ⟨hg, h⟩ := h'
  have hr : (Instr.makeInterface T v).run P w = .ok (.iface T v) w := by
    cases hu : P.underlying T with
    | none => rw [hu] at hg; cases hg
    | some d =>
      rw [hu] at hg
      cases d <;> first | cases hg | skip
      simp [Instr.makeInterface, run_underlying hu]
  refine ⟨_, hr, ?_⟩
  split at h
  · have hv : v = .pointer (some ⟨_, _, none⟩) := hv
    subst hv
    exact After.pure st h rfl (lt_of_nm rfl)
  · rename_i n
    split at h
    · rename_i Tc cs hn
      obtain ⟨hcs, h⟩ := guardP_iff.1 h
      simp only [Bool.and_eq_true, List.all_eq_true, Option.isNone_iff_eq_none] at hcs
      obtain ⟨m, φ, hm, h⟩ := anyBag_at h
      obtain ⟨hoff, hfree, st'⟩ := st.frzBox hn hm hcs
      have hv : v = .pointer (some ⟨(r n).blk, (r n).off + (0 * (r n).sz + 0), none⟩) := hv
      rw [hoff] at hv
      simp only [Nat.zero_mul, Nat.add_zero] at hv
      subst hv
      refine ⟨r, _, _, h (r n).blk hfree, rfl, lt_of_nm rfl, by simp, fun _ _ => rfl, ?_, st'⟩
      have hnl : n < H.length := at_lt (by rw [hn]; simp)
      have hml : m < H.length := at_lt (by rw [hm]; simp)
      exact (RoKeep.set hnl rfl).trans (RoKeep.set (by simpa using hml) rfl)
    · exact h.elim
  · exact h.elim
/-- A value of one cell, read back. -/
def backC (e : TypeId) : Value → Option C
  | .pointer none => some .nilp
  | .pointer (some ⟨b, 0, none⟩) => some (.rp e 0 b 0 0)
  | _ => none
theorem backC_is {e : TypeId} {v : Value} {c : C} (h : backC e v = some c) : v = c.plain ∧ c.nm = none := by
  unfold backC at h
  split at h
  · cases h; exact ⟨rfl, rfl⟩
  · cases h; exact ⟨by simp [C.plain], rfl⟩
  · cases h
def evAssert (P : Program) (t : TypeId) (ok : Bool) (x : VV) (k : VV → Prop) : Prop :=
  match P.underlying t, (P.info? t).bind (·.zero) with
  | some (.pointer e), some (.pointer none) => match x with
    | .one (.c (.lit (.iface T v))) => match T == t, backC e v, ok with
      | true, some c, true => k (.tup [.c c, .c (.bool true)])
      | true, some c, false => k (.c c)
      | false, _, true => k (.tup [.c .nilp, .c (.bool false)])
      | _, _, _ => False
    | .one (.c (.lit .nilIface)) => match ok with
      | true => k (.tup [.c .nilp, .c (.bool false)])
      | false => False
    | _ => False
  | _, _ => False
theorem evAssert_sound (st : HeapOK S w0 r H w) {t xt : TypeId} {ok : Bool} {x : VV} {v : Value} {k : VV → VH K → Prop} (h : evAssert P t ok x fun v => k v H) (hv : x.is r v) :
    ∃ v', (Instr.typeAssert v xt t ok).run P w = .ok v' w ∧ After S w0 r H k v' w := by
  unfold evAssert at h
  split at h
  · rename_i e hu hz0
    have hz : (zeroValue t).run P w = .ok (.pointer none) w := by
      obtain ⟨i, hi, hz⟩ := Option.bind_eq_some_iff.1 hz0
      simp [zeroValue, typeInfo, hi, hz]
    have two : ∀ (c : C) (b : Bool), c.nm = none → (VV.tup [.c c, .c (.bool b)]).is r (.tuple #[c.plain, .bool b]) := fun c b hc => ⟨[c.plain, .bool b], rfl, (C.is_plain hc _).2 rfl, rfl, trivial⟩
    have twol : ∀ (c : C) (b : Bool), c.nm = none → (VV.tup [.c c, .c (.bool b)]).lt H.length := fun c b hc y hy => by
      simp only [List.mem_cons, List.not_mem_nil, or_false] at hy
      rcases hy with rfl | rfl
      · exact fun n hn => by rw [hc] at hn; cases hn
      · exact fun n hn => by cases hn
    split at h
    · rename_i T u
      have hv : v = .iface T u := hv
      subst hv
      split at h
      · rename_i c hT hb
        obtain ⟨rfl, hc⟩ := backC_is hb
        have hT := beq_iff_eq.1 hT
        subst hT
        refine ⟨_, ?_, After.pure st h (two c true hc) (twol c true hc)⟩
        simp [Instr.typeAssert, run_underlying hu]
      · rename_i c hT hb
        obtain ⟨rfl, hc⟩ := backC_is hb
        have hT := beq_iff_eq.1 hT
        subst hT
        refine ⟨_, ?_, After.pure st h (vv := .c c) ((C.is_plain hc _).2 rfl) (fun n hn => by rw [hc] at hn; cases hn)⟩
        simp [Instr.typeAssert, run_underlying hu]
      · rename_i hT
        have hT : T ≠ t := by simpa using hT
        refine ⟨_, ?_, After.pure st h (two .nilp false rfl) (twol .nilp false rfl)⟩
        simp [Instr.typeAssert, run_underlying hu, hT, hz, C.plain]
      · exact h.elim
    · have hv : v = .nilIface := hv
      subst hv
      split at h
      · refine ⟨_, ?_, After.pure st h (two .nilp false rfl) (twol .nilp false rfl)⟩
        simp [Instr.typeAssert, run_underlying hu, hz, C.plain]
      · exact h.elim
    · exact h.elim
  · exact h.elim
def evOp (tab : Tab P K) (fr : List VV) (o : Oper) (H : VH K) (k : VV → VH K → Prop) : Prop :=
  match o.op with
  | .move x => k (getO fr x) H
  | .assign x => k (getO fr x) H
  | .pick c a b => match getO fr c with
    | .one (.c (.bool t)) => ite2 t (k (getO fr a) H) (k (getO fr b) H)
    | _ => False
  | .alloc T => evAlloc P T H k
  | .box T x => evBox T (getO fr x) H k
  | .build t ps => evBuild P t (ps.toList.map fun p => (p.1, getO fr p.2)) fun v => k v H
  | .buildSlice t len ps => evSliceLit P t len (ps.toList.map fun p => (p.1, getO fr p.2)) H k
  | .load t x => match x with
    | .global g => match tab.base.glob g with
      | some c => evLoadG P t g c H k
      | none => evLoad P t (.c (.rp 0 0 g 0 0)) H k
    | x => evLoad P t (getO fr x) H k
  | .store t x y => evStore P t (getO fr x) (getO fr y) H k
  | .nilCheck x => match getO fr x with
    | .one (.c (.ptr n i j)) => k (.c (.ptr n i j)) H
    | .one (.c (.rp e sz b i j)) => k (.c (.rp e sz b i j)) H
    | _ => False
  | .binOp op t x y _ => match getO fr x, getO fr y with
    | .one (.agg l), .one (.agg l') => guardP (match P.underlying t with | some d => isRowB d | none => false) (evAgg P op t l l' fun v => k v H)
    | vx, vy => evBin P t op vx vy fun v => k v H
  | .unOp op _ x => evUn op (getO fr x) fun v => k v H
  | .convert s d x => match strOfB P s d with
    | true => evBytesStr P K s (getO fr x) H fun v => k v H
    | false => evConv P s d (getO fr x) fun v => k v H
  | .makeSlice t l c => evMake P t (getO fr l) (getO fr c) H k
  | .slice t x lo hi mx => evCut P t (getO fr x) (lo.map (getO fr)) (hi.map (getO fr)) (mx.map (getO fr)) H k
  | .fieldAddr t x f => evFieldAddr P t (getO fr x) f H k
  | .field t x f => evField P t (getO fr x) f fun v => k v H
  | .indexAddr t x i => evIndexAddr P t (getO fr x) (getO fr i) H k
  | .index t x i => evIndex P t (getO fr x) (getO fr i) fun v => k v H
  | .extract x i => evExtract (getO fr x) i fun v => k v H
  | .call c => match c.callee with
    | .builtin b => evBuiltin P b c.argTypes.toList (c.args.toList.map (getO fr)) H k
    | .value (.func f) => evStatic tab f (c.args.toList.map (getO fr)) H (fun _ _ => False) k
    | .value x => match getO fr x with
      | .one (.c (.fn f caps)) => evStatic tab f (c.args.toList.map (getO fr) ++ caps.map capV) H (fun _ _ => False) k
      | _ => False
    | _ => False
  | .makeFunc f first caps => match f, first.toList, capsOf (caps.toList.map (getO fr)) with
    | .func f, [], some l => k (.c (.fn f l)) H
    | _, _, _ => False
  | _ => False
theorem RelP_of {N : Nat} {fr : List VV} {a : Act} (h : FrOK Ds r N fr a) : ∀ ps : List (Nat × Operand), RelP r N (ps.map fun p => (p.1, getO fr p.2)) (ps.map fun p => (p.1, a.eval p.2))
  | [] => trivial
  | p :: ps => ⟨rfl, (h.get p.2).1, (h.get p.2).2, RelP_of h ps⟩
theorem Are_of {N : Nat} {fr : List VV} {a : Act} (h : FrOK Ds r N fr a) : ∀ xs : List Operand, Are r (xs.map (getO fr)) (xs.map a.eval)
  | [] => trivial
  | x :: xs => ⟨(h.get x).1, Are_of h xs⟩
theorem OptIs_of {N : Nat} {fr : List VV} {a : Act} (h : FrOK Ds r N fr a) (x : Option Operand) : OptIs r (x.map (getO fr)) (x.map a.eval) := by
  cases x with
  | none => trivial
  | some x => exact (h.get x).1
/-- What may stand behind the operation, in terms of the walk's own words. -/
theorem wp_value {o : Oper} {a : Act} {next : Act → World → Prop} {Q : Exit → Act → World → Prop} {v : Value} {w' : World} (hr : (execOp a.eval o).run P w = .ok (.value v) w') (h : next (a.put o.dst v) w') : o.wp P a w next Q := by
  unfold Oper.wp; rw [hr]; exact h
theorem wp_skip_ {o : Oper} {a : Act} {next : Act → World → Prop} {Q : Exit → Act → World → Prop} {w' : World} (hr : (execOp a.eval o).run P w = .ok .skip w') (h : next (a.put o.dst undef) w') : o.wp P a w next Q := by
  unfold Oper.wp; rw [hr]; exact h
/-- A call of a function that is known. -/
theorem static_wp (hK : K.Ok) (tab : Tab P K) {fr : List VV} {a : Act} (hf : FrOK Ds r H.length fr a) (sh : HeapOK S w0 r H w) {dst : Option Tmp} {f : Operand} {args : Array Operand} {ats : Array TypeId} {type : TypeId} {pos : String} {after : Array Edge} {guard : Option (Nat × Bool)}
    {f0 : FuncId} {caps : List (TypeId × Nat)} (hfn : getO fr f = .c (.fn f0 caps)) {kp : List PanicEntry → VH K → Prop} {k : VV → VH K → Prop} (h : evStatic tab f0 (args.toList.map (getO fr) ++ caps.map capV) H kp k)
    {next : Act → World → Prop} {Q : Exit → Act → World → Prop} (hn : ∀ v' w', After S w0 r H k v' w' → next (a.put dst v') w') (hp : ∀ ch w', AfterP S w0 r H kp ch w' → Q (.panic ch) a w') :
    ({ dst, op := .call { callee := .value f, args, argTypes := ats }, type, pos, after, guard } : Oper).wp P a w next Q := by
  have get := fun x => hf.get x
  have hargs := Are_of hf args.toList
  simp only [evStatic] at h
  split at h
  · rename_i ct ks τ hpk
    have hct := tab.ok _ _ _ _ _ _ hpk
    have hcalls := evCall_sound hK hct sh h (vals := args.toList.map a.eval ++ caps.map fun p : TypeId × Nat => Value.pointer (some ⟨p.2, 0, none⟩)) (Are.append hargs (capV_are caps)) (fun x hx => by
      rcases List.mem_append.1 hx with hx | hx
      · obtain ⟨y, _, rfl⟩ := List.mem_map.1 hx; exact (get y).2
      · obtain ⟨p, _, rfl⟩ := List.mem_map.1 hx; exact lt_of_nm rfl)
    have hval := (get f).1
    rw [hfn] at hval
    have hval : a.eval f = .func (.func f0) #[] (caps.map fun p : TypeId × Nat => Value.pointer (some ⟨p.2, 0, none⟩)).toArray := hval
    have hrun : (execOp a.eval { dst, op := .call { callee := .value f, args, argTypes := ats }, type, pos, after, guard }).run P w = .ok (.enter f0 (args.toList.map a.eval ++ caps.map fun p : TypeId × Nat => Value.pointer (some ⟨p.2, 0, none⟩)).toArray) w := by
      have e : (args.toList.map a.eval ++ caps.map fun p : TypeId × Nat => Value.pointer (some ⟨p.2, 0, none⟩)).toArray = args.map a.eval ++ (caps.map fun p : TypeId × Nat => Value.pointer (some ⟨p.2, 0, none⟩)).toArray := by
        apply Array.ext'; simp
      rw [e]
      simp [execOp, resolve, hval, Deferred.ofValue, invoke, hct.enter]
    unfold Oper.wp
    rw [hrun]
    refine hcalls.mono ?_
    rintro e w' (⟨v', rfl, ha⟩ | ⟨ch, rfl, ha⟩)
    · exact hn _ _ ha
    · exact hp _ _ ha
  · exact h.elim
theorem evOp_sound (hK : K.Ok) (tab : Tab P K) {r0 : Nat → Ref} {N0 : Nat} {fr : List VV} {a : Act} (st : StOK Ds S w0 r0 N0 r fr H a w) {o : Oper} {k : VV → VH K → Prop} (h : evOp tab fr o H k)
    {next : Act → World → Prop} {Q : Exit → Act → World → Prop} (hn : ∀ v' w', After S w0 r H k v' w' → next (a.put o.dst v') w') : o.wp P a w next Q := by
  have hf := st.frame
  have get := fun x => hf.get x
  have sh := st.heap
  obtain ⟨dst, op, type, pos, after, guard⟩ := o
  cases op <;> simp only [evOp] at h
  case move x => exact wp_value (by simp [execOp]) (hn _ _ (After.pure sh h (get x).1 (get x).2))
  case assign x => exact wp_value (by simp [execOp]) (hn _ _ (After.pure sh h (get x).1 (get x).2))
  case pick c x y =>
    split at h
    · rename_i t hc
      have hc' := (get c).1
      rw [hc] at hc'
      have hc'' : a.eval c = .bool t := hc'
      rcases ite2_of h with ⟨rfl, h⟩ | ⟨rfl, h⟩
      · exact wp_value (by simp [execOp, hc'', asBool]) (hn _ _ (After.pure sh h (get x).1 (get x).2))
      · exact wp_value (by simp [execOp, hc'', asBool]) (hn _ _ (After.pure sh h (get y).1 (get y).2))
    · exact h.elim
  case alloc T =>
    obtain ⟨v', w', hr, ha⟩ := evAlloc_sound sh h
    exact wp_value (by simp [execOp, hr]) (hn _ _ ha)
  case box T x =>
    obtain ⟨v', w', hr, ha⟩ := evBox_sound (P := P) sh h (get x).1 (get x).2
    exact wp_value (by simp [execOp, hr]) (hn _ _ ha)
  case build t ps =>
    obtain ⟨v', hr, ha⟩ := evBuild_sound sh h (qs := ps.map fun p => (p.1, a.eval p.2)) (by simpa using RelP_of hf ps.toList)
    exact wp_value (by simp [execOp, hr]) (hn _ _ ha)
  case buildSlice t len ps =>
    obtain ⟨v', w', hr, ha⟩ := evSliceLit_sound hK sh h (qs := ps.map fun p => (p.1, a.eval p.2)) (by simpa using RelP_of hf ps.toList)
    exact wp_value (by simp [execOp, hr]) (hn _ _ ha)
  case load t x =>
    split at h
    · rename_i g
      split at h
      · obtain ⟨v', hr, ha⟩ := evLoadG_sound hK sh h
        exact wp_value (by simp [execOp, Act.eval, hr]) (hn _ _ ha)
      · obtain ⟨v', hr, ha⟩ := evLoad_sound hK sh h (get (.global g)).1
        exact wp_value (by simp [execOp, hr]) (hn _ _ ha)
    · obtain ⟨v', hr, ha⟩ := evLoad_sound hK sh h (get _).1
      exact wp_value (by simp [execOp, hr]) (hn _ _ ha)
  case store t x y =>
    obtain ⟨w', hr, ha⟩ := evStore_sound hK sh h (get x).1 (get y).1 (get y).2
    exact wp_skip_ (by simp [execOp, hr]) (hn _ _ ha)
  case nilCheck x =>
    split at h
    · rename_i n i j hx
      have hx' := (get x).1
      have hl := (get x).2
      rw [hx] at hx' hl
      have hx'' : a.eval x = .pointer (some ⟨(r n).blk, (r n).off + (i * (r n).sz + j), none⟩) := hx'
      exact wp_value (by simp [execOp, hx'']) (hn _ _ (After.pure sh h (v := .pointer (some ⟨(r n).blk, (r n).off + (i * (r n).sz + j), none⟩)) rfl hl))
    · rename_i e sz b i j hx
      have hx' := (get x).1
      have hl := (get x).2
      rw [hx] at hx' hl
      have hx'' : a.eval x = .pointer (some ⟨b, i * sz + j, none⟩) := hx'
      exact wp_value (by simp [execOp, hx'']) (hn _ _ (After.pure sh h (v := .pointer (some ⟨b, i * sz + j, none⟩)) rfl hl))
    · exact h.elim
  case binOp op t x y t' =>
    have gx := get x
    have gy := get y
    split at h
    · rename_i l l' hx hy
      rw [hx] at gx
      rw [hy] at gy
      obtain ⟨hg, h⟩ := guardP_iff.1 h
      have hT : ∃ d, P.underlying t = some d ∧ isRowB d = true := by
        cases hu : P.underlying t with
        | none => simp [hu] at hg
        | some d => exact ⟨d, rfl, by simpa [hu] using hg⟩
      obtain ⟨v', hr, ha⟩ := evAgg_sound (P := P) sh (ox := x) (oy := y) h gx.1 gy.1 hT
      exact wp_value (by simp only [execOp, Sem.run_bind, hr, Result.andThen_ok, Sem.run_pure]) (hn _ _ ha)
    · obtain ⟨v', hr, ha⟩ := evBin_sound (P := P) sh (T := t) (ox := x) (oy := y) h gx.1 gy.1
      exact wp_value (by simp only [execOp, Sem.run_bind, hr, Result.andThen_ok, Sem.run_pure]) (hn _ _ ha)
  case unOp op t x =>
    obtain ⟨v', hr, ha⟩ := evUn_sound (P := P) sh h (get x).1
    exact wp_value (by simp [execOp, hr]) (hn _ _ ha)
  case convert s d x =>
    split at h
    · rename_i hsd
      obtain ⟨v', hr, ha⟩ := evBytesStr_sound (P := P) hK sh hsd h (get x).1
      exact wp_value (by simp [execOp, hr]) (hn _ _ ha)
    · obtain ⟨v', hr, ha⟩ := evConv_sound sh h (get x).1
      exact wp_value (by simp [execOp, hr]) (hn _ _ ha)
  case makeSlice t l c =>
    obtain ⟨v', w', hr, ha⟩ := evMake_sound hK sh h (get l).1 (get c).1
    exact wp_value (by simp [execOp, hr]) (hn _ _ ha)
  case slice t x lo hi mx =>
    obtain ⟨v', hr, ha⟩ := evCut_sound hK sh h (get x).1 (get x).2 (OptIs_of hf lo) (OptIs_of hf hi) (OptIs_of hf mx)
    exact wp_value (by simp [execOp, hr]) (hn _ _ ha)
  case fieldAddr t x f =>
    obtain ⟨v', hr, ha⟩ := evFieldAddr_sound sh h (get x).1 (get x).2
    exact wp_value (by simp [execOp, hr]) (hn _ _ ha)
  case field t x f =>
    obtain ⟨v', hr, ha⟩ := evField_sound sh h (get x).1 (get x).2
    exact wp_value (by simp [execOp, hr]) (hn _ _ ha)
  case indexAddr t x i =>
    obtain ⟨v', hr, ha⟩ := evIndexAddr_sound hK sh h (get x).1 (get i).1 (get x).2
    exact wp_value (by simp [execOp, hr]) (hn _ _ ha)
  case index t x i =>
    obtain ⟨v', hr, ha⟩ := evIndex_sound sh h (get x).1 (get i).1 (get x).2
    exact wp_value (by simp [execOp, hr]) (hn _ _ ha)
  case extract x i =>
    obtain ⟨v', hr, ha⟩ := evExtract_sound (P := P) sh h (get x).1 (get x).2
    exact wp_value (by simp [execOp, hr]) (hn _ _ ha)
  case call c =>
    obtain ⟨callee, args, ats⟩ := c
    have hargs := Are_of hf args.toList
    cases callee with
    | builtin b =>
      simp only at h
      have hres : ∀ {m : Sem Value} {v' w'}, (execOp a.eval { dst, op := .call { callee := .builtin b, args, argTypes := ats }, type, pos, after, guard }) = (do pure (.value (← m))) → m.run P w = .ok v' w' →
          (execOp a.eval { dst, op := .call { callee := .builtin b, args, argTypes := ats }, type, pos, after, guard }).run P w = .ok (.value v') w' := fun he hm => by
        rw [he]; simp [hm]
      unfold evBuiltin at h
      split at h
      · rename_i t x hts hxs
        have e1 : ats = #[t] := by apply Array.ext'; simpa using hts
        obtain ⟨y, hy, hyx⟩ : ∃ y, args = #[y] ∧ getO fr y = x := by
          match hargs' : args.toList, hxs with
          | [y], hxs => exact ⟨y, by apply Array.ext'; simpa using hargs', by simpa [hargs'] using hxs⟩
          | [], hxs => simp [hargs'] at hxs
          | _ :: _ :: _, hxs => simp [hargs'] at hxs
        subst e1 hy hyx
        obtain ⟨v', hr, ha⟩ := evLen_sound (P := P) (ty := type) sh h (get y).1
        exact wp_value (hres (m := Builtin.len_ #[t] type #[a.eval y]) (by simp [execOp, resolve, invoke, builtin]) hr) (hn _ _ ha)
      · rename_i t t' x y hts hxs
        obtain ⟨x', y', hxy, hx', hy'⟩ : ∃ x' y', args = #[x', y'] ∧ getO fr x' = x ∧ getO fr y' = y := by
          match hargs' : args.toList, hxs with
          | [x', y'], hxs => exact ⟨x', y', by apply Array.ext'; simpa using hargs', by simp [hargs'] at hxs; exact hxs.1, by simp [hargs'] at hxs; exact hxs.2⟩
          | [], hxs => simp [hargs'] at hxs
          | [_], hxs => simp [hargs'] at hxs
          | _ :: _ :: _ :: _, hxs => simp [hargs'] at hxs
        subst hxy hx' hy'
        obtain ⟨v', hr, ha⟩ := evMax_sound (P := P) (ts := ats) (ty := type) sh h (get x').1 (get y').1
        exact wp_value (hres (m := Builtin.max_ ats type #[a.eval x', a.eval y']) (by simp [execOp, resolve, invoke, builtin]) hr) (hn _ _ ha)
      · rename_i t t' x y hts hxs
        obtain ⟨x', y', hxy, hx', hy'⟩ : ∃ x' y', args = #[x', y'] ∧ getO fr x' = x ∧ getO fr y' = y := by
          match hargs' : args.toList, hxs with
          | [x', y'], hxs => exact ⟨x', y', by apply Array.ext'; simpa using hargs', by simp [hargs'] at hxs; exact hxs.1, by simp [hargs'] at hxs; exact hxs.2⟩
          | [], hxs => simp [hargs'] at hxs
          | [_], hxs => simp [hargs'] at hxs
          | _ :: _ :: _ :: _, hxs => simp [hargs'] at hxs
        subst hxy hx' hy'
        obtain ⟨v', hr, ha⟩ := evMin_sound (P := P) (ts := ats) (ty := type) sh h (get x').1 (get y').1
        exact wp_value (hres (m := Builtin.min_ ats type #[a.eval x', a.eval y']) (by simp [execOp, resolve, invoke, builtin]) hr) (hn _ _ ha)
      · rename_i t t' x y hts hxs
        have e1 : ats = #[t, t'] := by apply Array.ext'; simpa using hts
        obtain ⟨x', y', hxy, hx', hy'⟩ : ∃ x' y', args = #[x', y'] ∧ getO fr x' = x ∧ getO fr y' = y := by
          match hargs' : args.toList, hxs with
          | [x', y'], hxs => exact ⟨x', y', by apply Array.ext'; simpa using hargs', by simp [hargs'] at hxs; exact hxs.1, by simp [hargs'] at hxs; exact hxs.2⟩
          | [], hxs => simp [hargs'] at hxs
          | [_], hxs => simp [hargs'] at hxs
          | _ :: _ :: _ :: _, hxs => simp [hargs'] at hxs
        subst e1 hxy hx' hy'
        obtain ⟨v', w', hr, ha⟩ := evAppend_sound (P := P) (ty := type) hK sh h (get x').1 (get y').1
        exact wp_value (hres (m := Builtin.append_ #[t, t'] type #[a.eval x', a.eval y']) (by simp [execOp, resolve, invoke, builtin]) hr) (hn _ _ ha)
      · rename_i t t' x y hts hxs
        have e1 : ats = #[t, t'] := by apply Array.ext'; simpa using hts
        obtain ⟨x', y', hxy, hx', hy'⟩ : ∃ x' y', args = #[x', y'] ∧ getO fr x' = x ∧ getO fr y' = y := by
          match hargs' : args.toList, hxs with
          | [x', y'], hxs => exact ⟨x', y', by apply Array.ext'; simpa using hargs', by simp [hargs'] at hxs; exact hxs.1, by simp [hargs'] at hxs; exact hxs.2⟩
          | [], hxs => simp [hargs'] at hxs
          | [_], hxs => simp [hargs'] at hxs
          | _ :: _ :: _ :: _, hxs => simp [hargs'] at hxs
        subst e1 hxy hx' hy'
        obtain ⟨v', w', hr, ha⟩ := evCopy_sound (P := P) (ty := type) hK sh h (get x').1 (get y').1
        exact wp_value (hres (m := Builtin.copy_ #[t, t'] type #[a.eval x', a.eval y']) (by simp [execOp, resolve, invoke, builtin]) hr) (hn _ _ ha)
      · exact h.elim
    | value f =>
      have dyn : ∀ f0 caps, getO fr f = .c (.fn f0 caps) → evStatic tab f0 (args.toList.map (getO fr) ++ caps.map capV) H (fun _ _ => False) k → ({ dst, op := .call { callee := .value f, args, argTypes := ats }, type, pos, after, guard } : Oper).wp P a w next Q := fun f0 caps hfn h =>
        static_wp hK tab hf sh hfn h hn fun ch w' ha => by
          obtain ⟨_, _, _, h, _⟩ := ha
          exact h.elim
      cases f with
      | func f =>
        refine dyn f [] rfl ?_
        simpa using h
      | tmp t =>
        simp only at h
        split at h
        · rename_i f0 caps hfn
          exact dyn f0 caps hfn h
        · exact h.elim
      | const v =>
        simp only at h
        split at h
        · rename_i f0 caps hfn
          exact dyn f0 caps hfn h
        · exact h.elim
      | global g => exact h.elim
    | invoke _ _ => exact h.elim
  case makeFunc f first caps =>
    split at h
    · rename_i f0 l hf0 hc
      have hcs := capsOf_are hc (Are_of hf caps.toList)
      have hfirst : first = #[] := by apply Array.ext'; simpa using hf0
      subst hfirst
      refine wp_value (v := .func (.func f0) #[] (l.map fun p : TypeId × Nat => Value.pointer (some ⟨p.2, 0, none⟩)).toArray) ?_ (hn _ _ (After.pure sh h rfl (lt_of_nm rfl)))
      have e : (l.map fun p : TypeId × Nat => Value.pointer (some ⟨p.2, 0, none⟩)).toArray = caps.map a.eval := by
        rw [← hcs]; apply Array.ext'; simp
      rw [e]
      simp [execOp, Instr.makeFunc]
    · exact h.elim
  all_goals exact h.elim
def _root_.Go.Operand.isConst : Operand → Bool
  | .const _ => true
  | _ => false
def isIfB (P : Program) (t : TypeId) : Bool := match P.underlying t with
  | some (.interface _) => true
  | _ => false
def eqnB (op : BinOp) (b : Bool) (f : Bool → Prop) : Prop := match op with
  | .eql => f b
  | .neq => f (!b)
  | _ => False
def evIfEq (P : Program) (op : BinOp) (t : TypeId) (cst : Bool) (u v : Value) (f : Bool → Prop) : Prop :=
  guardP (isIfB P t) (match u, v with
    | .iface _ _, .nilIface => eqnB op false f
    | .nilIface, .nilIface => guardP cst (eqnB op true f)
    | _, _ => False)
theorem evIfEq_sound {op : BinOp} {t : TypeId} {u v : Value} {f : Bool → Prop} {ox oy : Operand} (h : evIfEq P op t oy.isConst u v f) :
    ∃ b, (do eqGuard op t ox oy u v; binOp op t u v : Sem Value).run P w = .ok (.bool b) w ∧ f b := by
  have h' := guardP_iff.1 h
  clear h
  obtain ⟨hi, h⟩ := h'
  obtain ⟨ms, hu⟩ : ∃ ms, P.underlying t = some (.interface ms) := by
    unfold isIfB at hi
    split at hi
    · rename_i ms hm; exact ⟨ms, hm⟩
    · cases hi
  have two : ∀ (b : Bool), (∀ op, (eqGuard op t ox oy u v).run P w = .ok () w) → (Op.equal t u v).run P w = .ok b w → (∀ op, op = .eql ∨ op = .neq → binOp op t u v = (match op with | .eql => (do pure (.bool (← Op.equal t u v))) | _ => (do pure (.bool (!(← Op.equal t u v)))))) → eqnB op b f →
      ∃ b, (do eqGuard op t ox oy u v; binOp op t u v : Sem Value).run P w = .ok (.bool b) w ∧ f b := fun b hg he hb hf => by
    unfold eqnB at hf
    split at hf
    · refine ⟨b, ?_, hf⟩
      rw [Sem.run_bind, hg, hb _ (.inl rfl)]
      simp [he]
    · refine ⟨!b, ?_, hf⟩
      rw [Sem.run_bind, hg, hb _ (.inr rfl)]
      simp [he]
    · exact hf.elim
  split at h
  · refine two false (fun op => by cases op <;> simp [eqGuard]) (equal_step fun n => ?_) (fun op ho => by rcases ho with rfl | rfl <;> rfl) h
    simp [Op.equalIn, run_underlying hu]
  · have h' := guardP_iff.1 h
    clear h
    obtain ⟨hc, h⟩ := h'
    refine two true (fun op => ?_) (equal_step fun n => ?_) (fun op ho => by rcases ho with rfl | rfl <;> rfl) h
    · cases oy <;> simp [Operand.isConst] at hc
      cases op <;> simp [eqGuard]
    · simp [Op.equalIn, run_underlying hu]
  · exact h.elim
/-- An operation that may panic. -/
def evOpP (tab : Tab P K) (fr : List VV) (o : Oper) (H : VH K) (kp : List PanicEntry → VH K → Prop) (k : VV → VH K → Prop) : Prop :=
  match o.op with
  | .call c => match c.callee with
    | .value (.func f) => evStatic tab f (c.args.toList.map (getO fr)) H kp k
    | .value x => match getO fr x with
      | .one (.c (.fn f caps)) => evStatic tab f (c.args.toList.map (getO fr) ++ caps.map capV) H kp k
      | _ => False
    | _ => evOp tab fr o H k
  | .panic x => match getO fr x with
    | .one (.c (.lit (.iface T v))) => kp [{ v := .iface T v, recovered := false }] H
    | _ => False
  | .binOp op t x y _ => match getO fr x, getO fr y with
    | .one (.c (.lit u)), .one (.c (.lit v)) => evIfEq P op t y.isConst u v fun b => k (.c (.bool b)) H
    | _, _ => evOp tab fr o H k
  | .makeInterface T x => evIface P T (getO fr x) H k
  | .typeAssert x _ t ok => evAssert P t ok (getO fr x) fun v => k v H
  | _ => evOp tab fr o H k
theorem evOpP_sound (hK : K.Ok) (tab : Tab P K) {r0 : Nat → Ref} {N0 : Nat} {fr : List VV} {a : Act} (st : StOK Ds S w0 r0 N0 r fr H a w) {o : Oper} {kp : List PanicEntry → VH K → Prop} {k : VV → VH K → Prop} (h : evOpP tab fr o H kp k)
    {next : Act → World → Prop} {Q : Exit → Act → World → Prop} (hn : ∀ v' w', After S w0 r H k v' w' → next (a.put o.dst v') w') (hp : ∀ ch w', AfterP S w0 r H kp ch w' → Q (.panic ch) a w') : o.wp P a w next Q := by
  have hf := st.frame
  have sh := st.heap
  have norm : evOp tab fr o H k → o.wp P a w next Q := fun h => evOp_sound hK tab st h hn
  unfold evOpP at h
  split at h
  · rename_i c hc
    obtain ⟨dst, op, type, pos, after, guard⟩ := o
    simp only at hc
    subst hc
    obtain ⟨callee, args, ats⟩ := c
    split at h
    · rename_i f hcal
      simp only at hcal
      subst hcal
      exact static_wp hK tab hf sh (f0 := f) (caps := []) rfl (by simpa using h) hn hp
    · rename_i x hx hcal
      simp only at hcal
      subst hcal
      split at h
      · rename_i f0 caps hfn
        exact static_wp hK tab hf sh hfn h hn hp
      · exact h.elim
    · exact norm h
  · rename_i x hx
    split at h
    · rename_i T v hv
      have hval := (hf.get x).1
      rw [hv] at hval
      have hval : a.eval x = .iface T v := hval
      obtain ⟨dst, op, type, pos, after, guard⟩ := o
      simp only at hx
      subst hx
      unfold Oper.wp
      have hr : (execOp a.eval { dst, op := .panic x, type, pos, after, guard }).run P w = .halt (.panic (.iface T v)) w := by
        simp [execOp, hval, Instr.panic, goPanic]
      rw [hr]
      exact hp _ _ ⟨r, .any, H, h, trivial, trivial, Nat.le_refl _, fun _ _ => rfl, RoKeep.refl H, sh⟩
    · exact h.elim
  · rename_i op t x y t' hx
    split at h
    · rename_i u v hu hv
      have gu := (hf.get x).1
      have gv := (hf.get y).1
      rw [hu] at gu
      rw [hv] at gv
      have gu : a.eval x = u := gu
      have gv : a.eval y = v := gv
      obtain ⟨b, hr, hb⟩ := evIfEq_sound (P := P) (w := w) (ox := x) (oy := y) h
      refine wp_value (v := .bool b) ?_ (hn _ _ (After.pure sh hb rfl (lt_of_nm rfl)))
      rw [← gu, ← gv] at hr
      simp only [execOp, hx, Sem.run_bind] at hr ⊢
      rw [hr]
      rfl
    · exact norm h
  · rename_i T x hx
    obtain ⟨v', hr, ha⟩ := evIface_sound (P := P) sh h (hf.get x).1
    exact wp_value (by simp [execOp, hx, hr]) (hn _ _ ha)
  · rename_i x xt t ok hx
    obtain ⟨v', hr, ha⟩ := evAssert_sound (P := P) (xt := xt) sh h (hf.get x).1
    exact wp_value (by simp [execOp, hx, hr]) (hn _ _ ha)
  · exact norm h
end Go.Proofs.YtndlpbheifalhaaGreatDoor.E
end
section
namespace Go.Proofs.YtndlpbheifalhaaGreatDoor.E
set_option linter.unusedVariables false
set_option linter.unusedSimpArgs false
variable {K : Kinds} {P : Program} {S : Nat → Prop} {w0 w : World} {r : Nat → Ref} {H : VH K} {Ds : List Deferred}
/-- An operation's value hangs on its operands alone. -/
theorem evOp_congr (tab : Tab P K) {fr fr' : List VV} {o : Oper} {k : VV → VH K → Prop} (h : ∀ x ∈ o.op.operands, getO fr x = getO fr' x) : evOp tab fr o H k = evOp tab fr' o H k := by
  obtain ⟨dst, op, type, pos, after, guard⟩ := o
  have pm : ∀ ps : Array (Nat × Operand), (∀ x ∈ (ps.toList.map (·.2)).toArray, getO fr x = getO fr' x) → ps.toList.map (fun p => (p.1, getO fr p.2)) = ps.toList.map (fun p => (p.1, getO fr' p.2)) := fun ps hp =>
    List.map_congr_left fun p hm => by rw [hp p.2 (by simp; exact ⟨p.1, by simpa using hm⟩)]
  cases op <;> simp only [Op.operands] at h <;> simp only [evOp]
  case call c =>
    obtain ⟨callee, args, ats⟩ := c
    have ha : args.toList.map (getO fr) = args.toList.map (getO fr') := List.map_congr_left fun x hx => h x (by simp only [Call.operands]; exact Array.mem_append.2 (.inr (by simpa using hx)))
    cases callee with
    | value f =>
      have hf := h f (by simp [Call.operands])
      cases f <;> simp only [ha, hf]
    | _ => simp only [ha]
  case makeFunc f first caps =>
    have hc : caps.toList.map (getO fr) = caps.toList.map (getO fr') := List.map_congr_left fun x hx => h x (Array.mem_append.2 (.inr (by simpa using hx)))
    rw [hc]
  case build t ps => rw [pm ps h]
  case buildSlice t n ps => rw [pm ps h]
  case load t x =>
    have e0 : getO fr x = getO fr' x := h x (by simp)
    cases x with
    | global g => rfl
    | _ => simp only [e0]
  case slice t x lo hi mx =>
    have e0 := h x (by simp)
    have e1 : lo.map (getO fr) = lo.map (getO fr') := by cases lo <;> simp_all
    have e2 : hi.map (getO fr) = hi.map (getO fr') := by cases hi <;> simp_all
    have e3 : mx.map (getO fr) = mx.map (getO fr') := by cases mx <;> simp_all
    rw [e0, e1, e2, e3]
  all_goals (first | rfl | (simp_all; done))
def gslot (ops : Array Oper) (o : Oper) : Option Nat := o.guard.bind fun g => (ops[g.1]?).bind (·.dst)
/-- The operation under its guard. -/
def evVal (tab : Tab P K) (ops : Array Oper) (fr : List VV) (o : Oper) (H : VH K) (k : VV → VH K → Prop) : Prop :=
  match o.guard with
  | none => evOp tab fr o H k
  | some (j, want) => match (ops[j]?).bind (·.dst) with
    | some t => match fr.getD t .any with
      | .one (.c (.bool b)) => ite2 b
          (match want with | true => evOp tab fr o H k | false => k (.tup []) H)
          (match want with | false => evOp tab fr o H k | true => k (.tup []) H)
      | .tup [] => k (.tup []) H
      | _ => False
    | none => False
theorem evVal_congr (tab : Tab P K) {ops : Array Oper} {fr fr' : List VV} {o : Oper} {k : VV → VH K → Prop} (h : ∀ x ∈ o.op.operands, getO fr x = getO fr' x) (hg : ∀ t, gslot ops o = some t → fr.getD t .any = fr'.getD t .any) :
    evVal tab ops fr o H k = evVal tab ops fr' o H k := by
  unfold evVal
  cases hgd : o.guard with
  | none => exact evOp_congr tab h
  | some jw =>
    obtain ⟨j, want⟩ := jw
    simp only
    cases ht : (ops[j]?).bind (·.dst) with
    | none => rfl
    | some t =>
      have e := hg t (by simp [gslot, hgd, ht])
      simp only [e, evOp_congr tab h]
theorem evVal_sound (hK : K.Ok) (tab : Tab P K) {fr : List VV} {a : Act} (hh : HeapOK S w0 r H w) (hf : FrOK Ds r H.length fr a) {ops : Array Oper} {o : Oper} {k : VV → VH K → Prop} (h : evVal tab ops fr o H k)
    {next : Act → World → Prop} {Q : Exit → Act → World → Prop} (hn : ∀ v' w', After S w0 r H k v' w' → next (a.put o.dst v') w') :
    if Region.wanted o (yielded ops a.tmps) then o.wp P a w next Q ∨ (o.asks P a w ∧ LetsOut Q) else next (a.put o.dst undef) w := by
  have st : StOK Ds S w0 r 0 r fr H a w := ⟨hh, hf, Nat.zero_le _, fun _ _ => rfl⟩
  unfold evVal at h
  cases hg : o.guard with
  | none =>
    simp only [hg] at h
    simp only [Region.wanted, hg, if_true]
    exact .inl (evOp_sound hK tab st h hn)
  | some jw =>
    obtain ⟨j, want⟩ := jw
    simp only [hg] at h
    split at h
    · rename_i t ht
      split at h
      · rename_i b hb
        have hval : yielded ops a.tmps j = some b := by
          have h1 := hf.is.get t
          rw [hb] at h1
          have h2 : a.tmps.toList.getD t undef = .bool b := h1
          have h3 : a.tmps[t]? = some (.bool b) := by
            rw [List.getD_eq_getElem?_getD] at h2
            cases hx : a.tmps.toList[t]? with
            | none => rw [hx] at h2; simp [undef] at h2
            | some x => rw [hx] at h2; simp at h2; subst h2; simpa using hx
          simp [yielded, ht, h3]
        have hw : Region.wanted o (yielded ops a.tmps) = (b == want) := by
          simp only [Region.wanted, hg, hval]
          cases b <;> cases want <;> rfl
        have skip : k (.tup []) H → next (a.put o.dst undef) w := fun hk => hn undef w ⟨r, .tup [], H, hk, ⟨[], rfl, trivial⟩, fun c hc => (by cases hc), Nat.le_refl _, fun _ _ => rfl, RoKeep.refl H, hh⟩
        rw [hw]
        rcases ite2_of h with ⟨rfl, h⟩ | ⟨rfl, h⟩ <;> cases want <;> simp only [beq_self_eq_true, if_true] at h ⊢
        · exact skip h
        · exact .inl (evOp_sound hK tab st h hn)
        · exact .inl (evOp_sound hK tab st h hn)
        · exact skip h
      · rename_i hb
        have hval : yielded ops a.tmps j = none := by
          have h1 := hf.is.get t
          rw [hb] at h1
          obtain ⟨vs, h2, h3⟩ := h1
          have hvs : vs = [] := by cases vs with | nil => rfl | cons => exact h3.elim
          subst hvs
          unfold yielded
          rw [ht]
          simp only [Option.bind_some]
          rw [List.getD_eq_getElem?_getD] at h2
          cases hx : a.tmps[t]? with
          | none => rfl
          | some x =>
            have hx' : a.tmps.toList[t]? = some x := by simpa using hx
            rw [hx'] at h2
            simp only [Option.getD_some] at h2
            subst h2
            rfl
        have hw : Region.wanted o (yielded ops a.tmps) = false := by
          simp only [Region.wanted, hg, hval]
          cases want <;> rfl
        rw [hw]
        exact hn undef w ⟨r, .tup [], H, h, ⟨[], rfl, trivial⟩, fun c hc => (by cases hc), Nat.le_refl _, fun _ _ => rfl, RoKeep.refl H, hh⟩
      · exact h.elim
    · exact h.elim
def isReader : Op → Bool
  | .move _ | .pick .. | .build .. | .load .. | .nilCheck _ | .binOp .. | .unOp .. | .convert .. | .slice .. | .fieldAddr .. | .field .. | .indexAddr .. | .index .. | .extract .. => true
  | .call { callee := .builtin b, .. } => match b with | .len | .max | .min => true | _ => false
  | _ => false
/-- An evaluation that comes to one value and leaves memory alone. -/
def Same (H : VH K) (v v' : VV) (H' : VH K) : Prop := v' = v ∧ H' = H
theorem same_rfl {v : VV} : Same H v v H := ⟨rfl, rfl⟩
def Reads (H : VH K) (ev : (VV → VH K → Prop) → Prop) : Prop := ∀ k, ev k → ∃ v, k v H ∧ ev (Same H v)
def ReadsV (ev : (VV → Prop) → Prop) : Prop := ∀ k, ev k → ∃ v, k v ∧ ev fun v' => v' = v
theorem Reads.of {ev : (VV → Prop) → Prop} (h : ReadsV ev) : Reads H fun k => ev fun v => k v H := fun k hk => by
  obtain ⟨v, h1, h2⟩ := h _ hk
  exact ⟨v, h1, by simpa [Same] using h2⟩
theorem readsV_ite {b : Bool} {x y : (VV → Prop) → Prop} (hx : ReadsV x) (hy : ReadsV y) : ReadsV fun k => ite2 b (x k) (y k) := fun k h => by
  cases b
  · exact hy k h
  · exact hx k h
theorem readsV_at (v : VV) : ReadsV fun k => k v := fun k h => ⟨v, h, rfl⟩
theorem readsV_and {p : Prop} {x : (VV → Prop) → Prop} (hx : ReadsV x) : ReadsV fun k => p ∧ x k := fun k h => by
  obtain ⟨v, h1, h2⟩ := hx k h.2
  exact ⟨v, h1, h.1, h2⟩
theorem readsV_false : ReadsV fun _ => False := fun k h => h.elim
theorem readsV_guard {b : Bool} {x : (VV → Prop) → Prop} (hx : ReadsV x) : ReadsV fun k => guardP b (x k) := fun k h => by
  cases b
  · exact h.elim
  · exact hx k h
theorem readsV_arith (k : IntKind) (z : Int) : ReadsV (arith k z) := fun f h => by
  cases k <;> first | exact ⟨_, h, rfl⟩ | exact ⟨_, h.2, h.1, rfl⟩
theorem readsV_tf (p : Prop) [Decidable p] : ReadsV (tf p) := readsV_ite (readsV_at _) (readsV_at _)
theorem readsV_nf (p : Prop) [Decidable p] : ReadsV (nf p) := readsV_ite (readsV_at _) (readsV_at _)
theorem readsV_int (op : BinOp) (k : IntKind) (a b : Int) : ReadsV (evInt op k a b) := by
  cases op <;> simp only [ReadsV, evInt] <;> first
    | exact readsV_arith _ _
    | exact readsV_and (readsV_arith _ _)
    | exact readsV_and (readsV_at _)
    | exact readsV_tf _
    | exact readsV_nf _
    | exact readsV_false
    | exact readsV_at _
theorem readsV_str (op : BinOp) (a b : ByteArray) : ReadsV (evStr op a b) := by
  cases op <;> simp only [ReadsV, evStr] <;> first
    | exact readsV_and (readsV_at _)
    | exact readsV_tf _
    | exact readsV_nf _
    | exact readsV_false
theorem readsV_shift (op : BinOp) (k : IntKind) (a b : Int) : ReadsV (evShift op k a b) := by
  cases op <;> simp only [ReadsV, evShift] <;> first
    | exact readsV_and (readsV_arith _ _)
    | exact readsV_and (readsV_at _)
    | exact readsV_false
theorem readsV_nil (op : BinOp) (ok same : Bool) : ReadsV (evNil op ok same) := by
  unfold evNil
  refine readsV_guard ?_
  split
  · exact readsV_at _
  · exact readsV_at _
  · exact readsV_false
theorem readsV_boo (op : BinOp) (ok a b : Bool) : ReadsV (evBoo op ok a b) := by
  unfold evBoo
  refine readsV_guard ?_
  split
  · exact readsV_tf _
  · exact readsV_nf _
  · exact readsV_false
theorem readsV_bin (T : TypeId) (op : BinOp) (x y : VV) : ReadsV (evBin P T op x y) := fun k h => by
  unfold evBin at h ⊢
  split at h
  · split at h
    · exact readsV_shift _ _ _ _ k h
    · exact readsV_shift _ _ _ _ k h
    · exact readsV_guard (readsV_int _ _ _ _) k h
  · exact readsV_str _ _ _ k h
  · exact readsV_nil _ _ _ k h
  · exact readsV_nil _ _ _ k h
  · exact readsV_nil _ _ _ k h
  · exact readsV_nil _ _ _ k h
  · exact readsV_nil _ _ _ k h
  · exact readsV_nil _ _ _ k h
  · exact readsV_nil _ _ _ k h
  · exact readsV_nil _ _ _ k h
  · exact readsV_boo _ _ _ _ k h
  · exact h.elim
theorem readsV_agg (op : BinOp) (t : TypeId) (l l' : List C) : ReadsV (evAgg P op t l l') := fun k h => by
  unfold evAgg at h ⊢
  split at h
  · exact readsV_ite (readsV_at _) (readsV_at _) k h
  · exact readsV_ite (readsV_at _) (readsV_at _) k h
  · exact h.elim
theorem readsV_un (op : UnOp) (x : VV) : ReadsV (evUn op x) := fun k h => by
  unfold evUn at h ⊢
  split at h
  · exact readsV_ite (readsV_at _) (readsV_at _) k h
  · exact readsV_arith _ _ k h
  · exact readsV_at _ k h
  · exact h.elim
theorem readsV_conv (s d : TypeId) (x : VV) : ReadsV (evConv P s d x) := fun k h => by
  unfold evConv at h ⊢
  split at h
  · exact readsV_arith _ _ k h
  · exact readsV_at _ k h
  · exact h.elim
theorem readsV_extract (x : VV) (i : Nat) : ReadsV (evExtract x i) := fun k h => by
  unfold evExtract at h ⊢
  split at h
  · split at h
    · exact readsV_at _ k h
    · exact h.elim
  · exact h.elim
theorem readsV_part (e : TypeId) (l : List C) (off : Nat) : ReadsV (evPart P e l off) := fun k h => by
  unfold evPart at h ⊢
  split at h
  · split at h
    · exact readsV_at _ k h
    · split at h
      · exact readsV_at _ k h
      · exact h.elim
  · exact h.elim
theorem readsV_idx {x : Nat → (VV → Prop) → Prop} (hx : ∀ q, ReadsV (x q)) {z : Int} {k : VV → Prop} : ∀ {m q : Nat}, idxSplit z (fun q => x q k) m q → (q : Int) ≤ z → z < (q : Int) + m → ∃ v, k v ∧ idxSplit z (fun q => x q fun v' => v' = v) m q
  | 0, q, _, h1, h2 => by omega
  | m + 1, q, h, h1, h2 => by
    simp only [idxSplit] at h ⊢
    by_cases e : z = (q : Int)
    · subst e
      simp only [decide_true, ite2] at h ⊢
      exact hx q k h
    · simp only [e, decide_false, ite2] at h ⊢
      exact readsV_idx hx h (by omega) (by omega)
theorem readsV_index (t : TypeId) (x i : VV) : ReadsV (evIndex P t x i) := fun k h => by
  unfold evIndex at h ⊢
  split at h
  · exact readsV_and (readsV_at _) k h
  · split at h
    · obtain ⟨h1, h2⟩ := h
      obtain ⟨v, hv, hs⟩ := readsV_idx (x := fun q f => evPart P _ _ (q * _) f) (fun q => readsV_part _ _ _) h2 (by simpa using h1.1) (by simpa using h1.2)
      exact ⟨v, hv, h1, hs⟩
    · exact h.elim
  · exact h.elim
theorem readsV_field (t : TypeId) (x : VV) (i : Nat) : ReadsV (evField P t x i) := fun k h => by
  unfold evField at h ⊢
  split at h
  · split at h
    · split at h
      · split at h
        · exact readsV_at _ k h
        · split at h
          · exact readsV_at _ k h
          · exact h.elim
      · exact h.elim
    · exact h.elim
  · exact h.elim
theorem readsV_len (t : TypeId) (x : VV) : ReadsV (evLen P t x) := fun k h => by
  unfold evLen at h ⊢
  split at h <;> first | exact readsV_at _ k h | exact h.elim
theorem readsV_mm (m : Bool) (x y : VV) : ReadsV (evMM m x y) := fun k h => by
  unfold evMM at h ⊢
  split at h
  · cases m <;> exact readsV_at _ k h
  · exact h.elim
theorem readsV_build (t : TypeId) (ps : List (Nat × VV)) : ReadsV (evBuild P t ps) := fun k h => by
  unfold evBuild at h ⊢
  split at h
  · exact readsV_at _ k h
  · exact h.elim
theorem readAt_reads {a : Atom K} {i j m : Nat} {k : List C → Prop} (h : readAt a i j m k) : ∃ cs, k cs ∧ readAt a i j m fun cs' => cs' = cs := by
  cases a with
  | gone => exact h.elim
  | cells T cs => obtain ⟨hg, hk⟩ := guardP_iff.1 h; exact ⟨_, hk, guardP_iff.2 ⟨hg, rfl⟩⟩
  | arr kd xs => obtain ⟨hi, hg⟩ := h; obtain ⟨hg, hk⟩ := guardP_iff.1 hg; exact ⟨_, hk, hi, guardP_iff.2 ⟨hg, rfl⟩⟩
  | ro kd xs => obtain ⟨hi, hg⟩ := h; obtain ⟨hg, hk⟩ := guardP_iff.1 hg; exact ⟨_, hk, hi, guardP_iff.2 ⟨hg, rfl⟩⟩
  | bag φ => exact h.elim
theorem readAt_mono {a : Atom K} {i j m : Nat} {k k' : List C → Prop} (h : readAt a i j m k) (hk : ∀ cs, k cs → k' cs) : readAt a i j m k' := by
  cases a with
  | gone => exact h.elim
  | cells T cs => obtain ⟨hg, h⟩ := guardP_iff.1 h; exact guardP_iff.2 ⟨hg, hk _ h⟩
  | arr kd xs => obtain ⟨hi, hg⟩ := h; obtain ⟨hg, h⟩ := guardP_iff.1 hg; exact ⟨hi, guardP_iff.2 ⟨hg, hk _ h⟩⟩
  | ro kd xs => obtain ⟨hi, hg⟩ := h; obtain ⟨hg, h⟩ := guardP_iff.1 hg; exact ⟨hi, guardP_iff.2 ⟨hg, hk _ h⟩⟩
  | bag φ => exact h.elim
theorem someBag_reads {X : Type} {f : (X → Prop) → Nat → Bag K → Prop} (hf : ∀ k n φ, f k n φ → ∃ x, k x ∧ f (fun y => y = x) n φ) {k : X → Prop} : ∀ {l : List (Nat × Bag K)}, someBag l (f k) → ∃ x, k x ∧ someBag l (f fun y => y = x)
  | [], h => h.elim
  | [(n, φ)], h => hf k n φ h
  | (n, φ) :: (m, ψ) :: t, h => by
    rcases h with h | h
    · obtain ⟨x, h1, h2⟩ := hf k n φ h
      exact ⟨x, h1, .inl h2⟩
    · obtain ⟨x, h1, h2⟩ := someBag_reads hf (l := (m, ψ) :: t) h
      exact ⟨x, h1, .inr h2⟩
theorem readPt_reads {p : VV} {m : Nat} {k : List C → Prop} (h : readPt H p m k) : ∃ cs, k cs ∧ readPt H p m fun cs' => cs' = cs := by
  unfold readPt at h ⊢
  split at h
  · exact readAt_reads h
  · unfold readRp at h ⊢
    split at h
    · unfold readBox at h ⊢
      exact someBag_reads (f := fun k _ φ => ∃ cs, cellsAt φ _ = some cs ∧ _ + m ≤ cs.length ∧ k ((cs.drop _).take m)) (fun k n φ h => by
        obtain ⟨cs, h1, h2, h3⟩ := h
        exact ⟨_, h3, cs, h1, h2, rfl⟩) h
    · unfold readRow at h ⊢
      split at h
      · rename_i kd hkd
        obtain ⟨hg, h⟩ := guardP_iff.1 h
        obtain ⟨cs, h1, h2⟩ := someBag_reads (f := fun k _ φ => ∃ cap xs, φ _ = some (.row kd cap xs) ∧ readAt (.arr kd xs) _ _ m k) (fun k n φ h => by
          obtain ⟨cap, xs, h1, h2⟩ := h
          obtain ⟨cs, h3, h4⟩ := readAt_reads h2
          exact ⟨cs, h3, cap, xs, h1, h4⟩) h
        exact ⟨cs, h1, guardP_iff.2 ⟨hg, h2⟩⟩
      · exact h.elim
  · unfold readLay at h ⊢
    split at h
    · rename_i kd hkd
      obtain ⟨hg, h⟩ := guardP_iff.1 h
      obtain ⟨cs, h1, h2⟩ := someBag_reads (f := fun k _ φ => ∃ xs ob, HasV φ _ _ kd xs ob ∧ readAt (.ro kd xs) _ _ m k) (fun k n φ h => by
        obtain ⟨xs, ob, h1, h2⟩ := h
        obtain ⟨cs, h3, h4⟩ := readAt_reads h2
        exact ⟨cs, h3, xs, ob, h1, h4⟩) h
      exact ⟨cs, h1, guardP_iff.2 ⟨hg, h2⟩⟩
    · exact h.elim
  · exact h.elim
theorem readPt_mono {p : VV} {m : Nat} {k k' : List C → Prop} (h : readPt H p m k) (hk : ∀ cs, k cs → k' cs) : readPt H p m k' := by
  unfold readPt at h ⊢
  split at h
  · exact readAt_mono h hk
  · unfold readRp at h ⊢
    split at h
    · unfold readBox at h ⊢
      exact someBag_mono (fun n φ h => by
        obtain ⟨cs, h1, h2, h3⟩ := h
        exact ⟨cs, h1, h2, hk _ h3⟩) h
    · unfold readRow at h ⊢
      split at h
      · obtain ⟨hg, h⟩ := guardP_iff.1 h
        exact guardP_iff.2 ⟨hg, someBag_mono (fun n φ h => by
          obtain ⟨cap, xs, h1, h2⟩ := h
          exact ⟨cap, xs, h1, readAt_mono h2 hk⟩) h⟩
      · exact h.elim
  · unfold readLay at h ⊢
    split at h
    · obtain ⟨hg, h⟩ := guardP_iff.1 h
      exact guardP_iff.2 ⟨hg, someBag_mono (fun n φ h => by
        obtain ⟨xs, ob, h1, h2⟩ := h
        exact ⟨xs, ob, h1, readAt_mono h2 hk⟩) h⟩
    · exact h.elim
  · exact h.elim
theorem reads_load0 (t : TypeId) (x : VV) : Reads H (evLoad0 P t x H) := fun k h => by
  unfold evLoad0 at h ⊢
  split at h
  · split at h
    · obtain ⟨cs, hk, hr⟩ := readPt_reads h
      exact ⟨_, hk, readPt_mono hr fun cs' e => by subst e; exact same_rfl⟩
    · obtain ⟨cs, hk, hr⟩ := readPt_reads h
      split at hk
      · exact ⟨_, hk, readPt_mono hr fun cs' e => by subst e; exact same_rfl⟩
      · exact hk.elim
  · exact h.elim
theorem reads_load (t : TypeId) (x : VV) : Reads H (evLoad P t x H) := fun k h => by
  have pull : ∀ {A : Type} {b j : Nat} {g : A → C}, (anyBag H fun _ φ => ∃ a, boxAt φ b j = some (g a) ∧ k (.c (g a)) H) → ∃ v, k v H ∧ anyBag H fun _ φ => ∃ a, boxAt φ b j = some (g a) ∧ Same H v (.c (g a)) H := fun {A b j g} h => by
    obtain ⟨a, h⟩ := someBag_pull (f := fun a _ φ => boxAt φ b j = some (g a) ∧ k (.c (g a)) H) h
    exact ⟨.c (g a), (anyBag_at h).choose_spec.choose_spec.2.2, someBag_mono (fun n φ h => ⟨a, h.1, same_rfl⟩) h⟩
  unfold evLoad at h ⊢
  split at h
  · rename_i e b i j
    split at h
    · unfold evLoadB at h ⊢
      split at h
      · split at h
        · rename_i kd hkd
          obtain ⟨hg, h⟩ := guardP_iff.1 h
          obtain ⟨a, h⟩ := someBag_pull (f := fun a _ φ => cellsAt φ b = some (K.enc kd a) ∧ k (.agg (K.enc kd a)) H) h
          exact ⟨_, (anyBag_at h).choose_spec.choose_spec.2.2, guardP_iff.2 ⟨hg, someBag_mono (fun n φ h => ⟨a, h.1, same_rfl⟩) h⟩⟩
        · exact reads_load0 t _ k h
      · split at h
        · exact pull h
        · exact pull h
        · exact pull h
        · exact reads_load0 t _ k h
    · exact h.elim
  · exact reads_load0 t _ k h
theorem reads_loadG (t : TypeId) (g : Nat) (c : C) : Reads H (evLoadG P t g c H) := fun k h => by
  unfold evLoadG at h ⊢
  split at h
  · split at h
    · exact h.elim
    · exact ⟨.c c, (anyBag_at h).choose_spec.choose_spec.2.2, someBag_mono (fun n φ h => ⟨h.1, same_rfl⟩) h⟩
  · exact h.elim
theorem reads_fieldAddr (t : TypeId) (x : VV) (i : Nat) : Reads H (evFieldAddr P t x i H) := fun k h => by
  unfold evFieldAddr at h ⊢
  split at h
  · split at h
    · split at h
      · obtain ⟨hg, hk⟩ := guardP_iff.1 h; exact ⟨_, hk, guardP_iff.2 ⟨hg, same_rfl⟩⟩
      · exact h.elim
    · exact h.elim
  · split at h
    · split at h
      · obtain ⟨hg, hk⟩ := guardP_iff.1 h; exact ⟨_, hk, guardP_iff.2 ⟨hg, same_rfl⟩⟩
      · exact h.elim
    · exact h.elim
  · split at h
    · split at h
      · obtain ⟨hg, hk⟩ := guardP_iff.1 h; exact ⟨_, hk, guardP_iff.2 ⟨hg, same_rfl⟩⟩
      · exact h.elim
    · exact h.elim
  · exact h.elim
theorem idxSplit_reads {z : Int} {g : Nat → VV} {k : VV → VH K → Prop} : ∀ {m q : Nat}, idxSplit z (fun q => k (g q) H) m q → (q : Int) ≤ z → z < (q : Int) + m →
    k (g z.toNat) H ∧ idxSplit z (fun q => Same H (g z.toNat) (g q) H) m q
  | 0, q, _, h1, h2 => by omega
  | m + 1, q, h, h1, h2 => by
    simp only [idxSplit] at h ⊢
    by_cases e : z = (q : Int)
    · subst e
      simp only [decide_true, ite2] at h ⊢
      exact ⟨by simpa using h, by simpa using same_rfl⟩
    · simp only [e, decide_false, ite2] at h ⊢
      exact idxSplit_reads h (by omega) (by omega)
theorem reads_indexAddr (t : TypeId) (x i : VV) : Reads H (evIndexAddr P t x i H) := fun k h => by
  unfold evIndexAddr at h ⊢
  split at h
  · split at h
    · obtain ⟨h1, h2, h3, hg⟩ := h
      obtain ⟨hg, hk⟩ := guardP_iff.1 hg
      exact ⟨_, hk, h1, h2, h3, guardP_iff.2 ⟨hg, same_rfl⟩⟩
    · exact h.elim
  · obtain ⟨h1, hg⟩ := h
    obtain ⟨hg, hk⟩ := guardP_iff.1 hg
    exact ⟨_, hk, h1, guardP_iff.2 ⟨hg, same_rfl⟩⟩
  · obtain ⟨h1, hg⟩ := h
    obtain ⟨hg, hk⟩ := guardP_iff.1 hg
    exact ⟨_, hk, h1, guardP_iff.2 ⟨hg, same_rfl⟩⟩
  · rename_i z len e n i j hu
    split at h
    · rename_i inf _
      obtain ⟨h1, h2⟩ := h
      have := idxSplit_reads (g := fun q => VV.c (.ptr n i (j + q * inf.size))) h2 (by simpa using h1.1) (by simpa using h1.2)
      exact ⟨_, this.1, h1, this.2⟩
    · exact h.elim
  · exact h.elim
theorem reads_cut (t : TypeId) (x : VV) (lo hi mx : Option VV) : Reads H (evCut P t x lo hi mx H) := fun k h => by
  unfold evCut at h ⊢
  split at h
  · split at h
    · exact ⟨_, h.2, h.1, same_rfl⟩
    · exact h.elim
  · split at h
    · obtain ⟨hg, h⟩ := guardP_iff.1 h
      split at h
      · exact ⟨_, h.2.2, guardP_iff.2 ⟨hg, h.1, h.2.1, same_rfl⟩⟩
      · split at h
        · exact ⟨_, h.2.2, guardP_iff.2 ⟨hg, h.1, h.2.1, same_rfl⟩⟩
        · exact h.elim
    · exact h.elim
  · split at h
    · obtain ⟨hg, h⟩ := guardP_iff.1 h
      split at h
      · exact ⟨_, h.2, guardP_iff.2 ⟨hg, h.1, same_rfl⟩⟩
      · split at h
        · exact ⟨_, h.2, guardP_iff.2 ⟨hg, h.1, same_rfl⟩⟩
        · exact h.elim
    · exact h.elim
  · exact h.elim
theorem srcK_pick {tx : TypeId} {x : VV} {kd : K.Kd} {f : List (K.α kd) → Prop} (h : srcK P tx x H kd f) : ∃ ys, f ys ∧ ∀ g : List (K.α kd) → Prop, g ys → srcK P tx x H kd g := by
  unfold srcK at h ⊢
  split at h
  · exact ⟨[], h, fun g hg => hg⟩
  · split at h
    · rename_i hl
      obtain ⟨h1, h2⟩ := h
      split at h2
      · rename_i e he
        exact ⟨_, h2, fun g hg => ⟨h1, hg⟩⟩
      · exact h2.elim
    · exact h.elim
  · obtain ⟨hg, h⟩ := guardP_iff.1 h
    obtain ⟨ys, h⟩ := someBag_pull h
    exact ⟨ys, (anyBag_at h).choose_spec.choose_spec.2.2, fun g hg' => guardP_iff.2 ⟨hg, someBag_mono (fun n φ h => ⟨ys, h.1, hg'⟩) h⟩⟩
  · obtain ⟨hg, ys, h1, h2⟩ := guardP_iff.1 h
    exact ⟨ys, h2, fun g hg' => guardP_iff.2 ⟨hg, ys, h1, hg'⟩⟩
  · exact h.elim
theorem readsV_bytes (s : TypeId) (x : VV) (H : VH K) : ReadsV (evBytesStr P K s x H) := fun k h => by
  unfold evBytesStr at h ⊢
  split at h
  · split at h
    · obtain ⟨hg, h⟩ := guardP_iff.1 h
      obtain ⟨ys, ⟨h1, h2⟩, h3⟩ := srcK_pick h
      exact ⟨_, h2, guardP_iff.2 ⟨hg, h3 _ ⟨h1, rfl⟩⟩⟩
    · exact h.elim
  · exact h.elim
theorem reads_op (tab : Tab P K) {fr : List VV} {o : Oper} (hr : isReader o.op = true) : Reads H (evOp tab fr o H) := by
  obtain ⟨dst, op, type, pos, after, guard⟩ := o
  intro k h
  cases op <;> simp only [evOp] at h ⊢ <;> try (cases hr; done)
  case move x => exact ⟨_, h, same_rfl⟩
  case pick c x y =>
    split at h
    · exact Reads.of (readsV_ite (readsV_at _) (readsV_at _)) k h
    · exact h.elim
  case build t ps => exact Reads.of (readsV_build _ _) k h
  case load t x =>
    split at h
    · split at h
      · obtain ⟨v, h1, h2⟩ := reads_loadG t _ _ k h
        exact ⟨v, h1, by assumption⟩
      · exact reads_load t _ k h
    · exact reads_load t _ k h
  case nilCheck x =>
    split at h
    · exact ⟨_, h, same_rfl⟩
    · exact ⟨_, h, same_rfl⟩
    · exact h.elim
  case binOp op t x y t' =>
    split at h
    · exact Reads.of (readsV_guard (readsV_agg _ _ _ _)) k h
    · exact Reads.of (readsV_bin _ _ _ _) k h
  case unOp op t x => exact Reads.of (readsV_un _ _) k h
  case convert src dst x =>
    split at h
    · exact Reads.of (readsV_bytes _ _ _) k h
    · exact Reads.of (readsV_conv _ _ _) k h
  case slice t x lo hi mx => exact reads_cut _ _ _ _ _ k h
  case fieldAddr t x f => exact reads_fieldAddr _ _ _ k h
  case field t x f => exact Reads.of (readsV_field _ _ _) k h
  case indexAddr t x i => exact reads_indexAddr _ _ _ k h
  case index t x i => exact Reads.of (readsV_index _ _ _) k h
  case extract x i => exact Reads.of (readsV_extract _ _) k h
  case call c =>
    obtain ⟨callee, args, ats⟩ := c
    cases callee with
    | builtin b =>
      simp only at h ⊢
      unfold evBuiltin at h ⊢
      split at h
      · exact Reads.of (readsV_len _ _) k h
      · exact Reads.of (readsV_mm _ _ _) k h
      · exact Reads.of (readsV_mm _ _ _) k h
      · cases hr
      · cases hr
      · exact h.elim
    | value f => cases hr
    | invoke x m => cases hr
theorem reads_val (tab : Tab P K) {ops : Array Oper} {fr : List VV} {o : Oper} (hr : isReader o.op = true) : Reads H (evVal tab ops fr o H) := fun k h => by
  unfold evVal at h ⊢
  split at h
  · exact reads_op tab hr k h
  · split at h
    · split at h
      · rename_i b _
        rcases ite2_of h with ⟨rfl, h⟩ | ⟨rfl, h⟩ <;> simp only [ite2] <;> split at h <;> first | exact reads_op tab hr k h | exact ⟨_, h, same_rfl⟩
      · exact ⟨_, h, same_rfl⟩
      · exact h.elim
    · exact h.elim
def maskFrom (U : Nat → Bool) : Nat → VH K → VH K
  | _, [] => []
  | n, a :: l => (match U n with | true => .gone | false => a) :: maskFrom U (n + 1) l
def maskH (U : Nat → Bool) (H : VH K) : VH K := maskFrom U 0 H
theorem maskFrom_len {U : Nat → Bool} : ∀ {n : Nat} {H : VH K}, (maskFrom U n H).length = H.length
  | _, [] => rfl
  | n, a :: l => by simp [maskFrom, maskFrom_len]
theorem maskFrom_at {U : Nat → Bool} : ∀ {n : Nat} {H : VH K} (m : Nat), at_ (maskFrom U n H) m = if U (n + m) then .gone else at_ H m
  | n, [], m => by simp [maskFrom, at_]
  | n, a :: l, 0 => by simp only [maskFrom, at_, List.getD_cons_zero, Nat.add_zero]; cases U n <;> rfl
  | n, a :: l, m + 1 => by
    have := maskFrom_at (U := U) (n := n + 1) (H := l) m
    rw [show n + (m + 1) = n + 1 + m by omega]
    simpa [maskFrom, at_] using this
theorem maskH_len {U : Nat → Bool} : (maskH U H).length = H.length := maskFrom_len
theorem maskH_at {U : Nat → Bool} (m : Nat) : at_ (maskH U H) m = if U m then .gone else at_ H m := by
  have := maskFrom_at (U := U) (n := 0) (H := H) m
  rwa [Nat.zero_add] at this
def restFrom (U : Nat → Bool) (H : VH K) : Nat → VH K → VH K
  | _, [] => []
  | n, a :: l => (match U n with | true => at_ H n | false => a) :: restFrom U H (n + 1) l
def restore (U : Nat → Bool) (H Hm : VH K) : VH K := restFrom U H 0 Hm
theorem restFrom_len {U : Nat → Bool} {H : VH K} : ∀ {n : Nat} {Hm : VH K}, (restFrom U H n Hm).length = Hm.length
  | _, [] => rfl
  | n, a :: l => by simp [restFrom, restFrom_len]
theorem restFrom_at {U : Nat → Bool} {H : VH K} : ∀ {n : Nat} {Hm : VH K} (m : Nat), m < Hm.length → at_ (restFrom U H n Hm) m = if U (n + m) then at_ H (n + m) else at_ Hm m
  | n, a :: l, 0, _ => by simp only [restFrom, at_, List.getD_cons_zero, Nat.add_zero]; cases U n <;> rfl
  | n, a :: l, m + 1, h => by
    have := restFrom_at (U := U) (H := H) (n := n + 1) (Hm := l) m (by simpa using h)
    rw [show n + (m + 1) = n + 1 + m by omega]
    simpa [restFrom, at_] using this
  | n, [], m, h => by simp at h
theorem restore_len {U : Nat → Bool} {Hm : VH K} : (restore U H Hm).length = Hm.length := restFrom_len
theorem restore_at {U : Nat → Bool} {Hm : VH K} (m : Nat) (h : m < Hm.length) : at_ (restore U H Hm) m = if U m then at_ H m else at_ Hm m := by
  have := restFrom_at (U := U) (H := H) (n := 0) (Hm := Hm) m h
  rwa [Nat.zero_add] at this
theorem HeapOK.mask (st : HeapOK S w0 r H w) (U : Nat → Bool) : HeapOK (Ours r (maskH U H)) w r (maskH U H) w := by
  have blk : ∀ n b, blkOf r (maskH U H) n b → U n = false ∧ blkOf r H n b := fun n b hb => by
    unfold blkOf at hb ⊢
    rw [maskH_at] at hb
    cases hU : U n with
    | true => rw [hU] at hb; simp [Atom.has] at hb
    | false => rw [hU] at hb; exact ⟨rfl, by simpa using hb⟩
  refine ⟨fun n => ?_, fun n => ?_, fun n m b hne hb hb' => st.inj n m b hne (blk n b hb).2 (blk m b hb').2, fun n b hb => .inl ⟨n, hb⟩, fun n m b hn hm => st.ro n m b ?_ (blk m b hm).2, Out.refl _ w⟩
  · rw [maskH_at]; split
    · trivial
    · exact st.ok n
  · rw [maskH_at, maskH_len]; split
    · trivial
    · exact st.lt n
  · unfold rbOf at hn ⊢
    rw [maskH_at] at hn
    cases hU : U n with
    | true => rw [hU] at hn; simp [Atom.rb] at hn
    | false => rw [hU] at hn; simpa using hn
/-- What an operation does to what it sees, it does beside what it doesn't see. -/
theorem After.unmask (st : HeapOK S w0 r H w) {U : Nat → Bool} {k : VV → VH K → Prop} {v' : Value} {w' : World} (h : After (Ours r (maskH U H)) w r (maskH U H) k v' w') :
    ∃ r' vv Hm, k vv Hm ∧ vv.is r' v' ∧ vv.lt Hm.length ∧ H.length ≤ Hm.length ∧ (∀ n, n < H.length → r' n = r n) ∧ HeapOK S w0 r' (restore (fun n => U n && Nat.blt n H.length) H Hm) w' := by
  obtain ⟨r', vv, Hm, hk, hv, hl, hle, hr, hrk, st2⟩ := h
  rw [maskH_len] at hle hr
  refine ⟨r', vv, Hm, hk, hv, hl, hle, hr, ?_⟩
  have at3 : ∀ n, n < Hm.length → ¬ (U n = true ∧ n < H.length) → at_ (restore (fun n => U n && Nat.blt n H.length) H Hm) n = at_ Hm n := fun n hn h => by
    rw [restore_at n hn]
    have : (U n && Nat.blt n H.length) = false := by
      cases hU : U n with
      | false => rfl
      | true =>
        cases hb : Nat.blt n H.length with
        | false => rfl
        | true => exact absurd ⟨hU, by simpa [Nat.blt_eq] using hb⟩ h
    rw [this]; simp
  have blkm : ∀ m b, blkOf r (maskH U H) m b → U m = false ∧ m < H.length ∧ blkOf r H m b := fun m b hb => by
    have hlt : m < (maskH U H).length := at_lt fun e => by rw [blkOf, e] at hb; simp [Atom.has] at hb
    rw [maskH_len] at hlt
    unfold blkOf at hb ⊢
    rw [maskH_at] at hb
    cases hU : U m with
    | true => rw [hU] at hb; simp [Atom.has] at hb
    | false => rw [hU] at hb; exact ⟨rfl, hlt, by simpa using hb⟩
  have inb : ∀ n b, blkOf r' (restore (fun n => U n && Nat.blt n H.length) H Hm) n b → n < Hm.length := fun n b hb => by
    have := at_lt (H := restore (fun n => U n && Nat.blt n H.length) H Hm) (n := n) fun e => by rw [blkOf, e] at hb; simp [Atom.has] at hb
    rwa [restore_len] at this
  have free : ∀ n, (U n = false ∨ H.length ≤ n) → ¬ (U n = true ∧ n < H.length) := fun n h hh => by
    rcases h with h | h
    · rw [h] at hh; cases hh.1
    · omega
  refine st.evolve (fun n => U n = false) (fun n hn => ?_) (by rw [restore_len]; exact hle) hr (fun n hn hT => ?_) st2.out.os st2.out.tape st2.out.output st2.out.size (fun b hb hne => ?_) (fun n hn hc => ?_) (fun n b hc hb => ?_) (fun n m b hne hc hc' hb hb' => ?_)
  · have hnl : n < Hm.length := by
      have := at_lt (H := restore (fun n => U n && Nat.blt n H.length) H Hm) (n := n) fun e => by rw [e] at hn; cases hn
      rwa [restore_len] at this
    by_cases hf : U n = true ∧ n < H.length
    · exact ⟨hf.2, by rw [restore_at n hnl]; simp [hf.1, hf.2]⟩
    · rw [at3 n hnl hf] at hn ⊢
      obtain ⟨h1, h2⟩ := hrk n hn
      rw [maskH_len] at h1
      have hU : U n = false := by cases h : U n with | false => rfl | true => exact absurd ⟨h, h1⟩ hf
      rw [maskH_at, hU] at h2
      exact ⟨h1, h2⟩
  · have hU : U n = true := by cases h : U n <;> simp_all
    rw [restore_at n (by omega)]
    simp [hU, hn]
  · refine st2.out.block b hb fun hs => ?_
    obtain ⟨m, hm⟩ := hs
    obtain ⟨h1, _, h2⟩ := blkm m b hm
    exact hne m h1 h2
  · rw [restore_len] at hn ⊢
    rw [at3 n hn (free n hc)]
    exact ⟨st2.ok n, st2.lt n⟩
  · have hn := inb n b hb
    rw [blkOf, at3 n hn (free n hc)] at hb
    rcases st2.own n b hb with ⟨q, hq⟩ | hge
    · obtain ⟨h1, _, h2⟩ := blkm q b hq
      exact .inl ⟨q, h1, h2⟩
    · exact .inr hge
  · have hn := inb n b hb
    have hm := inb m b hb'
    rw [blkOf, at3 n hn (free n hc)] at hb
    rw [blkOf, at3 m hm (free m hc')] at hb'
    exact st2.inj n m b hne hb hb'
end Go.Proofs.YtndlpbheifalhaaGreatDoor.E
end
