/- The state of a walk by names: values, blocks and what lies in them, told apart from addresses; how such a state stands in a world, and how it goes on. -/
import Derived.Laws.AppendOwn
import Derived.Laws.OwnMore
import Derived.Deep.MidRow
import Derived.Calls
namespace Go.Proofs.YtndlpbheifalhaaGreatDoor.E
set_option linter.unusedVariables false
set_option linter.unusedSimpArgs false
/-- A slice that is known by its place: block, first element, length, capacity. -/
inductive RS where
  | nil
  | mk (b lo len cap : Nat)
  deriving DecidableEq
def RS.len : RS → Nat
  | .nil => 0
  | .mk _ _ n _ => n
def RS.blk : RS → Nat
  | .nil => 0
  | .mk b _ _ _ => b
def RS.lo : RS → Nat
  | .nil => 0
  | .mk _ l _ _ => l
def RS.cap : RS → Nat
  | .nil => 0
  | .mk _ _ _ c => c
def RS.val (sz : Nat) : RS → Value
  | .nil => .slice none 0 0
  | .mk b lo n c => .slice (some ⟨b, lo * sz, none⟩) n c
theorem RS.val_one (sz : Nat) (x : RS) : (x.val sz).oneCell' = true := by cases x <;> rfl
/-- One cell's value: a pointer names a block, an element and a place in it; a slice names a block, its first element, its length and (if it is told) its capacity. -/
inductive C where
  | bool (b : Bool) | int (k : IntKind) (n : Int) | str (s : ByteArray)
  | ptr (n i j : Nat) | nilp | slc (n lo len : Nat) (cap : Option Nat) | nils | lit (v : Value)
  | rs (e : TypeId) (sz : Nat) (x : RS) | rp (e : TypeId) (sz b i j : Nat) | fn (f : FuncId) (caps : List (TypeId × Nat))
/-- What a name stands for. -/
structure Ref where
  blk : Nat
  sz : Nat
  cap : Nat
  nl : Bool
  off : Nat
def C.nm : C → Option Nat
  | .ptr n _ _ => some n
  | .slc n _ _ _ => some n
  | _ => none
def C.plain : C → Value
  | .bool b => .bool b
  | .int k n => .int k n
  | .str s => .string s
  | .ptr _ _ _ => .pointer none
  | .nilp => .pointer none
  | .slc _ _ _ _ => .slice none 0 0
  | .nils => .slice none 0 0
  | .lit v => v
  | .rs _ sz x => x.val sz
  | .rp _ sz b i j => .pointer (some ⟨b, i * sz + j, none⟩)
  | .fn f caps => .func (.func f) #[] (caps.map fun p => Value.pointer (some ⟨p.2, 0, none⟩)).toArray
def C.one : C → Bool
  | .lit v => v.oneCell'
  | _ => true
def C.is (r : Nat → Ref) : C → Value → Prop
  | .ptr n i j, v => v = .pointer (some ⟨(r n).blk, (r n).off + (i * (r n).sz + j), none⟩)
  | .slc n lo len cap, v => ∃ a, v = .slice a len (cap.getD ((r n).cap - lo)) ∧
      ((lo ≠ 0 ∧ cap.getD ((r n).cap - lo) = 0) ∨ a = if (r n).nl then none else some ⟨(r n).blk, (r n).off + lo * (r n).sz, none⟩)
  | c, v => v = c.plain
def C.lt (N : Nat) (c : C) : Prop := ∀ n, c.nm = some n → n < N
theorem C.is_congr {r r' : Nat → Ref} {N : Nat} {c : C} {v : Value} (hl : c.lt N) (h : ∀ n, n < N → r' n = r n) (hc : c.is r v) : c.is r' v := by
  cases c with
  | ptr n i j => have := h n (hl n rfl); simp only [C.is] at hc ⊢; rw [this]; exact hc
  | slc n lo len cap => have := h n (hl n rfl); simp only [C.is] at hc ⊢; rw [this]; exact hc
  | _ => exact hc
theorem C.lt_mono {N M : Nat} {c : C} (h : c.lt N) (le : N ≤ M) : c.lt M := fun n hn => Nat.lt_of_lt_of_le (h n hn) le
theorem C.is_plain {r : Nat → Ref} {c : C} (h : c.nm = none) (v : Value) : c.is r v ↔ v = c.plain := by
  cases c <;> simp_all [C.is, C.nm]
theorem C.one_is {r : Nat → Ref} {c : C} {v : Value} (h1 : c.one = true) (h : c.is r v) : v.oneCell' = true := by
  cases c <;> simp only [C.is] at h
  case ptr => subst h; rfl
  case slc => obtain ⟨a, rfl, _⟩ := h; rfl
  case lit => subst h; exact h1
  case rs _ _ x => subst h; cases x <;> rfl
  all_goals (subst h; rfl)
theorem C.plain_one {c : C} (h : c.one = true) : c.plain.oneCell' = true := by
  cases c <;> first | rfl | exact h | exact RS.val_one _ _
/-- A value: one cell's, cells' (a struct, an array), several. -/
inductive V1 where
  | c (x : C) | agg (l : List C)
inductive VV where
  | one (x : V1) | tup (l : List V1) | any
abbrev VV.c (x : C) : VV := .one (.c x)
abbrev VV.agg (l : List C) : VV := .one (.agg l)
/-- A list of cells stands for a list of values. -/
def Rel (r : Nat → Ref) : List C → List Value → Prop
  | [], [] => True
  | c :: cs, v :: vs => c.is r v ∧ Rel r cs vs
  | _, _ => False
theorem Rel.length {r : Nat → Ref} : ∀ {cs : List C} {vs : List Value}, Rel r cs vs → vs.length = cs.length
  | [], [], _ => rfl
  | c :: cs, v :: vs, h => by simp [Rel.length h.2]
  | [], _ :: _, h => h.elim
  | _ :: _, [], h => h.elim
theorem Rel.get {r : Nat → Ref} : ∀ {cs : List C} {vs : List Value}, Rel r cs vs → ∀ (j : Nat) (c : C), cs[j]? = some c → ∃ v, vs[j]? = some v ∧ c.is r v
  | c :: cs, v :: vs, h, 0, _, e => by simp at e; subst e; exact ⟨v, rfl, h.1⟩
  | c :: cs, v :: vs, h, j + 1, c', e => by simpa using h.2.get j c' (by simpa using e)
  | [], _, _, _, _, e => by simp at e
  | _ :: _, [], h, _, _, _ => h.elim
theorem Rel.drop {r : Nat → Ref} : ∀ (j : Nat) {cs : List C} {vs : List Value}, Rel r cs vs → Rel r (cs.drop j) (vs.drop j)
  | 0, _, _, h => by simpa using h
  | j + 1, [], [], _ => by simp [Rel]
  | j + 1, c :: cs, v :: vs, h => by simpa using Rel.drop j h.2
  | j + 1, [], _ :: _, h => h.elim
  | j + 1, _ :: _, [], h => h.elim
theorem Rel.take {r : Nat → Ref} : ∀ (j : Nat) {cs : List C} {vs : List Value}, Rel r cs vs → Rel r (cs.take j) (vs.take j)
  | 0, _, _, h => by simp [Rel]
  | j + 1, [], [], _ => by simp [Rel]
  | j + 1, c :: cs, v :: vs, h => by simpa using ⟨h.1, Rel.take j h.2⟩
  | j + 1, [], _ :: _, h => h.elim
  | j + 1, _ :: _, [], h => h.elim
theorem Rel.append {r : Nat → Ref} : ∀ {cs ds : List C} {vs us : List Value}, Rel r cs vs → Rel r ds us → Rel r (cs ++ ds) (vs ++ us)
  | [], _, [], _, _, h => h
  | c :: cs, _, v :: vs, _, h, k => ⟨h.1, Rel.append h.2 k⟩
  | [], _, _ :: _, _, h, _ => h.elim
  | _ :: _, _, [], _, h, _ => h.elim
theorem Rel.congr {r r' : Nat → Ref} {N : Nat} (h : ∀ n, n < N → r' n = r n) : ∀ {cs : List C} {vs : List Value}, (∀ c ∈ cs, c.lt N) → Rel r cs vs → Rel r' cs vs
  | [], [], _, _ => trivial
  | c :: cs, v :: vs, hl, hr => ⟨C.is_congr (hl c (by simp)) h hr.1, Rel.congr h (fun c hc => hl c (by simp [hc])) hr.2⟩
  | [], _ :: _, _, h => h.elim
  | _ :: _, [], _, h => h.elim
theorem Rel.one {r : Nat → Ref} : ∀ {cs : List C} {vs : List Value}, (∀ c ∈ cs, c.one = true) → Rel r cs vs → ∀ v ∈ vs, v.oneCell' = true
  | [], [], _, _, _, h => by simp at h
  | c :: cs, v :: vs, hl, hr, u, hu => by
    rcases List.mem_cons.1 hu with rfl | hu
    · exact C.one_is (hl c (by simp)) hr.1
    · exact Rel.one (fun c hc => hl c (by simp [hc])) hr.2 u hu
  | [], _ :: _, _, h, _, _ => h.elim
  | _ :: _, [], _, h, _, _ => h.elim
theorem Rel.plain {r : Nat → Ref} : ∀ {cs : List C}, (∀ c ∈ cs, c.nm = none) → Rel r cs (cs.map C.plain)
  | [], _ => trivial
  | c :: cs, h => ⟨(C.is_plain (h c (by simp)) _).2 rfl, Rel.plain fun c hc => h c (by simp [hc])⟩
theorem Rel.of_plain {r : Nat → Ref} : ∀ {cs : List C} {vs : List Value}, (∀ c ∈ cs, c.nm = none) → Rel r cs vs → vs = cs.map C.plain
  | [], [], _, _ => rfl
  | c :: cs, v :: vs, h, hr => by rw [List.map_cons, Rel.of_plain (fun c hc => h c (by simp [hc])) hr.2, (C.is_plain (h c (by simp)) _).1 hr.1]
  | [], _ :: _, _, h => h.elim
  | _ :: _, [], _, h => h.elim
def V1.is (r : Nat → Ref) : V1 → Value → Prop
  | .c x, v => x.is r v
  | .agg l, v => ∃ vs, v = .agg vs.toArray ∧ Rel r l vs
def V1.lt (N : Nat) : V1 → Prop
  | .c x => x.lt N
  | .agg l => ∀ c ∈ l, c.lt N
def RelV (r : Nat → Ref) : List V1 → List Value → Prop
  | [], [] => True
  | c :: cs, v :: vs => c.is r v ∧ RelV r cs vs
  | _, _ => False
def VV.is (r : Nat → Ref) : VV → Value → Prop
  | .one x, v => x.is r v
  | .tup l, v => ∃ vs, v = .tuple vs.toArray ∧ RelV r l vs
  | .any, _ => True
def VV.lt (N : Nat) : VV → Prop
  | .one x => x.lt N
  | .tup l => ∀ c ∈ l, c.lt N
  | .any => True
theorem V1.lt_mono {N M : Nat} {c : V1} (h : c.lt N) (le : N ≤ M) : c.lt M := by
  cases c with
  | c x => exact C.lt_mono h le
  | agg l => exact fun c hc => C.lt_mono (h c hc) le
theorem VV.lt_mono {N M : Nat} {c : VV} (h : c.lt N) (le : N ≤ M) : c.lt M := by
  cases c with
  | one x => exact V1.lt_mono h le
  | tup l => exact fun c hc => V1.lt_mono (h c hc) le
  | any => trivial
theorem V1.is_congr {r r' : Nat → Ref} {N : Nat} {c : V1} {v : Value} (hl : c.lt N) (h : ∀ n, n < N → r' n = r n) (hc : c.is r v) : c.is r' v := by
  cases c with
  | c x => exact C.is_congr hl h hc
  | agg l => obtain ⟨vs, e, hr⟩ := hc; exact ⟨vs, e, Rel.congr h hl hr⟩
theorem RelV.congr {r r' : Nat → Ref} {N : Nat} (h : ∀ n, n < N → r' n = r n) : ∀ {cs : List V1} {vs : List Value}, (∀ c ∈ cs, c.lt N) → RelV r cs vs → RelV r' cs vs
  | [], [], _, _ => trivial
  | c :: cs, v :: vs, hl, hr => ⟨V1.is_congr (hl c (by simp)) h hr.1, RelV.congr h (fun c hc => hl c (by simp [hc])) hr.2⟩
  | [], _ :: _, _, h => h.elim
  | _ :: _, [], _, h => h.elim
theorem RelV.get {r : Nat → Ref} : ∀ {cs : List V1} {vs : List Value}, RelV r cs vs → ∀ (j : Nat) (c : V1), cs[j]? = some c → ∃ v, vs[j]? = some v ∧ c.is r v
  | c :: cs, v :: vs, h, 0, _, e => by simp at e; subst e; exact ⟨v, rfl, h.1⟩
  | c :: cs, v :: vs, h, j + 1, c', e => by simpa using h.2.get j c' (by simpa using e)
  | [], _, _, _, _, e => by simp at e
  | _ :: _, [], h, _, _, _ => h.elim
theorem VV.is_congr {r r' : Nat → Ref} {N : Nat} {c : VV} {v : Value} (hl : c.lt N) (h : ∀ n, n < N → r' n = r n) (hc : c.is r v) : c.is r' v := by
  cases c with
  | one x => exact V1.is_congr hl h hc
  | tup l => obtain ⟨vs, e, hr⟩ := hc; exact ⟨vs, e, RelV.congr h hl hr⟩
  | any => trivial
/-- The kinds of elements that lists are read as: data without addresses. -/
structure Kinds where
  Kd : Type
  deq : DecidableEq Kd
  α : Kd → Type
  size : Kd → Nat
  elem : Kd → TypeId
  enc : (k : Kd) → α k → List C
  dec : (k : Kd) → List C → Option (α k)
  dflt : (k : Kd) → α k
  ofType : TypeId → Option Kd
structure Kinds.Ok (K : Kinds) : Prop where
  pos : ∀ k, 0 < K.size k
  len : ∀ k x, (K.enc k x).length = K.size k
  one : ∀ k x, ∀ c ∈ K.enc k x, c.one = true
  nm : ∀ k x, ∀ c ∈ K.enc k x, c.nm = none
  dec : ∀ k cs x, K.dec k cs = some x → K.enc k x = cs
/-- What lies in a block that is known by its place: a row (with its room), or cells. -/
inductive BI (K : Kinds) where
  | row (k : K.Kd) (cap : Nat) (xs : List (K.α k))
  | box (T : TypeId) (cs : List C)
  | tab (T : TypeId) (p : Nat × Nat) (cs : List C)
/-- Blocks that are known by their places. -/
abbrev Bag (K : Kinds) := Nat → Option (BI K)
/-- What lies in a block. -/
inductive Atom (K : Kinds) where
  | gone
  | cells (T : TypeId) (cs : List C)
  | arr (k : K.Kd) (xs : List (K.α k))
  | ro (k : K.Kd) (xs : List (K.α k))
  | bag (φ : Bag K)
variable {K : Kinds}
def flat (k : K.Kd) (xs : List (K.α k)) : List C := xs.flatMap (K.enc k)
def Ref.val (r : Ref) (n : Nat) : Value := .slice (if r.nl then none else some ⟨r.blk, 0, none⟩) n r.cap
def BI.ok (b : Nat) (w : World) : BI K → Prop
  | .row k cap xs => w.ownsRow 0 (K.elem k) (K.size k) (.slice (some ⟨b, 0, none⟩) xs.length cap) xs.length ((flat k xs).map C.plain)
  | .box T cs => (∀ c ∈ cs, c.nm = none ∧ c.one = true) ∧ w.heap[b]? = some (.cells (cs.map C.plain).toArray T (0, 0))
  | .tab T p cs => (∀ c ∈ cs, c.nm = none ∧ c.one = true) ∧ w.heap[b]? = some (.cells (cs.map C.plain).toArray T p)
/-- The cells of a block that isn't a row. -/
def cellsAt (φ : Bag K) (b : Nat) : Option (List C) := match φ b with
  | some (.box _ cs) => some cs
  | some (.tab _ _ cs) => some cs
  | _ => none
theorem cellsAt_box {φ : Bag K} {b : Nat} {T : TypeId} {cs : List C} (h : φ b = some (.box T cs)) : cellsAt φ b = some cs := by simp [cellsAt, h]
theorem cellsAt_tab {φ : Bag K} {b : Nat} {T : TypeId} {p : Nat × Nat} {cs : List C} (h : φ b = some (.tab T p cs)) : cellsAt φ b = some cs := by simp [cellsAt, h]
theorem cellsAt_of {φ : Bag K} {b : Nat} {cs : List C} (h : cellsAt φ b = some cs) : ∃ i, φ b = some i ∧ ∀ w : World, i.ok b w → (∀ c ∈ cs, c.nm = none ∧ c.one = true) ∧ ∃ T p, w.heap[b]? = some (.cells (cs.map C.plain).toArray T p) := by
  unfold cellsAt at h
  split at h
  · rename_i T cs' hφ
    injection h with h
    subst h
    exact ⟨_, hφ, fun w hw => ⟨hw.1, _, _, hw.2⟩⟩
  · rename_i T p cs' hφ
    injection h with h
    subst h
    exact ⟨_, hφ, fun w hw => ⟨hw.1, _, _, hw.2⟩⟩
  · cases h
theorem BI.ok_lt {b : Nat} {w : World} {i : BI K} (h : i.ok b w) : b < w.heap.size := by
  cases i with
  | row k cap xs => exact (World.ownsRow.lt h b (by simp [Value.ownBlock])).2
  | box T cs => exact (Array.getElem?_eq_some_iff.1 h.2).1
  | tab T p cs => exact (Array.getElem?_eq_some_iff.1 h.2).1
theorem BI.ok_keep {b : Nat} {w w' : World} {i : BI K} (h : i.ok b w) (hb : w'.heap[b]? = w.heap[b]?) : i.ok b w' := by
  cases i with
  | row k cap xs =>
    obtain ⟨h3, h4⟩ := h
    refine ⟨h3, ?_⟩
    rcases h4 with h4 | ⟨g, cap', cur, hv, hbase, hg, rest⟩
    · exact .inl h4
    · have hgb : b = g := by simp at hv; exact hv.1
      subst hgb
      exact .inr ⟨b, cap', cur, hv, hbase, by rw [hb]; exact hg, rest⟩
  | box T cs => exact ⟨h.1, by rw [hb]; exact h.2⟩
  | tab T p cs => exact ⟨h.1, by rw [hb]; exact h.2⟩
def Atom.ok (r : Nat → Ref) (x : Ref) (w : World) : Atom K → Prop
  | .gone => True
  | .cells T cs => (x.nl = false ∧ x.off = 0) ∧ ∃ vs : List Value, w.heap[x.blk]? = some (.cells vs.toArray T (0, 0)) ∧ Rel r cs vs
  | .arr k xs => (x.sz = K.size k ∧ x.off = 0) ∧ (x.nl = true → x.cap = 0) ∧ w.ownsRow 0 (K.elem k) (K.size k) (x.val xs.length) xs.length ((flat k xs).map C.plain)
  | .ro k xs => x.sz = K.size k ∧ xs.length ≤ x.cap ∧ (x.nl = true → x.cap = 0) ∧ (xs ≠ [] → x.blk < w.heap.size ∧ ∀ j u, ((flat k xs).map C.plain)[j]? = some u → w.cell? ⟨x.blk, x.off + j, none⟩ = some u)
  | .bag φ => ∀ b i, φ b = some i → i.ok b w
def Atom.lt (N : Nat) : Atom K → Prop
  | .cells _ cs => ∀ c ∈ cs, c.lt N ∧ c.one = true
  | _ => True
def Atom.has (x : Ref) : Atom K → Nat → Prop
  | .gone, _ => False
  | .cells _ _, b => x.blk = b
  | .arr _ _, b => x.nl = false ∧ x.blk = b
  | .ro _ _, _ => False
  | .bag φ, b => ∃ i, φ b = some i
def Atom.rb (x : Ref) : Atom K → Option Nat
  | .ro _ (_ :: _) => some x.blk
  | _ => none
def Atom.isRo : Atom K → Bool
  | .ro _ _ => true
  | _ => false
def Atom.lst : Atom K → Option (Σ k, List (K.α k))
  | .arr k xs => some ⟨k, xs⟩
  | .ro k xs => some ⟨k, xs⟩
  | _ => none
abbrev VH (K : Kinds) := List (Atom K)
def at_ (H : VH K) (n : Nat) : Atom K := H.getD n .gone
def blkOf (r : Nat → Ref) (H : VH K) (n : Nat) : Nat → Prop := (at_ H n).has (r n)
def rbOf (r : Nat → Ref) (H : VH K) (n : Nat) : Option Nat := (at_ H n).rb (r n)
/-- What is only read is there from the start. -/
def RoKeep (H H' : VH K) : Prop := ∀ n, (at_ H' n).isRo = true → n < H.length ∧ at_ H' n = at_ H n
theorem RoKeep.refl (H : VH K) : RoKeep H H := fun n h => ⟨by
  rcases Nat.lt_or_ge n H.length with h' | h'
  · exact h'
  · simp [at_, List.getD_eq_getElem?_getD, List.getElem?_eq_none h', Atom.isRo] at h, rfl⟩
/-- All but the blocks of S is as it was at the start. -/
structure Out (S : Nat → Prop) (w0 w : World) : Prop where
  os : w.os = w0.os
  tape : w.tape = w0.tape
  output : w.output = w0.output
  size : w0.heap.size ≤ w.heap.size
  block : ∀ b, b < w0.heap.size → ¬ S b → w.heap[b]? = w0.heap[b]?
structure HeapOK (S : Nat → Prop) (w0 : World) (r : Nat → Ref) (H : VH K) (w : World) : Prop where
  ok : ∀ n, (at_ H n).ok r (r n) w
  lt : ∀ n, (at_ H n).lt H.length
  inj : ∀ n m b, n ≠ m → blkOf r H n b → ¬ blkOf r H m b
  own : ∀ n b, blkOf r H n b → S b ∨ w0.heap.size ≤ b
  ro : ∀ n m b, rbOf r H n = some b → ¬ blkOf r H m b
  out : Out S w0 w
theorem blk_lt {r : Nat → Ref} {H : VH K} {w : World} {n b : Nat} (h : (at_ H n).ok r (r n) w) (hb : blkOf r H n b) : b < w.heap.size := by
  unfold blkOf at hb
  cases ha : at_ H n with
  | gone => simp [ha, Atom.has] at hb
  | cells T cs =>
    simp [ha, Atom.has] at hb; subst hb
    rw [ha] at h
    obtain ⟨_, vs, hv, _⟩ := h
    exact (Array.getElem?_eq_some_iff.1 hv).1
  | arr k xs =>
    rw [ha] at h hb
    obtain ⟨_, _, ho⟩ := h
    obtain ⟨hn, hb⟩ := hb
    subst hb
    exact (World.ownsRow.lt ho (r n).blk (by simp [Ref.val, hn, Value.ownBlock])).2
  | ro k xs => simp [ha, Atom.has] at hb
  | bag φ =>
    rw [ha] at h hb
    obtain ⟨i, hi⟩ := hb
    exact BI.ok_lt (h b i hi)
theorem rb_lt {r : Nat → Ref} {H : VH K} {w : World} {n b : Nat} (h : (at_ H n).ok r (r n) w) (hb : rbOf r H n = some b) : b < w.heap.size := by
  unfold rbOf at hb
  cases ha : at_ H n with
  | ro k xs =>
    rw [ha] at h hb
    cases xs with
    | nil => simp [Atom.rb] at hb
    | cons x xs => simp only [Atom.rb, Option.some.injEq] at hb; subst hb; exact (h.2.2.2 (by simp)).1
  | _ => rw [ha] at hb; simp [Atom.rb] at hb
theorem at_lt {H : VH K} {n : Nat} (h : at_ H n ≠ .gone) : n < H.length := by
  rcases Nat.lt_or_ge n H.length with h' | h'
  · exact h'
  · exact absurd (by simp [at_, List.getD_eq_getElem?_getD, List.getElem?_eq_none h']) h
theorem at_ge {H : VH K} {n : Nat} (h : H.length ≤ n) : at_ H n = .gone := by simp [at_, List.getD_eq_getElem?_getD, List.getElem?_eq_none h]
theorem Atom.lt_mono {N M : Nat} {a : Atom K} (h : a.lt N) (le : N ≤ M) : a.lt M := by
  cases a with
  | cells T cs => exact fun c hc => ⟨C.lt_mono (h c hc).1 le, (h c hc).2⟩
  | _ => trivial
/-- What an atom says goes on where its block stays and its names keep their meaning. -/
theorem Atom.ok_keep {r r' : Nat → Ref} {N : Nat} {x : Ref} {w w' : World} {a : Atom K} (h : a.ok r x w) (hl : a.lt N) (hr : ∀ n, n < N → r' n = r n)
    (hb : ∀ b, a.has x b → w'.heap[b]? = w.heap[b]?) (hrb : ∀ b, a.rb x = some b → w'.heap[b]? = w.heap[b]?) : a.ok r' x w' := by
  cases a with
  | gone => trivial
  | cells T cs =>
    obtain ⟨hn, vs, hv, hr'⟩ := h
    exact ⟨hn, vs, by rw [hb x.blk rfl]; exact hv, Rel.congr hr (fun c hc => (hl c hc).1) hr'⟩
  | arr k xs =>
    obtain ⟨h1, h2, h3, h4⟩ := h
    refine ⟨h1, h2, h3, ?_⟩
    rcases h4 with h4 | ⟨g, cap, cur, hv, hbase, hg, rest⟩
    · exact .inl h4
    · refine .inr ⟨g, cap, cur, hv, hbase, ?_, rest⟩
      have hnl : x.nl = false := by
        cases hx : x.nl with
        | false => rfl
        | true => simp [Ref.val, hx] at hv
      have hgb : x.blk = g := by simp [Ref.val, hnl] at hv; exact hv.1
      rw [hb g (show x.nl = false ∧ x.blk = g from ⟨hnl, hgb⟩)]
      exact hg
  | ro k xs =>
    obtain ⟨h1, h2, h3, h4⟩ := h
    refine ⟨h1, h2, h3, fun hne => ?_⟩
    obtain ⟨h5, h6⟩ := h4 hne
    have he := hrb x.blk (by cases xs with | nil => exact absurd rfl hne | cons => rfl)
    refine ⟨?_, fun j u hj => ?_⟩
    · have h7 : w.heap[x.blk]? = some w.heap[x.blk] := Array.getElem?_eq_getElem h5
      rw [← he] at h7
      exact (Array.getElem?_eq_some_iff.1 h7).1
    · have := h6 j u hj
      simp only [World.cell?, he] at this ⊢
      exact this
  | bag φ => exact fun b i hi => BI.ok_keep (h b i hi) (hb b ⟨i, hi⟩)
/-- The state goes on: the names of T, and new ones, are told anew; what else there is stays. -/
theorem HeapOK.evolve {S : Nat → Prop} {w0 w w' : World} {r r' : Nat → Ref} {H H' : VH K} (h : HeapOK S w0 r H w) (T : Nat → Prop)
    (hro : RoKeep H H') (hlen : H.length ≤ H'.length) (hr : ∀ n, n < H.length → r' n = r n) (hH : ∀ n, n < H.length → ¬ T n → at_ H' n = at_ H n)
    (os : w'.os = w.os) (tape : w'.tape = w.tape) (output : w'.output = w.output) (size : w.heap.size ≤ w'.heap.size)
    (hw : ∀ b, b < w.heap.size → (∀ n, T n → ¬ blkOf r H n b) → w'.heap[b]? = w.heap[b]?)
    (hok : ∀ n, n < H'.length → (T n ∨ H.length ≤ n) → (at_ H' n).ok r' (r' n) w' ∧ (at_ H' n).lt H'.length)
    (hblk : ∀ n b, (T n ∨ H.length ≤ n) → blkOf r' H' n b → (∃ m, T m ∧ blkOf r H m b) ∨ w.heap.size ≤ b)
    (hinj : ∀ n m b, n ≠ m → (T n ∨ H.length ≤ n) → (T m ∨ H.length ≤ m) → blkOf r' H' n b → ¬ blkOf r' H' m b) : HeapOK S w0 r' H' w' := by
  have old : ∀ n, n < H.length → ¬ T n → blkOf r' H' n = blkOf r H n := fun n hn ht => by unfold blkOf; rw [hH n hn ht, hr n hn]
  have cases_ : ∀ n, (n < H.length ∧ ¬ T n) ∨ (T n ∨ H.length ≤ n) := fun n => by
    by_cases ht : T n
    · exact .inr (.inl ht)
    · rcases Nat.lt_or_ge n H.length with h' | h'
      · exact .inl ⟨h', ht⟩
      · exact .inr (.inr h')
  have keepb : ∀ n b, n < H.length → ¬ T n → blkOf r H n b → w'.heap[b]? = w.heap[b]? := fun n b hn ht hb =>
    hw b (blk_lt (h.ok n) hb) fun m hm hm' => h.inj n m b (fun e => ht (e ▸ hm)) hb hm'
  have keepr : ∀ n b, rbOf r H n = some b → w'.heap[b]? = w.heap[b]? := fun n b hb =>
    hw b (rb_lt (h.ok n) hb) fun m hm hm' => h.ro n m b hb hm'
  refine ⟨fun n => ?_, fun n => ?_, fun n m b hne hn hm => ?_, fun n b hb => ?_, fun n m b hn hm => ?_, ?_⟩
  · rcases cases_ n with ⟨hn, ht⟩ | hc
    · rw [hH n hn ht, hr n hn]
      exact Atom.ok_keep (h.ok n) (h.lt n) hr (fun b hb => keepb n b hn ht hb) (fun b hb => keepr n b hb)
    · rcases Nat.lt_or_ge n H'.length with h' | h'
      · exact (hok n h' hc).1
      · rw [at_ge h']; trivial
  · rcases cases_ n with ⟨hn, ht⟩ | hc
    · rw [hH n hn ht]; exact Atom.lt_mono (h.lt n) hlen
    · rcases Nat.lt_or_ge n H'.length with h' | h'
      · exact (hok n h' hc).2
      · rw [at_ge h']; trivial
  · rcases cases_ n with ⟨hn', ht⟩ | hc <;> rcases cases_ m with ⟨hm', ht'⟩ | hc'
    · rw [old n hn' ht] at hn; rw [old m hm' ht'] at hm; exact h.inj n m b hne hn hm
    · rw [old n hn' ht] at hn
      rcases hblk m b hc' hm with ⟨q, hq, hqb⟩ | hge
      · exact h.inj n q b (fun e => ht (e ▸ hq)) hn hqb
      · exact absurd (blk_lt (h.ok n) hn) (by omega)
    · rw [old m hm' ht'] at hm
      rcases hblk n b hc hn with ⟨q, hq, hqb⟩ | hge
      · exact h.inj m q b (fun e => ht' (e ▸ hq)) hm hqb
      · exact absurd (blk_lt (h.ok m) hm) (by omega)
    · exact hinj n m b hne hc hc' hn hm
  · rcases cases_ n with ⟨hn, ht⟩ | hc
    · rw [old n hn ht] at hb; exact h.own n b hb
    · rcases hblk n b hc hb with ⟨q, hq, hqb⟩ | hge
      · exact h.own q b hqb
      · exact .inr (Nat.le_trans h.out.size hge)
  · have hisro : (at_ H' n).isRo = true := by
      unfold rbOf at hn
      cases ha : at_ H' n <;> rw [ha] at hn <;> first | rfl | (simp [Atom.rb] at hn)
    obtain ⟨hnl, hnat⟩ := hro n hisro
    have hn' : rbOf r H n = some b := by unfold rbOf at hn ⊢; rw [← hnat, ← hr n hnl]; exact hn
    rcases cases_ m with ⟨hm', ht⟩ | hc
    · rw [old m hm' ht] at hm; exact h.ro n m b hn' hm
    · rcases hblk m b hc hm with ⟨q, hq, hqb⟩ | hge
      · exact h.ro n q b hn' hqb
      · exact absurd (rb_lt (h.ok n) hn') (by omega)
  · refine ⟨os.trans h.out.os, tape.trans h.out.tape, output.trans h.out.output, Nat.le_trans h.out.size size, fun b hb hs => ?_⟩
    rw [hw b (Nat.lt_of_lt_of_le hb h.out.size) (fun n hn hnb => ?_)]
    · exact h.out.block b hb hs
    · rcases h.own n b hnb with h' | h'
      · exact hs h'
      · omega
end Go.Proofs.YtndlpbheifalhaaGreatDoor.E
