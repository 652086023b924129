/- Text 1 of 13 texts that prove the statement of Vx; it holds without conditions beyond the statement's own. -/
import Derived.Laws.AppendOwn
import Derived.Laws.OwnMore
import Derived.Deep.MidRow
import Derived.Calls
namespace Go.Proofs.YtndlpbheifalhaaGreatDoor
end Go.Proofs.YtndlpbheifalhaaGreatDoor
namespace Go.Proofs.YtndlpbheifalhaaGreatDoor.E
end Go.Proofs.YtndlpbheifalhaaGreatDoor.E
namespace Go.Proofs.YtndlpbheifalhaaGreatDoor.T
end Go.Proofs.YtndlpbheifalhaaGreatDoor.T
namespace Go.Proofs.YtndlpbheifalhaaGreatDoor.TwireMany
end Go.Proofs.YtndlpbheifalhaaGreatDoor.TwireMany
namespace Go.Proofs.YtndlpbheifalhaaGreatDoor.V
end Go.Proofs.YtndlpbheifalhaaGreatDoor.V
section
namespace Go.Proofs.YtndlpbheifalhaaGreatDoor.E
set_option linter.unusedVariables false
set_option linter.unusedSimpArgs false
/-- A slice that is known by its place: block, first element, length, capacity. -/
inductive RS where
  | nil
  | mk (b lo len cap : Nat)
  deriving DecidableEq
def RS.len : RS → Nat
  | .nil => 0
  | .mk _ _ n _ => n
def RS.blk : RS → Nat
  | .nil => 0
  | .mk b _ _ _ => b
def RS.lo : RS → Nat
  | .nil => 0
  | .mk _ l _ _ => l
def RS.cap : RS → Nat
  | .nil => 0
  | .mk _ _ _ c => c
def RS.val (sz : Nat) : RS → Value
  | .nil => .slice none 0 0
  | .mk b lo n c => .slice (some ⟨b, lo * sz, none⟩) n c
theorem RS.val_one (sz : Nat) (x : RS) : (x.val sz).oneCell' = true := by cases x <;> rfl
/-- One cell's value: a pointer names a block, an element and a place in it; a slice names a block, its first element, its length and (if it is told) its capacity. -/
inductive C where
  | bool (b : Bool) | int (k : IntKind) (n : Int) | str (s : ByteArray)
  | ptr (n i j : Nat) | nilp | slc (n lo len : Nat) (cap : Option Nat) | nils | lit (v : Value)
  | rs (e : TypeId) (sz : Nat) (x : RS) | rp (e : TypeId) (sz b i j : Nat) | fn (f : FuncId) (caps : List (TypeId × Nat))
  | ls (e : TypeId) (b o len cap : Nat) | lp (e : TypeId) (sz b o i j : Nat)
/-- What a name stands for. -/
structure Ref where
  blk : Nat
  sz : Nat
  cap : Nat
  nl : Bool
  off : Nat
def C.nm : C → Option Nat
  | .ptr n _ _ => some n
  | .slc n _ _ _ => some n
  | _ => none
def C.plain : C → Value
  | .bool b => .bool b
  | .int k n => .int k n
  | .str s => .string s
  | .ptr _ _ _ => .pointer none
  | .nilp => .pointer none
  | .slc _ _ _ _ => .slice none 0 0
  | .nils => .slice none 0 0
  | .lit v => v
  | .rs _ sz x => x.val sz
  | .rp _ sz b i j => .pointer (some ⟨b, i * sz + j, none⟩)
  | .ls _ b o n c => .slice (some ⟨b, o, none⟩) n c
  | .lp _ sz b o i j => .pointer (some ⟨b, o + (i * sz + j), none⟩)
  | .fn f caps => .func (.func f) #[] (caps.map fun p => Value.pointer (some ⟨p.2, 0, none⟩)).toArray
def C.one : C → Bool
  | .lit v => v.oneCell'
  | _ => true
def C.is (r : Nat → Ref) : C → Value → Prop
  | .ptr n i j, v => v = .pointer (some ⟨(r n).blk, (r n).off + (i * (r n).sz + j), none⟩)
  | .slc n lo len cap, v => ∃ a, v = .slice a len (cap.getD ((r n).cap - lo)) ∧
      ((lo ≠ 0 ∧ cap.getD ((r n).cap - lo) = 0) ∨ a = if (r n).nl then none else some ⟨(r n).blk, (r n).off + lo * (r n).sz, none⟩)
  | c, v => v = c.plain
def C.lt (N : Nat) (c : C) : Prop := ∀ n, c.nm = some n → n < N
theorem C.is_congr {r r' : Nat → Ref} {N : Nat} {c : C} {v : Value} (hl : c.lt N) (h : ∀ n, n < N → r' n = r n) (hc : c.is r v) : c.is r' v := by
  cases c with
  | ptr n i j => have := h n (hl n rfl); simp only [C.is] at hc ⊢; rw [this]; exact hc
  | slc n lo len cap => have := h n (hl n rfl); simp only [C.is] at hc ⊢; rw [this]; exact hc
  | _ => exact hc
theorem C.lt_mono {N M : Nat} {c : C} (h : c.lt N) (le : N ≤ M) : c.lt M := fun n hn => Nat.lt_of_lt_of_le (h n hn) le
theorem C.is_plain {r : Nat → Ref} {c : C} (h : c.nm = none) (v : Value) : c.is r v ↔ v = c.plain := by
  cases c <;> simp_all [C.is, C.nm]
theorem C.one_is {r : Nat → Ref} {c : C} {v : Value} (h1 : c.one = true) (h : c.is r v) : v.oneCell' = true := by
  cases c <;> simp only [C.is] at h
  case ptr => subst h; rfl
  case slc => obtain ⟨a, rfl, _⟩ := h; rfl
  case lit => subst h; exact h1
  case rs _ _ x => subst h; cases x <;> rfl
  all_goals (subst h; rfl)
theorem C.plain_one {c : C} (h : c.one = true) : c.plain.oneCell' = true := by
  cases c <;> first | rfl | exact h | exact RS.val_one _ _
/-- A value: one cell's, cells' (a struct, an array), several. -/
inductive V1 where
  | c (x : C) | agg (l : List C)
inductive VV where
  | one (x : V1) | tup (l : List V1) | any
abbrev VV.c (x : C) : VV := .one (.c x)
abbrev VV.agg (l : List C) : VV := .one (.agg l)
/-- A list of cells stands for a list of values. -/
def Rel (r : Nat → Ref) : List C → List Value → Prop
  | [], [] => True
  | c :: cs, v :: vs => c.is r v ∧ Rel r cs vs
  | _, _ => False
theorem Rel.length {r : Nat → Ref} : ∀ {cs : List C} {vs : List Value}, Rel r cs vs → vs.length = cs.length
  | [], [], _ => rfl
  | c :: cs, v :: vs, h => by simp [Rel.length h.2]
  | [], _ :: _, h => h.elim
  | _ :: _, [], h => h.elim
theorem Rel.get {r : Nat → Ref} : ∀ {cs : List C} {vs : List Value}, Rel r cs vs → ∀ (j : Nat) (c : C), cs[j]? = some c → ∃ v, vs[j]? = some v ∧ c.is r v
  | c :: cs, v :: vs, h, 0, _, e => by simp at e; subst e; exact ⟨v, rfl, h.1⟩
  | c :: cs, v :: vs, h, j + 1, c', e => by simpa using h.2.get j c' (by simpa using e)
  | [], _, _, _, _, e => by simp at e
  | _ :: _, [], h, _, _, _ => h.elim
theorem Rel.drop {r : Nat → Ref} : ∀ (j : Nat) {cs : List C} {vs : List Value}, Rel r cs vs → Rel r (cs.drop j) (vs.drop j)
  | 0, _, _, h => by simpa using h
  | j + 1, [], [], _ => by simp [Rel]
  | j + 1, c :: cs, v :: vs, h => by simpa using Rel.drop j h.2
  | j + 1, [], _ :: _, h => h.elim
  | j + 1, _ :: _, [], h => h.elim
theorem Rel.take {r : Nat → Ref} : ∀ (j : Nat) {cs : List C} {vs : List Value}, Rel r cs vs → Rel r (cs.take j) (vs.take j)
  | 0, _, _, h => by simp [Rel]
  | j + 1, [], [], _ => by simp [Rel]
  | j + 1, c :: cs, v :: vs, h => by simpa using ⟨h.1, Rel.take j h.2⟩
  | j + 1, [], _ :: _, h => h.elim
  | j + 1, _ :: _, [], h => h.elim
theorem Rel.append {r : Nat → Ref} : ∀ {cs ds : List C} {vs us : List Value}, Rel r cs vs → Rel r ds us → Rel r (cs ++ ds) (vs ++ us)
  | [], _, [], _, _, h => h
  | c :: cs, _, v :: vs, _, h, k => ⟨h.1, Rel.append h.2 k⟩
  | [], _, _ :: _, _, h, _ => h.elim
  | _ :: _, _, [], _, h, _ => h.elim
theorem Rel.congr {r r' : Nat → Ref} {N : Nat} (h : ∀ n, n < N → r' n = r n) : ∀ {cs : List C} {vs : List Value}, (∀ c ∈ cs, c.lt N) → Rel r cs vs → Rel r' cs vs
  | [], [], _, _ => trivial
  | c :: cs, v :: vs, hl, hr => ⟨C.is_congr (hl c (by simp)) h hr.1, Rel.congr h (fun c hc => hl c (by simp [hc])) hr.2⟩
  | [], _ :: _, _, h => h.elim
  | _ :: _, [], _, h => h.elim
theorem Rel.one {r : Nat → Ref} : ∀ {cs : List C} {vs : List Value}, (∀ c ∈ cs, c.one = true) → Rel r cs vs → ∀ v ∈ vs, v.oneCell' = true
  | [], [], _, _, _, h => by simp at h
  | c :: cs, v :: vs, hl, hr, u, hu => by
    rcases List.mem_cons.1 hu with rfl | hu
    · exact C.one_is (hl c (by simp)) hr.1
    · exact Rel.one (fun c hc => hl c (by simp [hc])) hr.2 u hu
  | [], _ :: _, _, h, _, _ => h.elim
  | _ :: _, [], _, h, _, _ => h.elim
theorem Rel.plain {r : Nat → Ref} : ∀ {cs : List C}, (∀ c ∈ cs, c.nm = none) → Rel r cs (cs.map C.plain)
  | [], _ => trivial
  | c :: cs, h => ⟨(C.is_plain (h c (by simp)) _).2 rfl, Rel.plain fun c hc => h c (by simp [hc])⟩
theorem Rel.of_plain {r : Nat → Ref} : ∀ {cs : List C} {vs : List Value}, (∀ c ∈ cs, c.nm = none) → Rel r cs vs → vs = cs.map C.plain
  | [], [], _, _ => rfl
  | c :: cs, v :: vs, h, hr => by rw [List.map_cons, Rel.of_plain (fun c hc => h c (by simp [hc])) hr.2, (C.is_plain (h c (by simp)) _).1 hr.1]
  | [], _ :: _, _, h => h.elim
  | _ :: _, [], _, h => h.elim
def V1.is (r : Nat → Ref) : V1 → Value → Prop
  | .c x, v => x.is r v
  | .agg l, v => ∃ vs, v = .agg vs.toArray ∧ Rel r l vs
def V1.lt (N : Nat) : V1 → Prop
  | .c x => x.lt N
  | .agg l => ∀ c ∈ l, c.lt N
def RelV (r : Nat → Ref) : List V1 → List Value → Prop
  | [], [] => True
  | c :: cs, v :: vs => c.is r v ∧ RelV r cs vs
  | _, _ => False
def VV.is (r : Nat → Ref) : VV → Value → Prop
  | .one x, v => x.is r v
  | .tup l, v => ∃ vs, v = .tuple vs.toArray ∧ RelV r l vs
  | .any, _ => True
def VV.lt (N : Nat) : VV → Prop
  | .one x => x.lt N
  | .tup l => ∀ c ∈ l, c.lt N
  | .any => True
theorem V1.lt_mono {N M : Nat} {c : V1} (h : c.lt N) (le : N ≤ M) : c.lt M := by
  cases c with
  | c x => exact C.lt_mono h le
  | agg l => exact fun c hc => C.lt_mono (h c hc) le
theorem VV.lt_mono {N M : Nat} {c : VV} (h : c.lt N) (le : N ≤ M) : c.lt M := by
  cases c with
  | one x => exact V1.lt_mono h le
  | tup l => exact fun c hc => V1.lt_mono (h c hc) le
  | any => trivial
theorem V1.is_congr {r r' : Nat → Ref} {N : Nat} {c : V1} {v : Value} (hl : c.lt N) (h : ∀ n, n < N → r' n = r n) (hc : c.is r v) : c.is r' v := by
  cases c with
  | c x => exact C.is_congr hl h hc
  | agg l => obtain ⟨vs, e, hr⟩ := hc; exact ⟨vs, e, Rel.congr h hl hr⟩
theorem RelV.congr {r r' : Nat → Ref} {N : Nat} (h : ∀ n, n < N → r' n = r n) : ∀ {cs : List V1} {vs : List Value}, (∀ c ∈ cs, c.lt N) → RelV r cs vs → RelV r' cs vs
  | [], [], _, _ => trivial
  | c :: cs, v :: vs, hl, hr => ⟨V1.is_congr (hl c (by simp)) h hr.1, RelV.congr h (fun c hc => hl c (by simp [hc])) hr.2⟩
  | [], _ :: _, _, h => h.elim
  | _ :: _, [], _, h => h.elim
theorem RelV.get {r : Nat → Ref} : ∀ {cs : List V1} {vs : List Value}, RelV r cs vs → ∀ (j : Nat) (c : V1), cs[j]? = some c → ∃ v, vs[j]? = some v ∧ c.is r v
  | c :: cs, v :: vs, h, 0, _, e => by simp at e; subst e; exact ⟨v, rfl, h.1⟩
  | c :: cs, v :: vs, h, j + 1, c', e => by simpa using h.2.get j c' (by simpa using e)
  | [], _, _, _, _, e => by simp at e
  | _ :: _, [], h, _, _, _ => h.elim
theorem VV.is_congr {r r' : Nat → Ref} {N : Nat} {c : VV} {v : Value} (hl : c.lt N) (h : ∀ n, n < N → r' n = r n) (hc : c.is r v) : c.is r' v := by
  cases c with
  | one x => exact V1.is_congr hl h hc
  | tup l => obtain ⟨vs, e, hr⟩ := hc; exact ⟨vs, e, RelV.congr h hl hr⟩
  | any => trivial
/-- The kinds of elements that lists are read as: data without addresses. -/
structure Kinds where
  Kd : Type
  deq : DecidableEq Kd
  α : Kd → Type
  size : Kd → Nat
  elem : Kd → TypeId
  enc : (k : Kd) → α k → List C
  dec : (k : Kd) → List C → Option (α k)
  dflt : (k : Kd) → α k
  ofType : TypeId → Option Kd
structure Kinds.Ok (K : Kinds) : Prop where
  pos : ∀ k, 0 < K.size k
  len : ∀ k x, (K.enc k x).length = K.size k
  one : ∀ k x, ∀ c ∈ K.enc k x, c.one = true
  nm : ∀ k x, ∀ c ∈ K.enc k x, c.nm = none
  dec : ∀ k cs x, K.dec k cs = some x → K.enc k x = cs
/-- A list that lies in a block, from a place on. -/
structure View (K : Kinds) where
  o : Nat
  k : K.Kd
  xs : List (K.α k)
/-- What lies in a block that is known by its place: a row (with its room), or cells. -/
inductive BI (K : Kinds) where
  | row (k : K.Kd) (cap : Nat) (xs : List (K.α k))
  | box (T : TypeId) (cs : List C)
  | tab (T : TypeId) (p : Nat × Nat) (cs : List C)
  | lay (vs : List (View K)) (ob : Obj)
/-- Blocks that are known by their places. -/
abbrev Bag (K : Kinds) := Nat → Option (BI K)
/-- What lies in a block. -/
inductive Atom (K : Kinds) where
  | gone
  | cells (T : TypeId) (cs : List C)
  | arr (k : K.Kd) (xs : List (K.α k))
  | ro (k : K.Kd) (xs : List (K.α k))
  | bag (φ : Bag K)
variable {K : Kinds}
def flat (k : K.Kd) (xs : List (K.α k)) : List C := xs.flatMap (K.enc k)
def Ref.val (r : Ref) (n : Nat) : Value := .slice (if r.nl then none else some ⟨r.blk, 0, none⟩) n r.cap
def BI.ok (b : Nat) (w : World) : BI K → Prop
  | .row k cap xs => w.ownsRow 0 (K.elem k) (K.size k) (.slice (some ⟨b, 0, none⟩) xs.length cap) xs.length ((flat k xs).map C.plain)
  | .box T cs => (∀ c ∈ cs, c.nm = none ∧ c.one = true) ∧ w.heap[b]? = some (.cells (cs.map C.plain).toArray T (0, 0))
  | .tab T p cs => (∀ c ∈ cs, c.nm = none ∧ c.one = true) ∧ w.heap[b]? = some (.cells (cs.map C.plain).toArray T p)
  | .lay vs ob => w.heap[b]? = some ob ∧ ∀ v ∈ vs, ∀ j u, ((flat v.k v.xs).map C.plain)[j]? = some u → w.cell? ⟨b, v.o + j, none⟩ = some u
/-- A list lies in a block of a bag. -/
def HasV (φ : Bag K) (b o : Nat) (k : K.Kd) (xs : List (K.α k)) (ob : Obj) : Prop := ∃ vs, φ b = some (.lay vs ob) ∧ (⟨o, k, xs⟩ : View K) ∈ vs
/-- The cells of a block that isn't a row. -/
def cellsAt (φ : Bag K) (b : Nat) : Option (List C) := match φ b with
  | some (.box _ cs) => some cs
  | some (.tab _ _ cs) => some cs
  | _ => none
theorem cellsAt_box {φ : Bag K} {b : Nat} {T : TypeId} {cs : List C} (h : φ b = some (.box T cs)) : cellsAt φ b = some cs := by simp [cellsAt, h]
theorem cellsAt_of {φ : Bag K} {b : Nat} {cs : List C} (h : cellsAt φ b = some cs) : ∃ i, φ b = some i ∧ ∀ w : World, i.ok b w → (∀ c ∈ cs, c.nm = none ∧ c.one = true) ∧ ∃ T p, w.heap[b]? = some (.cells (cs.map C.plain).toArray T p) := by
  unfold cellsAt at h
  split at h
  · rename_i T cs' hφ
    injection h with h
    subst h
    exact ⟨_, hφ, fun w hw => ⟨hw.1, _, _, hw.2⟩⟩
  · rename_i T p cs' hφ
    injection h with h
    subst h
    exact ⟨_, hφ, fun w hw => ⟨hw.1, _, _, hw.2⟩⟩
  · cases h
theorem BI.ok_lt {b : Nat} {w : World} {i : BI K} (h : i.ok b w) : b < w.heap.size := by
  cases i with
  | row k cap xs => exact (World.ownsRow.lt h b (by simp [Value.ownBlock])).2
  | box T cs => exact (Array.getElem?_eq_some_iff.1 h.2).1
  | tab T p cs => exact (Array.getElem?_eq_some_iff.1 h.2).1
  | lay vs ob => exact (Array.getElem?_eq_some_iff.1 h.1).1
theorem BI.ok_keep {b : Nat} {w w' : World} {i : BI K} (h : i.ok b w) (hb : w'.heap[b]? = w.heap[b]?) : i.ok b w' := by
  cases i with
  | row k cap xs =>
    obtain ⟨h3, h4⟩ := h
    refine ⟨h3, ?_⟩
    rcases h4 with h4 | ⟨g, cap', cur, hv, hbase, hg, rest⟩
    · exact .inl h4
    · have hgb : b = g := by simp at hv; exact hv.1
      subst hgb
      exact .inr ⟨b, cap', cur, hv, hbase, by rw [hb]; exact hg, rest⟩
  | box T cs => exact ⟨h.1, by rw [hb]; exact h.2⟩
  | tab T p cs => exact ⟨h.1, by rw [hb]; exact h.2⟩
  | lay vs ob =>
    obtain ⟨h1, h2⟩ := h
    refine ⟨by rw [hb]; exact h1, fun v hv j u hj => ?_⟩
    · have := h2 v hv j u hj
      simp only [World.cell?, hb] at this ⊢
      exact this
def Atom.ok (r : Nat → Ref) (x : Ref) (w : World) : Atom K → Prop
  | .gone => True
  | .cells T cs => (x.nl = false ∧ x.off = 0) ∧ ∃ vs : List Value, w.heap[x.blk]? = some (.cells vs.toArray T (0, 0)) ∧ Rel r cs vs
  | .arr k xs => (x.sz = K.size k ∧ x.off = 0) ∧ (x.nl = true → x.cap = 0) ∧ w.ownsRow 0 (K.elem k) (K.size k) (x.val xs.length) xs.length ((flat k xs).map C.plain)
  | .ro k xs => x.sz = K.size k ∧ xs.length ≤ x.cap ∧ (x.nl = true → x.cap = 0) ∧ (xs ≠ [] → x.blk < w.heap.size ∧ ∀ j u, ((flat k xs).map C.plain)[j]? = some u → w.cell? ⟨x.blk, x.off + j, none⟩ = some u)
  | .bag φ => ∀ b i, φ b = some i → i.ok b w
def Atom.lt (N : Nat) : Atom K → Prop
  | .cells _ cs => ∀ c ∈ cs, c.lt N ∧ c.one = true
  | _ => True
def Atom.has (x : Ref) : Atom K → Nat → Prop
  | .gone, _ => False
  | .cells _ _, b => x.blk = b
  | .arr _ _, b => x.nl = false ∧ x.blk = b
  | .ro _ _, _ => False
  | .bag φ, b => ∃ i, φ b = some i
def Atom.rb (x : Ref) : Atom K → Option Nat
  | .ro _ (_ :: _) => some x.blk
  | _ => none
def Atom.isRo : Atom K → Bool
  | .ro _ _ => true
  | _ => false
def Atom.lst : Atom K → Option (Σ k, List (K.α k))
  | .arr k xs => some ⟨k, xs⟩
  | .ro k xs => some ⟨k, xs⟩
  | _ => none
abbrev VH (K : Kinds) := List (Atom K)
def at_ (H : VH K) (n : Nat) : Atom K := H.getD n .gone
def blkOf (r : Nat → Ref) (H : VH K) (n : Nat) : Nat → Prop := (at_ H n).has (r n)
def rbOf (r : Nat → Ref) (H : VH K) (n : Nat) : Option Nat := (at_ H n).rb (r n)
/-- What is only read is there from the start. -/
def RoKeep (H H' : VH K) : Prop := ∀ n, (at_ H' n).isRo = true → n < H.length ∧ at_ H' n = at_ H n
theorem RoKeep.refl (H : VH K) : RoKeep H H := fun n h => ⟨by
  rcases Nat.lt_or_ge n H.length with h' | h'
  · exact h'
  · simp [at_, List.getD_eq_getElem?_getD, List.getElem?_eq_none h', Atom.isRo] at h, rfl⟩
/-- All but the blocks of S is as it was at the start. -/
structure Out (S : Nat → Prop) (w0 w : World) : Prop where
  os : w.os = w0.os
  tape : w.tape = w0.tape
  output : w.output = w0.output
  size : w0.heap.size ≤ w.heap.size
  block : ∀ b, b < w0.heap.size → ¬ S b → w.heap[b]? = w0.heap[b]?
structure HeapOK (S : Nat → Prop) (w0 : World) (r : Nat → Ref) (H : VH K) (w : World) : Prop where
  ok : ∀ n, (at_ H n).ok r (r n) w
  lt : ∀ n, (at_ H n).lt H.length
  inj : ∀ n m b, n ≠ m → blkOf r H n b → ¬ blkOf r H m b
  own : ∀ n b, blkOf r H n b → S b ∨ w0.heap.size ≤ b
  ro : ∀ n m b, rbOf r H n = some b → ¬ blkOf r H m b
  out : Out S w0 w
theorem blk_lt {r : Nat → Ref} {H : VH K} {w : World} {n b : Nat} (h : (at_ H n).ok r (r n) w) (hb : blkOf r H n b) : b < w.heap.size := by
  unfold blkOf at hb
  cases ha : at_ H n with
  | gone => simp [ha, Atom.has] at hb
  | cells T cs =>
    simp [ha, Atom.has] at hb; subst hb
    rw [ha] at h
    obtain ⟨_, vs, hv, _⟩ := h
    exact (Array.getElem?_eq_some_iff.1 hv).1
  | arr k xs =>
    rw [ha] at h hb
    obtain ⟨_, _, ho⟩ := h
    obtain ⟨hn, hb⟩ := hb
    subst hb
    exact (World.ownsRow.lt ho (r n).blk (by simp [Ref.val, hn, Value.ownBlock])).2
  | ro k xs => simp [ha, Atom.has] at hb
  | bag φ =>
    rw [ha] at h hb
    obtain ⟨i, hi⟩ := hb
    exact BI.ok_lt (h b i hi)
theorem rb_lt {r : Nat → Ref} {H : VH K} {w : World} {n b : Nat} (h : (at_ H n).ok r (r n) w) (hb : rbOf r H n = some b) : b < w.heap.size := by
  unfold rbOf at hb
  cases ha : at_ H n with
  | ro k xs =>
    rw [ha] at h hb
    cases xs with
    | nil => simp [Atom.rb] at hb
    | cons x xs => simp only [Atom.rb, Option.some.injEq] at hb; subst hb; exact (h.2.2.2 (by simp)).1
  | _ => rw [ha] at hb; simp [Atom.rb] at hb
theorem at_lt {H : VH K} {n : Nat} (h : at_ H n ≠ .gone) : n < H.length := by
  rcases Nat.lt_or_ge n H.length with h' | h'
  · exact h'
  · exact absurd (by simp [at_, List.getD_eq_getElem?_getD, List.getElem?_eq_none h']) h
theorem at_ge {H : VH K} {n : Nat} (h : H.length ≤ n) : at_ H n = .gone := by simp [at_, List.getD_eq_getElem?_getD, List.getElem?_eq_none h]
theorem Atom.lt_mono {N M : Nat} {a : Atom K} (h : a.lt N) (le : N ≤ M) : a.lt M := by
  cases a with
  | cells T cs => exact fun c hc => ⟨C.lt_mono (h c hc).1 le, (h c hc).2⟩
  | _ => trivial
/-- What an atom says goes on where its block stays and its names keep their meaning. -/
theorem Atom.ok_keep {r r' : Nat → Ref} {N : Nat} {x : Ref} {w w' : World} {a : Atom K} (h : a.ok r x w) (hl : a.lt N) (hr : ∀ n, n < N → r' n = r n)
    (hb : ∀ b, a.has x b → w'.heap[b]? = w.heap[b]?) (hrb : ∀ b, a.rb x = some b → w'.heap[b]? = w.heap[b]?) : a.ok r' x w' := by
  cases a with
  | gone => trivial
  | cells T cs =>
    obtain ⟨hn, vs, hv, hr'⟩ := h
    exact ⟨hn, vs, by rw [hb x.blk rfl]; exact hv, Rel.congr hr (fun c hc => (hl c hc).1) hr'⟩
  | arr k xs =>
    obtain ⟨h1, h2, h3, h4⟩ := h
    refine ⟨h1, h2, h3, ?_⟩
    rcases h4 with h4 | ⟨g, cap, cur, hv, hbase, hg, rest⟩
    · exact .inl h4
    · refine .inr ⟨g, cap, cur, hv, hbase, ?_, rest⟩
      have hnl : x.nl = false := by
        cases hx : x.nl with
        | false => rfl
        | true => simp [Ref.val, hx] at hv
      have hgb : x.blk = g := by simp [Ref.val, hnl] at hv; exact hv.1
      rw [hb g (show x.nl = false ∧ x.blk = g from ⟨hnl, hgb⟩)]
      exact hg
  | ro k xs =>
    obtain ⟨h1, h2, h3, h4⟩ := h
    refine ⟨h1, h2, h3, fun hne => ?_⟩
    obtain ⟨h5, h6⟩ := h4 hne
    have he := hrb x.blk (by cases xs with | nil => exact absurd rfl hne | cons => rfl)
    refine ⟨?_, fun j u hj => ?_⟩
    · have h7 : w.heap[x.blk]? = some w.heap[x.blk] := Array.getElem?_eq_getElem h5
      rw [← he] at h7
      exact (Array.getElem?_eq_some_iff.1 h7).1
    · have := h6 j u hj
      simp only [World.cell?, he] at this ⊢
      exact this
  | bag φ => exact fun b i hi => BI.ok_keep (h b i hi) (hb b ⟨i, hi⟩)
/-- The state goes on: the names of T, and new ones, are told anew; what else there is stays. -/
theorem HeapOK.evolve {S : Nat → Prop} {w0 w w' : World} {r r' : Nat → Ref} {H H' : VH K} (h : HeapOK S w0 r H w) (T : Nat → Prop)
    (hro : RoKeep H H') (hlen : H.length ≤ H'.length) (hr : ∀ n, n < H.length → r' n = r n) (hH : ∀ n, n < H.length → ¬ T n → at_ H' n = at_ H n)
    (os : w'.os = w.os) (tape : w'.tape = w.tape) (output : w'.output = w.output) (size : w.heap.size ≤ w'.heap.size)
    (hw : ∀ b, b < w.heap.size → (∀ n, T n → ¬ blkOf r H n b) → w'.heap[b]? = w.heap[b]?)
    (hok : ∀ n, n < H'.length → (T n ∨ H.length ≤ n) → (at_ H' n).ok r' (r' n) w' ∧ (at_ H' n).lt H'.length)
    (hblk : ∀ n b, (T n ∨ H.length ≤ n) → blkOf r' H' n b → (∃ m, T m ∧ blkOf r H m b) ∨ w.heap.size ≤ b)
    (hinj : ∀ n m b, n ≠ m → (T n ∨ H.length ≤ n) → (T m ∨ H.length ≤ m) → blkOf r' H' n b → ¬ blkOf r' H' m b) : HeapOK S w0 r' H' w' := by
  have old : ∀ n, n < H.length → ¬ T n → blkOf r' H' n = blkOf r H n := fun n hn ht => by unfold blkOf; rw [hH n hn ht, hr n hn]
  have cases_ : ∀ n, (n < H.length ∧ ¬ T n) ∨ (T n ∨ H.length ≤ n) := fun n => by
    by_cases ht : T n
    · exact .inr (.inl ht)
    · rcases Nat.lt_or_ge n H.length with h' | h'
      · exact .inl ⟨h', ht⟩
      · exact .inr (.inr h')
  have keepb : ∀ n b, n < H.length → ¬ T n → blkOf r H n b → w'.heap[b]? = w.heap[b]? := fun n b hn ht hb =>
    hw b (blk_lt (h.ok n) hb) fun m hm hm' => h.inj n m b (fun e => ht (e ▸ hm)) hb hm'
  have keepr : ∀ n b, rbOf r H n = some b → w'.heap[b]? = w.heap[b]? := fun n b hb =>
    hw b (rb_lt (h.ok n) hb) fun m hm hm' => h.ro n m b hb hm'
  refine ⟨fun n => ?_, fun n => ?_, fun n m b hne hn hm => ?_, fun n b hb => ?_, fun n m b hn hm => ?_, ?_⟩
  · rcases cases_ n with ⟨hn, ht⟩ | hc
    · rw [hH n hn ht, hr n hn]
      exact Atom.ok_keep (h.ok n) (h.lt n) hr (fun b hb => keepb n b hn ht hb) (fun b hb => keepr n b hb)
    · rcases Nat.lt_or_ge n H'.length with h' | h'
      · exact (hok n h' hc).1
      · rw [at_ge h']; trivial
  · rcases cases_ n with ⟨hn, ht⟩ | hc
    · rw [hH n hn ht]; exact Atom.lt_mono (h.lt n) hlen
    · rcases Nat.lt_or_ge n H'.length with h' | h'
      · exact (hok n h' hc).2
      · rw [at_ge h']; trivial
  · rcases cases_ n with ⟨hn', ht⟩ | hc <;> rcases cases_ m with ⟨hm', ht'⟩ | hc'
    · rw [old n hn' ht] at hn; rw [old m hm' ht'] at hm; exact h.inj n m b hne hn hm
    · rw [old n hn' ht] at hn
      rcases hblk m b hc' hm with ⟨q, hq, hqb⟩ | hge
      · exact h.inj n q b (fun e => ht (e ▸ hq)) hn hqb
      · exact absurd (blk_lt (h.ok n) hn) (by omega)
    · rw [old m hm' ht'] at hm
      rcases hblk n b hc hn with ⟨q, hq, hqb⟩ | hge
      · exact h.inj m q b (fun e => ht' (e ▸ hq)) hm hqb
      · exact absurd (blk_lt (h.ok m) hm) (by omega)
    · exact hinj n m b hne hc hc' hn hm
  · rcases cases_ n with ⟨hn, ht⟩ | hc
    · rw [old n hn ht] at hb; exact h.own n b hb
    · rcases hblk n b hc hb with ⟨q, hq, hqb⟩ | hge
      · exact h.own q b hqb
      · exact .inr (Nat.le_trans h.out.size hge)
  · have hisro : (at_ H' n).isRo = true := by
      unfold rbOf at hn
      cases ha : at_ H' n <;> rw [ha] at hn <;> first | rfl | (simp [Atom.rb] at hn)
    obtain ⟨hnl, hnat⟩ := hro n hisro
    have hn' : rbOf r H n = some b := by unfold rbOf at hn ⊢; rw [← hnat, ← hr n hnl]; exact hn
    rcases cases_ m with ⟨hm', ht⟩ | hc
    · rw [old m hm' ht] at hm; exact h.ro n m b hn' hm
    · rcases hblk m b hc hm with ⟨q, hq, hqb⟩ | hge
      · exact h.ro n q b hn' hqb
      · exact absurd (rb_lt (h.ok n) hn') (by omega)
  · refine ⟨os.trans h.out.os, tape.trans h.out.tape, output.trans h.out.output, Nat.le_trans h.out.size size, fun b hb hs => ?_⟩
    rw [hw b (Nat.lt_of_lt_of_le hb h.out.size) (fun n hn hnb => ?_)]
    · exact h.out.block b hb hs
    · rcases h.own n b hnb with h' | h'
      · exact hs h'
      · omega
end Go.Proofs.YtndlpbheifalhaaGreatDoor.E
end
section
namespace Go.Proofs.YtndlpbheifalhaaGreatDoor.E
set_option linter.unusedVariables false
set_option linter.unusedSimpArgs false
variable {K : Kinds}
/-- 'b', or there is nothing to show. -/
def guardP (b : Bool) (X : Prop) : Prop := match b with | true => X | false => False
theorem guardP_iff {b : Bool} {X : Prop} : guardP b X ↔ b = true ∧ X := by cases b <;> simp [guardP]
def ite2 (b : Bool) (T F : Prop) : Prop := match b with | true => T | false => F
theorem ite2_of {b : Bool} {T F : Prop} (h : ite2 b T F) : (b = true ∧ T) ∨ (b = false ∧ F) := by cases b <;> simp_all [ite2]
theorem ite2_decide {p : Prop} [Decidable p] {T F : Prop} (h : p → T) (k : ¬ p → F) : ite2 (decide p) T F := by
  by_cases hp : p
  · simp only [hp, decide_true, ite2]; exact h hp
  · simp only [hp, decide_false, ite2]; exact k hp
theorem flat_length (hK : K.Ok) (k : K.Kd) : ∀ xs : List (K.α k), (flat k xs).length = xs.length * K.size k
  | [] => by simp [flat]
  | x :: xs => by have := flat_length hK k xs; simp only [flat, List.flatMap_cons, List.length_append, List.length_cons, hK.len] at this ⊢; rw [this, Nat.add_mul]; omega
theorem flat_append (k : K.Kd) (xs ys : List (K.α k)) : flat k (xs ++ ys) = flat k xs ++ flat k ys := by simp [flat]
theorem flat_one (hK : K.Ok) (k : K.Kd) (xs : List (K.α k)) : ∀ c ∈ flat k xs, c.one = true := by
  intro c hc
  obtain ⟨x, _, hx⟩ := List.mem_flatMap.1 hc
  exact hK.one k x c hx
theorem flat_nm (hK : K.Ok) (k : K.Kd) (xs : List (K.α k)) : ∀ c ∈ flat k xs, c.nm = none := by
  intro c hc
  obtain ⟨x, _, hx⟩ := List.mem_flatMap.1 hc
  exact hK.nm k x c hx
theorem flat_at (hK : K.Ok) (k : K.Kd) (d : K.α k) : ∀ (xs : List (K.α k)) (i l : Nat), i < xs.length → l < K.size k → (flat k xs)[i * K.size k + l]? = (K.enc k (xs.getD i d))[l]?
  | x :: xs, 0, l, _, hl => by simp only [flat, List.flatMap_cons, Nat.zero_mul, Nat.zero_add, List.getD_cons_zero]; rw [List.getElem?_append_left (by rw [hK.len]; exact hl)]
  | x :: xs, i + 1, l, hi, hl => by
    have ih := flat_at hK k d xs i l (by simpa using hi) hl
    simp only [flat, List.flatMap_cons, List.getD_cons_succ] at ih ⊢
    rw [List.getElem?_append_right (by rw [hK.len]; rw [Nat.add_mul]; omega), hK.len, ← ih]
    congr 1
    rw [Nat.add_mul]; omega
  | [], i, l, hi, _ => by simp at hi
theorem flat_take (hK : K.Ok) (k : K.Kd) : ∀ (xs : List (K.α k)) (n : Nat), flat k (xs.take n) = (flat k xs).take (n * K.size k)
  | [], n => by simp [flat]
  | x :: xs, 0 => by simp [flat]
  | x :: xs, n + 1 => by
    have ih := flat_take hK k xs n
    simp only [flat, List.take_succ_cons, List.flatMap_cons] at ih ⊢
    rw [ih, Nat.add_mul, Nat.one_mul, Nat.add_comm, List.take_append]
    simp [hK.len, List.take_of_length_le]
theorem flat_drop (hK : K.Ok) (k : K.Kd) : ∀ (xs : List (K.α k)) (n : Nat), flat k (xs.drop n) = (flat k xs).drop (n * K.size k)
  | [], n => by simp [flat]
  | x :: xs, 0 => by simp [flat]
  | x :: xs, n + 1 => by
    have ih := flat_drop hK k xs n
    simp only [flat, List.drop_succ_cons, List.flatMap_cons] at ih ⊢
    rw [ih, Nat.add_mul, Nat.one_mul, Nat.add_comm, ← List.drop_drop, List.drop_append]
    simp [hK.len, List.drop_eq_nil_of_le]
/-- An element, or the kind's own where there is none. -/
def rd {α : Type} (xs : List α) (i : Nat) (d : α) : α := xs.getD i d
def readAt (a : Atom K) (i j m : Nat) (k : List C → Prop) : Prop :=
  match a with
  | .gone => False
  | .cells _ cs => guardP (i == 0 && Nat.ble (j + m) cs.length) (k ((cs.drop j).take m))
  | .arr kd xs => i < xs.length ∧ guardP (Nat.ble (j + m) (K.size kd)) (k (((K.enc kd (rd xs i (K.dflt kd))).drop j).take m))
  | .ro kd xs => i < xs.length ∧ guardP (Nat.ble (j + m) (K.size kd)) (k (((K.enc kd (rd xs i (K.dflt kd))).drop j).take m))
  | .bag _ => False
theorem nl_false {kd : K.Kd} {xs : List (K.α kd)} {x : Ref} {w : World} {r : Nat → Ref} (h : Atom.ok r x w (.arr kd xs)) (hp : 0 < xs.length) : x.nl = false := by
  obtain ⟨_, _, _, h4⟩ := h
  cases hx : x.nl with
  | false => rfl
  | true =>
    rcases h4 with ⟨_, h0⟩ | ⟨g, cap, cur, hv, _⟩
    · omega
    · simp [Ref.val, hx] at hv
theorem val_of {x : Ref} (h : x.nl = false) (n : Nat) : x.val n = .slice (some ⟨x.blk, 0, none⟩) n x.cap := by simp [Ref.val, h]
/-- A list, owned or only read. -/
theorem lst_ok (hK : K.Ok) {a : Atom K} {kd : K.Kd} {xs : List (K.α kd)} {x : Ref} {w : World} {r : Nat → Ref} (hl : a.lst = some ⟨kd, xs⟩) (h : a.ok r x w) :
    x.sz = K.size kd ∧ xs.length ≤ x.cap ∧ (0 < xs.length → x.nl = false) ∧ (0 < xs.length → ∀ j u, ((flat kd xs).map C.plain)[j]? = some u → w.cell? ⟨x.blk, x.off + j, none⟩ = some u) := by
  cases a with
  | gone => cases hl
  | cells T cs => cases hl
  | bag φ => cases hl
  | arr kd' xs' =>
    simp only [Atom.lst, Option.some.injEq, Sigma.mk.injEq] at hl
    obtain ⟨rfl, hl⟩ := hl
    have hl := eq_of_heq hl
    subst hl
    have hnl := fun hp => nl_false h hp
    obtain ⟨⟨hsz, hoff⟩, hnc, ho⟩ := h
    have hcap : xs'.length ≤ x.cap := by
      rcases ho.2 with ⟨_, h0⟩ | ⟨g, c, cur, h', _, _, hnc', _⟩
      · omega
      · simp only [Ref.val, Value.slice.injEq] at h'; omega
    refine ⟨hsz, hcap, hnl, fun hp j u hj => ?_⟩
    rw [val_of (hnl hp)] at ho
    have hlt := (List.getElem?_eq_some_iff.1 hj).1
    rw [List.length_map, flat_length hK] at hlt
    rw [hoff, Nat.zero_add, ho.cellAt _ hlt]
    exact hj
  | ro kd' xs' =>
    simp only [Atom.lst, Option.some.injEq, Sigma.mk.injEq] at hl
    obtain ⟨rfl, hl⟩ := hl
    have hl := eq_of_heq hl
    subst hl
    obtain ⟨hsz, hcap, hnc, hc⟩ := h
    refine ⟨hsz, hcap, fun hp => ?_, fun hp => (hc (by intro e; subst e; simp at hp)).2⟩
    cases hn : x.nl with
    | false => rfl
    | true => have := hnc hn; omega
theorem readL (hK : K.Ok) {a : Atom K} {kd : K.Kd} {xs : List (K.α kd)} {x : Ref} {w : World} {r : Nat → Ref} {N i j m : Nat} {k : List C → Prop}
    (h : i < xs.length ∧ guardP (Nat.ble (j + m) (K.size kd)) (k (((K.enc kd (rd xs i (K.dflt kd))).drop j).take m))) (hl : a.lst = some ⟨kd, xs⟩) (ha : a.ok r x w) :
    ∃ cs vs, k cs ∧ Rel r cs vs ∧ cs.length = m ∧ (∀ c ∈ cs, c.lt N ∧ c.one = true) ∧ w.rangeAt x.blk (x.off + (i * x.sz + j)) vs := by
  obtain ⟨hi, hg⟩ := h
  obtain ⟨hg, hk⟩ := guardP_iff.1 hg
  simp only [Nat.ble_eq] at hg
  obtain ⟨hsz, _, _, hcell⟩ := lst_ok hK hl ha
  have hcell := hcell (by omega)
  have hpl : ∀ c ∈ ((K.enc kd (xs.getD i (K.dflt kd))).drop j).take m, c ∈ K.enc kd (xs.getD i (K.dflt kd)) := fun c hc => List.mem_of_mem_drop (List.mem_of_mem_take hc)
  refine ⟨_, _, hk, Rel.plain fun c hc => hK.nm kd _ c (hpl c hc), by simp [hK.len]; omega, fun c hc => ⟨fun n hn => (by rw [hK.nm kd _ c (hpl c hc)] at hn; cases hn), hK.one kd _ c (hpl c hc)⟩, ?_⟩
  intro l v hlv
  simp only [rd] at hlv
  rw [List.getElem?_map, List.getElem?_take] at hlv
  split at hlv
  · rename_i hlm
    rw [List.getElem?_drop] at hlv
    have := hcell (i * x.sz + j + l) v (by rw [hsz, List.getElem?_map, Nat.add_assoc, flat_at hK kd (K.dflt kd) xs i (j + l) hi (by omega)]; exact hlv)
    rw [Nat.add_assoc]
    exact this
  · simp at hlv
theorem readAt_sound (hK : K.Ok) {r : Nat → Ref} {x : Ref} {w : World} {N : Nat} {a : Atom K} {i j m : Nat} {k : List C → Prop} (h : readAt a i j m k) (ha : a.ok r x w) (hl : a.lt N) :
    ∃ cs vs, k cs ∧ Rel r cs vs ∧ cs.length = m ∧ (∀ c ∈ cs, c.lt N ∧ c.one = true) ∧ w.rangeAt x.blk (x.off + (i * x.sz + j)) vs := by
  cases a with
  | gone => exact h.elim
  | cells T cs =>
    obtain ⟨hg, hk⟩ := guardP_iff.1 h
    simp only [Bool.and_eq_true, beq_iff_eq, Nat.ble_eq] at hg
    obtain ⟨rfl, hjm⟩ := hg
    obtain ⟨⟨_, hoff⟩, vs, hv, hr⟩ := ha
    rw [hoff]
    refine ⟨_, (vs.drop j).take m, hk, (hr.drop j).take m, by simp; omega, fun c hc => hl c (List.mem_of_mem_drop (List.mem_of_mem_take hc)), ?_⟩
    intro l v hlv
    rw [List.getElem?_take] at hlv
    split at hlv
    · rw [List.getElem?_drop] at hlv
      simp only [Nat.zero_mul, Nat.zero_add, World.cell?, hv]
      simpa using hlv
    · cases hlv
  | arr kd xs => exact readL hK h rfl ha
  | ro kd xs => exact readL hK h rfl ha
  | bag φ => exact h.elim
def splice (l : List C) (j : Nat) (cs : List C) : List C := l.take j ++ cs ++ l.drop (j + cs.length)
def writeAt (H : VH K) (n i j : Nat) (cs : List C) (k : VH K → Prop) : Prop :=
  match at_ H n with
  | .gone => False
  | .cells T old => guardP (i == 0 && Nat.ble (j + cs.length) old.length && cs.all C.one) (k (H.set n (.cells T (splice old j cs))))
  | .arr kd xs => i < xs.length ∧ guardP (Nat.ble (j + cs.length) (K.size kd)) (match K.dec kd (splice (K.enc kd (rd xs i (K.dflt kd))) j cs) with
      | some x => k (H.set n (.arr kd (xs.set i x)))
      | none => False)
  | .ro _ _ => False
  | .bag _ => False
theorem at_set {H : VH K} {n : Nat} (h : n < H.length) (a : Atom K) (m : Nat) : at_ (H.set n a) m = if m = n then a else at_ H m := by
  unfold at_
  simp only [List.getD_eq_getElem?_getD, List.getElem?_set]
  by_cases e : n = m
  · subst e; simp [h]
  · rw [if_neg e, if_neg (Ne.symm e)]
theorem RoKeep.set {H : VH K} {n : Nat} {a : Atom K} (h : n < H.length) (ha : a.isRo = false) : RoKeep H (H.set n a) := fun m hm => by
  rw [at_set h] at hm ⊢
  by_cases e : m = n
  · rw [if_pos e] at hm; rw [ha] at hm; cases hm
  · rw [if_neg e] at hm ⊢; exact RoKeep.refl H m hm
theorem splice_length {l : List C} {j : Nat} {cs : List C} (h : j + cs.length ≤ l.length) : (splice l j cs).length = l.length := by
  simp [splice]; omega
theorem flat_set (hK : K.Ok) (k : K.Kd) (d : K.α k) (j : Nat) (cs : List C) (x : K.α k) : ∀ (xs : List (K.α k)) (i : Nat), i < xs.length → j + cs.length ≤ K.size k → K.enc k x = splice (K.enc k (xs.getD i d)) j cs →
    flat k (xs.set i x) = (flat k xs).take (i * K.size k + j) ++ cs ++ (flat k xs).drop (i * K.size k + j + cs.length)
  | y :: ys, 0, _, hj, he => by
    simp only [flat, List.set_cons_zero, List.flatMap_cons, Nat.zero_mul, Nat.zero_add, List.getD_cons_zero] at he ⊢
    rw [he, List.take_append_of_le_length (by rw [hK.len]; omega), List.drop_append_of_le_length (by rw [hK.len]; omega)]
    simp [splice, List.append_assoc]
  | y :: ys, i + 1, hi, hj, he => by
    have ih := flat_set hK k d j cs x ys i (by simpa using hi) hj (by simpa using he)
    simp only [flat, List.set_cons_succ, List.flatMap_cons] at ih ⊢
    rw [ih]
    have e1 : (i + 1) * K.size k + j = (K.enc k y).length + (i * K.size k + j) := by rw [hK.len, Nat.add_mul]; omega
    have e2 : (i + 1) * K.size k + j + cs.length = (K.enc k y).length + (i * K.size k + j + cs.length) := by rw [hK.len, Nat.add_mul]; omega
    rw [e2, e1, List.take_length_add_append, List.drop_length_add_append]
    simp [List.append_assoc]
  | [], i, hi, _, _ => by simp at hi
theorem take_mid {α : Type} (L F M : List α) (a : Nat) (h : L.take F.length = F) (hl : a + M.length ≤ F.length) :
    (L.take a ++ M ++ L.drop (a + M.length)).take F.length = F.take a ++ M ++ F.drop (a + M.length) := by
  have e : L = F ++ L.drop F.length := by
    have := List.take_append_drop F.length L
    rw [h] at this
    exact this.symm
  generalize L.drop F.length = R at e
  subst e
  have e1 : (F ++ R).take a = F.take a := List.take_append_of_le_length (by omega)
  have e2 : (F ++ R).drop (a + M.length) = F.drop (a + M.length) ++ R := List.drop_append_of_le_length (by omega)
  rw [e1, e2, ← List.append_assoc]
  apply List.take_left'
  simp; omega
theorem writeAt_sound (hK : K.Ok) {S : Nat → Prop} {w0 w : World} {r : Nat → Ref} {H : VH K} {n i j : Nat} {cs : List C} {k : VH K → Prop} (h : writeAt H n i j cs k) (st : HeapOK S w0 r H w)
    {vs : List Value} (hr : Rel r cs vs) (hcl : ∀ c ∈ cs, c.lt H.length) :
    ∃ w' H', RoKeep H H' ∧ (∀ P : Program, (storeCells ⟨(r n).blk, (r n).off + (i * (r n).sz + j), none⟩ vs).run P w = .ok () w') ∧ k H' ∧ H'.length = H.length ∧ HeapOK S w0 r H' w' := by
  unfold writeAt at h
  simp only [rd] at h
  have hok := st.ok n
  have hlt := st.lt n
  cases ha : at_ H n with
  | gone => simp only [ha] at h
  | cells T old =>
    simp only [ha] at h hok hlt
    obtain ⟨hg, hk⟩ := guardP_iff.1 h
    simp only [Bool.and_eq_true, beq_iff_eq, Nat.ble_eq] at hg
    obtain ⟨⟨rfl, hjm⟩, hone⟩ := hg
    have hn : n < H.length := at_lt (by rw [ha]; simp)
    obtain ⟨⟨hnl, hoff⟩, us, hv, hru⟩ := hok
    rw [hoff, Nat.zero_add]
    have hone' : ∀ c ∈ cs, c.one = true := fun c hc => List.all_eq_true.1 hone c hc
    have hul := hru.length
    have hvl := hr.length
    refine ⟨w.setRow (r n).blk (us.take j ++ vs ++ us.drop (j + vs.length)).toArray, _, RoKeep.set hn rfl, fun P => ?_, hk, by simp, ?_⟩
    · have := run_storeCells_at P (r n).blk (0 * (r n).sz + j) T vs 0 us.toArray w hv (by simp; omega) (Rel.one hone' hr)
      simpa using this
    · refine st.evolve (fun m => m = n) (RoKeep.set hn rfl) (by simp) (fun _ _ => rfl) (fun m _ hm => by rw [at_set hn, if_neg hm]) rfl rfl rfl (by simp) (fun b hb hne => ?_) (fun m hm hmt => ?_) (fun m b hmt hb => ?_) (fun m m' b hne hm hm' hb => ?_)
      · exact setRow_other w _ b _ (fun e => hne n rfl (by simp [blkOf, ha, Atom.has, e]))
      · have hmn : m = n := hmt.resolve_right (by simp at hm; omega)
        subst hmn
        rw [at_set hn, if_pos rfl]
        refine ⟨⟨⟨hnl, hoff⟩, _, setRow_heap w _ _ _ T _ hv, ?_⟩, fun c hc => ?_⟩
        · rw [hvl]
          exact ((hru.take j).append hr).append (hru.drop (j + cs.length))
        · simp only [List.length_set]
          simp only [splice, List.mem_append] at hc
          rcases hc with (hc | hc) | hc
          · exact hlt c (List.mem_of_mem_take hc)
          · exact ⟨hcl c hc, hone' c hc⟩
          · exact hlt c (List.mem_of_mem_drop hc)
      · rcases hmt with rfl | hge
        · refine .inl ⟨m, rfl, ?_⟩
          simp only [blkOf, at_set hn, if_true, Atom.has] at hb
          simp only [blkOf, ha, Atom.has]; exact hb
        · simp [blkOf, at_ge (H := H.set n _) (by simpa using hge), Atom.has] at hb
      · rcases hm with rfl | hge
        · rcases hm' with rfl | hge'
          · exact absurd rfl hne
          · simp [blkOf, at_ge (H := H.set m _) (by simpa using hge'), Atom.has]
        · simp [blkOf, at_ge (H := H.set n _) (by simpa using hge), Atom.has] at hb
  | arr kd xs =>
    simp only [ha] at h hok hlt
    obtain ⟨hi, hg⟩ := h
    obtain ⟨hg, hk⟩ := guardP_iff.1 hg
    simp only [Nat.ble_eq] at hg
    have hn : n < H.length := at_lt (by rw [ha]; simp)
    have hnl := nl_false hok (by omega)
    obtain ⟨⟨hsz, hoff⟩, hnc, ho⟩ := hok
    rw [hoff, Nat.zero_add]
    rw [val_of hnl] at ho
    cases hd : K.dec kd (splice (K.enc kd (xs.getD i (K.dflt kd))) j cs) with
    | none => simp only [hd] at hk
    | some x =>
      simp only [hd] at hk
      have he := hK.dec kd _ _ hd
      have hcs : ∀ c ∈ cs, c.nm = none ∧ c.one = true := fun c hc => by
        have : c ∈ K.enc kd x := by rw [he]; simp [splice, hc]
        exact ⟨hK.nm kd x c this, hK.one kd x c this⟩
      obtain rfl := Rel.of_plain (fun c hc => (hcs c hc).1) hr
      obtain ⟨hl0, hoo⟩ := ho
      rcases hoo with ⟨h', _⟩ | ⟨g, cap, cur, h', hb, hgp, hnc', hcm, hcs', htake⟩
      · simp at h'
      · simp only [Value.slice.injEq, Option.some.injEq, Addr.mk.injEq, and_true, true_and] at h'
        obtain ⟨hgb, hcap⟩ := h'
        subst hgb
        have hcurl : xs.length * K.size kd ≤ cur.size := by rw [hcs']; exact Nat.mul_le_mul_right _ hnc'
        have hfit : i * K.size kd + j + cs.length ≤ xs.length * K.size kd := by
          have h1 : (i + 1) * K.size kd ≤ xs.length * K.size kd := Nat.mul_le_mul_right _ hi
          rw [Nat.add_mul] at h1; omega
        have hflat := flat_set hK kd (K.dflt kd) j cs x xs i hi hg he
        refine ⟨w.setRow (r n).blk (cur.toList.take (i * K.size kd + j) ++ cs.map C.plain ++ cur.toList.drop (i * K.size kd + j + cs.length)).toArray, _, RoKeep.set hn rfl, fun P => ?_, hk, by simp, ?_⟩
        · have := run_storeCells_at P (r n).blk (i * (r n).sz + j) (K.elem kd) (cs.map C.plain) 0 cur w hgp (by rw [hsz]; simp; omega)
            (fun v hv => by obtain ⟨c, hc, rfl⟩ := List.mem_map.1 hv; have := (hcs c hc).2; exact C.plain_one this)
          rw [hsz] at this
          simpa [hsz] using this
        · refine st.evolve (fun m => m = n) (RoKeep.set hn rfl) (by simp) (fun _ _ => rfl) (fun m _ hm => by rw [at_set hn, if_neg hm]) rfl rfl rfl (by simp) (fun b hb' hne => ?_) (fun m hm hmt => ?_) (fun m b hmt hb' => ?_) (fun m m' b hne hm hm' hb' => ?_)
          · exact setRow_other w _ b _ (fun e => hne n rfl (by simp [blkOf, ha, Atom.has, e, hnl]))
          · have hmn : m = n := hmt.resolve_right (by simp at hm; omega)
            subst hmn
            rw [at_set hn, if_pos rfl]
            refine ⟨⟨⟨hsz, hoff⟩, hnc, ?_⟩, trivial⟩
            rw [val_of hnl]
            refine ⟨by rw [List.length_map, flat_length hK], .inr ⟨(r m).blk, cap, _, ?_, Nat.zero_le _, setRow_heap w _ _ _ (K.elem kd) _ hgp, by simpa using hnc', hcm, ?_, ?_⟩⟩
            · rw [hcap]
            · simp only [List.size_toArray, List.length_append, List.length_take, List.length_map, List.length_drop, Array.length_toList]; omega
            · simp only [List.length_set]
              rw [hflat]
              simp only [List.map_append, List.map_take, List.map_drop]
              have hq := take_mid cur.toList ((flat kd xs).map C.plain) (cs.map C.plain) (i * K.size kd + j) (by rw [List.length_map, flat_length hK]; exact htake) (by rw [List.length_map, List.length_map, flat_length hK]; exact hfit)
              rw [List.length_map, List.length_map, flat_length hK] at hq
              exact hq
          · rcases hmt with rfl | hge
            · refine .inl ⟨m, rfl, ?_⟩
              simp only [blkOf, at_set hn, if_true, Atom.has] at hb'
              simp only [blkOf, ha, Atom.has]; exact hb'
            · simp [blkOf, at_ge (H := H.set n _) (by simpa using hge), Atom.has] at hb'
          · rcases hm with rfl | hge
            · rcases hm' with rfl | hge'
              · exact absurd rfl hne
              · simp [blkOf, at_ge (H := H.set m _) (by simpa using hge'), Atom.has]
            · simp [blkOf, at_ge (H := H.set n _) (by simpa using hge), Atom.has] at hb'
  | ro kd xs => simp only [ha] at h
  | bag φ => simp only [ha] at h
def bagsAt : VH K → Nat → List (Nat × Bag K)
  | [], _ => []
  | .bag φ :: t, n => (n, φ) :: bagsAt t (n + 1)
  | _ :: t, n => bagsAt t (n + 1)
def someBag : List (Nat × Bag K) → (Nat → Bag K → Prop) → Prop
  | [], _ => False
  | [(n, φ)], f => f n φ
  | (n, φ) :: (m, ψ) :: t, f => f n φ ∨ someBag ((m, ψ) :: t) f
def anyBag (H : VH K) (f : Nat → Bag K → Prop) : Prop := someBag (bagsAt H 0) f
theorem bagsAt_mem : ∀ {H : VH K} {n m : Nat} {φ : Bag K}, (m, φ) ∈ bagsAt H n → n ≤ m ∧ at_ H (m - n) = .bag φ
  | [], _, _, _, h => by simp [bagsAt] at h
  | a :: t, n, m, φ, h => by
    have tail : (m, φ) ∈ bagsAt t (n + 1) → n ≤ m ∧ at_ (a :: t) (m - n) = .bag φ := fun h => by
      obtain ⟨h1, h2⟩ := bagsAt_mem h
      refine ⟨by omega, ?_⟩
      rw [show m - n = (m - (n + 1)) + 1 by omega]
      simpa [at_] using h2
    cases a with
    | bag ψ =>
      simp only [bagsAt, List.mem_cons, Prod.mk.injEq] at h
      rcases h with ⟨rfl, rfl⟩ | h
      · exact ⟨Nat.le_refl _, by simp [at_]⟩
      · exact tail h
    | _ => exact tail (by simpa [bagsAt] using h)
theorem someBag_mem {f : Nat → Bag K → Prop} : ∀ {l : List (Nat × Bag K)}, someBag l f → ∃ n φ, (n, φ) ∈ l ∧ f n φ
  | [], h => h.elim
  | [(n, φ)], h => ⟨n, φ, by simp, h⟩
  | (n, φ) :: (m, ψ) :: t, h => by
    rcases h with h | h
    · exact ⟨n, φ, by simp, h⟩
    · obtain ⟨n', φ', h1, h2⟩ := someBag_mem h
      exact ⟨n', φ', List.mem_cons_of_mem _ h1, h2⟩
theorem anyBag_at {H : VH K} {f : Nat → Bag K → Prop} (h : anyBag H f) : ∃ n φ, at_ H n = .bag φ ∧ f n φ := by
  obtain ⟨n, φ, h1, h2⟩ := someBag_mem h
  exact ⟨n, φ, by simpa using (bagsAt_mem h1).2, h2⟩
theorem someBag_mono {f g : Nat → Bag K → Prop} (hfg : ∀ n φ, f n φ → g n φ) : ∀ {l : List (Nat × Bag K)}, someBag l f → someBag l g
  | [], h => h.elim
  | [(n, φ)], h => hfg n φ h
  | (n, φ) :: (m, ψ) :: t, h => by
    rcases h with h | h
    · exact .inl (hfg n φ h)
    · exact .inr (someBag_mono hfg h)
theorem someBag_pull {A : Type} {f : A → Nat → Bag K → Prop} : ∀ {l : List (Nat × Bag K)}, someBag l (fun n φ => ∃ a, f a n φ) → ∃ a, someBag l (f a)
  | [], h => h.elim
  | [(n, φ)], h => h
  | (n, φ) :: (m, ψ) :: t, h => by
    rcases h with ⟨a, h⟩ | h
    · exact ⟨a, .inl h⟩
    · obtain ⟨a, h⟩ := someBag_pull h
      exact ⟨a, .inr h⟩
def bput (φ : Bag K) (b : Nat) (i : BI K) : Bag K := fun c => if c = b then some i else φ c
theorem rowOk {b cap : Nat} {kd : K.Kd} {xs : List (K.α kd)} {w : World} {r : Nat → Ref} (h : BI.ok b w (.row kd cap xs)) : Atom.ok r ⟨b, K.size kd, cap, false, 0⟩ w (.arr kd xs) :=
  ⟨⟨rfl, rfl⟩, fun h => (by cases h), h⟩
def readRow (H : VH K) (e : TypeId) (sz b i j m : Nat) (k : List C → Prop) : Prop :=
  match K.ofType e with
  | some kd => guardP (sz == K.size kd) (anyBag H fun _ φ => ∃ cap xs, φ b = some (.row kd cap xs) ∧ readAt (.arr kd xs) i j m k)
  | none => False
theorem readRow_sound (hK : K.Ok) {S : Nat → Prop} {w0 w : World} {r : Nat → Ref} {H : VH K} (st : HeapOK S w0 r H w) {e : TypeId} {sz b i j m : Nat} {k : List C → Prop} (h : readRow H e sz b i j m k) :
    ∃ cs vs, k cs ∧ Rel r cs vs ∧ cs.length = m ∧ (∀ c ∈ cs, c.lt H.length ∧ c.one = true) ∧ w.rangeAt b (i * sz + j) vs := by
  unfold readRow at h
  split at h
  · rename_i kd hkd
    obtain ⟨hg, h'⟩ := guardP_iff.1 h
    clear h
    simp only [beq_iff_eq] at hg
    subst hg
    have h := h'
    obtain ⟨n, φ, hn, cap, xs, hφ, h⟩ := anyBag_at h
    have hok := st.ok n
    rw [hn] at hok
    have := readAt_sound (r := r) (N := H.length) hK h (rowOk (hok b _ hφ)) trivial
    simpa using this
  · exact h.elim
/-- Cells of a block that is known by its place. -/
def readBox (H : VH K) (b j m : Nat) (k : List C → Prop) : Prop := anyBag H fun _ φ => ∃ cs, cellsAt φ b = some cs ∧ j + m ≤ cs.length ∧ k ((cs.drop j).take m)
theorem boxOk {b : Nat} {T : TypeId} {cs : List C} {w : World} {r : Nat → Ref} (h : BI.ok (K := K) b w (.box T cs)) : Atom.ok (K := K) r ⟨b, 0, 0, false, 0⟩ w (.cells T cs) :=
  ⟨⟨rfl, rfl⟩, _, h.2, Rel.plain fun c hc => (h.1 c hc).1⟩
theorem readBox_sound (hK : K.Ok) {S : Nat → Prop} {w0 w : World} {r : Nat → Ref} {H : VH K} (st : HeapOK S w0 r H w) {b j m : Nat} {k : List C → Prop} (h : readBox H b j m k) :
    ∃ cs vs, k cs ∧ Rel r cs vs ∧ cs.length = m ∧ (∀ c ∈ cs, c.lt H.length ∧ c.one = true) ∧ w.rangeAt b j vs := by
  obtain ⟨n, φ, hn, cs, hφ, hl, h⟩ := anyBag_at h
  have hok := st.ok n
  rw [hn] at hok
  obtain ⟨i, hi, hw⟩ := cellsAt_of hφ
  obtain ⟨hcs, T, p, hv⟩ := hw w (hok b i hi)
  have mem : ∀ c ∈ (cs.drop j).take m, c ∈ cs := fun c hc => List.mem_of_mem_drop (List.mem_of_mem_take hc)
  refine ⟨_, ((cs.map C.plain).drop j).take m, h, ((Rel.plain fun c hc => (hcs c hc).1).drop j).take m, by simp; omega, fun c hc => ⟨fun n hn => (by rw [(hcs c (mem c hc)).1] at hn; cases hn), (hcs c (mem c hc)).2⟩, ?_⟩
  intro l v hlv
  rw [List.getElem?_take] at hlv
  split at hlv
  · rw [List.getElem?_drop] at hlv
    simp only [World.cell?, hv]
    simpa using hlv
  · cases hlv
def readRp (H : VH K) (e : TypeId) (sz b i j m : Nat) (k : List C → Prop) : Prop :=
  match sz with
  | 0 => readBox H b j m k
  | sz + 1 => readRow H e (sz + 1) b i j m k
theorem readRp_sound (hK : K.Ok) {S : Nat → Prop} {w0 w : World} {r : Nat → Ref} {H : VH K} (st : HeapOK S w0 r H w) {e : TypeId} {sz b i j m : Nat} {k : List C → Prop} (h : readRp H e sz b i j m k) :
    ∃ cs vs, k cs ∧ Rel r cs vs ∧ cs.length = m ∧ (∀ c ∈ cs, c.lt H.length ∧ c.one = true) ∧ w.rangeAt b (i * sz + j) vs := by
  cases sz with
  | zero => simpa using readBox_sound hK st h
  | succ sz => exact readRow_sound hK st h
/-- An element of a list that only lies there. -/
def readLay (H : VH K) (e : TypeId) (sz b o i j m : Nat) (k : List C → Prop) : Prop :=
  match K.ofType e with
  | some kd => guardP (sz == K.size kd) (anyBag H fun _ φ => ∃ xs ob, HasV φ b o kd xs ob ∧ readAt (.ro kd xs) i j m k)
  | none => False
theorem readLay_sound (hK : K.Ok) {S : Nat → Prop} {w0 w : World} {r : Nat → Ref} {H : VH K} (st : HeapOK S w0 r H w) {e : TypeId} {sz b o i j m : Nat} {k : List C → Prop} (h : readLay H e sz b o i j m k) :
    ∃ cs vs, k cs ∧ Rel r cs vs ∧ cs.length = m ∧ (∀ c ∈ cs, c.lt H.length ∧ c.one = true) ∧ w.rangeAt b (o + (i * sz + j)) vs := by
  unfold readLay at h
  split at h
  · rename_i kd hkd
    obtain ⟨hg, h'⟩ := guardP_iff.1 h
    clear h
    simp only [beq_iff_eq] at hg
    subst hg
    have h := h'
    obtain ⟨n, φ, hn, xs, ob, ⟨vs, hφ, hv⟩, h⟩ := anyBag_at h
    have hok := st.ok n
    rw [hn] at hok
    obtain ⟨h1, h2⟩ := hok b _ hφ
    have h2 := h2 _ hv
    have h1 := (Array.getElem?_eq_some_iff.1 h1).1
    have ha : Atom.ok r ⟨b, K.size kd, xs.length, false, o⟩ w (.ro kd xs) := ⟨rfl, Nat.le_refl _, (fun hx => by cases hx), fun _ => ⟨h1, h2⟩⟩
    exact readAt_sound (r := r) (N := H.length) hK h ha trivial
  · exact h.elim
/-- A place that is read. -/
def readPt (H : VH K) (p : VV) (m : Nat) (k : List C → Prop) : Prop :=
  match p with
  | .one (.c (.ptr n i j)) => readAt (at_ H n) i j m k
  | .one (.c (.rp e sz b i j)) => readRp H e sz b i j m k
  | .one (.c (.lp e sz b o i j)) => readLay H e sz b o i j m k
  | _ => False
theorem readPt_sound (hK : K.Ok) {S : Nat → Prop} {w0 w : World} {r : Nat → Ref} {H : VH K} (st : HeapOK S w0 r H w) {p : VV} {m : Nat} {k : List C → Prop} (h : readPt H p m k) {v : Value} (hp : p.is r v) :
    ∃ b o cs vs, v = .pointer (some ⟨b, o, none⟩) ∧ k cs ∧ Rel r cs vs ∧ cs.length = m ∧ (∀ c ∈ cs, c.lt H.length ∧ c.one = true) ∧ w.rangeAt b o vs := by
  unfold readPt at h
  split at h
  · rename_i n i j
    simp only [VV.is, V1.is, C.is] at hp
    obtain ⟨cs, vs, h1⟩ := readAt_sound hK h (st.ok n) (st.lt n)
    exact ⟨_, _, cs, vs, hp, h1⟩
  · rename_i e sz b i j
    simp only [VV.is, V1.is, C.is, C.plain] at hp
    obtain ⟨cs, vs, h1⟩ := readRp_sound hK st h
    exact ⟨_, _, cs, vs, hp, h1⟩
  · rename_i e sz b o i j
    simp only [VV.is, V1.is, C.is, C.plain] at hp
    obtain ⟨cs, vs, h1⟩ := readLay_sound hK st h
    exact ⟨_, _, cs, vs, hp, h1⟩
  · exact h.elim
/-- A bag goes on, the rest stays. -/
theorem HeapOK.bagStep {S : Nat → Prop} {w0 w w' : World} {r : Nat → Ref} {H : VH K} (st : HeapOK S w0 r H w) {m : Nat} {φ φ' : Bag K} (hm : at_ H m = .bag φ)
    (os : w'.os = w.os) (tape : w'.tape = w.tape) (output : w'.output = w.output) (size : w.heap.size ≤ w'.heap.size)
    (hw : ∀ b, b < w.heap.size → (∀ i, φ b ≠ some i) → w'.heap[b]? = w.heap[b]?)
    (hok : ∀ b i, φ' b = some i → i.ok b w') (hdom : ∀ b i, φ' b = some i → (∃ i', φ b = some i') ∨ w.heap.size ≤ b) : HeapOK S w0 r (H.set m (.bag φ')) w' := by
  have hn : m < H.length := at_lt (by rw [hm]; simp)
  have hbm : ∀ b, blkOf r H m b ↔ ∃ i, φ b = some i := fun b => by simp only [blkOf, hm, Atom.has]
  refine st.evolve (fun n => n = m) (RoKeep.set hn rfl) (by simp) (fun _ _ => rfl) (fun n _ ht => by rw [at_set hn, if_neg ht]) os tape output size (fun b hb hne => ?_) (fun n hn' hc => ?_) (fun n b hc hb => ?_) (fun n n' b hne hc hc' hb hb' => ?_)
  · refine hw b hb fun i hi => hne m rfl ((hbm b).2 ⟨i, hi⟩)
  · have hnm : n = m := hc.resolve_right (by simp at hn'; omega)
    subst hnm
    rw [at_set hn, if_pos rfl]
    exact ⟨hok, trivial⟩
  · rcases hc with rfl | hge
    · simp only [blkOf, at_set hn, if_true, Atom.has] at hb
      obtain ⟨i, hi⟩ := hb
      rcases hdom b i hi with h | h
      · exact .inl ⟨n, rfl, (hbm b).2 h⟩
      · exact .inr h
    · simp [blkOf, at_ge (H := H.set m _) (by simpa using hge), Atom.has] at hb
  · rcases hc with rfl | hge
    · rcases hc' with rfl | hge'
      · exact hne rfl
      · simp [blkOf, at_ge (H := H.set n _) (by simpa using hge'), Atom.has] at hb'
    · simp [blkOf, at_ge (H := H.set m _) (by simpa using hge), Atom.has] at hb
/-- A row that is known by its place, as a state of its own. -/
theorem miniOK {b cap : Nat} {kd : K.Kd} {xs : List (K.α kd)} {w : World} (h : BI.ok b w (.row kd cap xs)) : HeapOK (fun c => b = c) w (fun _ => ⟨b, K.size kd, cap, false, 0⟩) [.arr kd xs] w := by
  have off : ∀ n, n ≠ 0 → at_ [Atom.arr kd xs] n = .gone := fun n hn => at_ge (by simp; omega)
  refine ⟨fun n => ?_, fun n => ?_, fun n m c hne h1 h2 => ?_, fun n c h1 => ?_, fun n m c h1 => ?_, ⟨rfl, rfl, rfl, Nat.le_refl _, fun _ _ _ => rfl⟩⟩
  · by_cases e : n = 0
    · subst e; exact rowOk h
    · rw [off n e]; trivial
  · by_cases e : n = 0
    · subst e; trivial
    · rw [off n e]; trivial
  · by_cases e : n = 0
    · have e' : m ≠ 0 := fun h => hne (by rw [e, h])
      rw [blkOf, off m e'] at h2; exact h2
    · rw [blkOf, off n e] at h1; exact h1
  · by_cases e : n = 0
    · subst e; exact .inl h1.2
    · rw [blkOf, off n e] at h1; exact h1.elim
  · by_cases e : n = 0
    · subst e; simp [rbOf, at_, Atom.rb] at h1
    · rw [rbOf, off n e] at h1; simp [Atom.rb] at h1
def writeRow (H : VH K) (e : TypeId) (sz b i j : Nat) (cs : List C) (k : VH K → Prop) : Prop :=
  match K.ofType e with
  | some kd => guardP (sz == K.size kd) (anyBag H fun n φ => ∃ cap xs, φ b = some (.row kd cap xs) ∧ i < xs.length ∧ guardP (Nat.ble (j + cs.length) (K.size kd)) (match K.dec kd (splice (K.enc kd (rd xs i (K.dflt kd))) j cs) with
      | some x => k (H.set n (.bag (bput φ b (.row kd cap (xs.set i x)))))
      | none => False))
  | none => False
theorem writeRow_sound (hK : K.Ok) {S : Nat → Prop} {w0 w : World} {r : Nat → Ref} {H : VH K} {e : TypeId} {sz b i j : Nat} {cs : List C} {k : VH K → Prop} (h : writeRow H e sz b i j cs k) (st : HeapOK S w0 r H w)
    {vs : List Value} (hr : Rel r cs vs) :
    ∃ w' H', RoKeep H H' ∧ (∀ P : Program, (storeCells ⟨b, i * sz + j, none⟩ vs).run P w = .ok () w') ∧ k H' ∧ H'.length = H.length ∧ HeapOK S w0 r H' w' := by
  unfold writeRow at h
  split at h
  · rename_i kd hkd
    obtain ⟨hg, h'⟩ := guardP_iff.1 h
    clear h
    simp only [beq_iff_eq] at hg
    subst hg
    have h := h'
    obtain ⟨n, φ, hn, cap, xs, hφ, hi, h⟩ := anyBag_at h
    obtain ⟨hfit, h⟩ := guardP_iff.1 h
    split at h
    · rename_i x hd
      have hok := st.ok n
      rw [hn] at hok
      have he := hK.dec kd _ _ hd
      have hcs : ∀ c ∈ cs, c.nm = none := fun c hc => by
        have : c ∈ K.enc kd x := by rw [he]; simp [splice, hc]
        exact hK.nm kd x c this
      have hvs := Rel.of_plain hcs hr
      have hr' : Rel (fun _ => (⟨b, K.size kd, cap, false, 0⟩ : Ref)) cs vs := by rw [hvs]; exact Rel.plain hcs
      have hw : writeAt [Atom.arr kd xs] 0 i j cs (fun H' => H' = [.arr kd (xs.set i x)]) := by
        show i < xs.length ∧ guardP (Nat.ble (j + cs.length) (K.size kd)) _
        refine ⟨hi, guardP_iff.2 ⟨hfit, ?_⟩⟩
        rw [hd]
        rfl
      obtain ⟨w', H', _, hrun, rfl, _, st'⟩ := writeAt_sound hK hw (miniOK (hok b _ hφ)) hr' (fun c hc n hn => by rw [hcs c hc] at hn; cases hn)
      have hrow : BI.ok b w' (.row kd cap (xs.set i x)) := (st'.ok 0).2.2
      have hn' : n < H.length := at_lt (by rw [hn]; simp)
      refine ⟨w', _, RoKeep.set hn' rfl, fun P => by simpa using hrun P, h, by simp, ?_⟩
      have out : ∀ c, c < w.heap.size → b ≠ c → w'.heap[c]? = w.heap[c]? := fun c hc hne => st'.out.block c hc hne
      refine st.bagStep hn st'.out.os st'.out.tape st'.out.output st'.out.size (fun c hc hno => out c hc fun e => hno _ (e ▸ hφ)) (fun c i' hc => ?_) (fun c i' hc => ?_)
      · unfold bput at hc
        split at hc
        · rename_i e
          injection hc with hc
          subst e hc; exact hrow
        · rename_i hne
          have := hok c i' hc
          exact BI.ok_keep (i := i') this (out c (BI.ok_lt (i := i') this) (Ne.symm hne))
      · unfold bput at hc
        split at hc
        · rename_i e; subst e; exact .inl ⟨_, hφ⟩
        · exact .inl ⟨_, hc⟩
    · exact h.elim
  · exact h.elim
def writeBox (H : VH K) (b j : Nat) (cs : List C) (k : VH K → Prop) : Prop :=
  anyBag H fun n φ => ∃ T old, φ b = some (.box T old) ∧ j + cs.length ≤ old.length ∧ guardP (cs.all fun c => c.nm.isNone && c.one) (k (H.set n (.bag (bput φ b (.box T (splice old j cs))))))
/-- Cells that are known by their place, as a state of their own. -/
theorem miniBox {b : Nat} {T : TypeId} {cs : List C} {w : World} (h : BI.ok (K := K) b w (.box T cs)) : HeapOK (K := K) (fun c => b = c) w (fun _ => ⟨b, 0, 0, false, 0⟩) [.cells T cs] w := by
  have off : ∀ n, n ≠ 0 → at_ ([Atom.cells T cs] : VH K) n = .gone := fun n hn => at_ge (by simp; omega)
  refine ⟨fun n => ?_, fun n => ?_, fun n m c hne h1 h2 => ?_, fun n c h1 => ?_, fun n m c h1 => ?_, ⟨rfl, rfl, rfl, Nat.le_refl _, fun _ _ _ => rfl⟩⟩
  · by_cases e : n = 0
    · subst e; exact boxOk h
    · rw [off n e]; trivial
  · by_cases e : n = 0
    · subst e; exact fun c hc => ⟨fun n hn => (by rw [(h.1 c hc).1] at hn; cases hn), (h.1 c hc).2⟩
    · rw [off n e]; trivial
  · by_cases e : n = 0
    · have e' : m ≠ 0 := fun h => hne (by rw [e, h])
      rw [blkOf, off m e'] at h2; exact h2
    · rw [blkOf, off n e] at h1; exact h1
  · by_cases e : n = 0
    · subst e; exact .inl h1
    · rw [blkOf, off n e] at h1; exact h1.elim
  · by_cases e : n = 0
    · subst e; simp [rbOf, at_, Atom.rb] at h1
    · rw [rbOf, off n e] at h1; simp [Atom.rb] at h1
theorem writeBox_sound (hK : K.Ok) {S : Nat → Prop} {w0 w : World} {r : Nat → Ref} {H : VH K} {b j : Nat} {cs : List C} {k : VH K → Prop} (h : writeBox H b j cs k) (st : HeapOK S w0 r H w)
    {vs : List Value} (hr : Rel r cs vs) :
    ∃ w' H', RoKeep H H' ∧ (∀ P : Program, (storeCells ⟨b, j, none⟩ vs).run P w = .ok () w') ∧ k H' ∧ H'.length = H.length ∧ HeapOK S w0 r H' w' := by
  obtain ⟨n, φ, hn, T, old, hφ, hl, h⟩ := anyBag_at h
  obtain ⟨hcs, h⟩ := guardP_iff.1 h
  have hcs : ∀ c ∈ cs, c.nm = none ∧ c.one = true := fun c hc => by
    have := List.all_eq_true.1 hcs c hc
    simpa using this
  have hok := st.ok n
  rw [hn] at hok
  have hb : BI.ok b w (.box T old) := hok b _ hφ
  have hvs := Rel.of_plain (fun c hc => (hcs c hc).1) hr
  have hr' : Rel (fun _ => (⟨b, 0, 0, false, 0⟩ : Ref)) cs vs := by rw [hvs]; exact Rel.plain fun c hc => (hcs c hc).1
  have hw : writeAt ([Atom.cells T old] : VH K) 0 0 j cs (fun H' => H' = [.cells T (splice old j cs)]) := by
    show guardP _ _
    refine guardP_iff.2 ⟨?_, rfl⟩
    simp only [beq_self_eq_true, Bool.true_and, Bool.and_eq_true, Nat.ble_eq]
    exact ⟨hl, List.all_eq_true.2 fun c hc => (hcs c hc).2⟩
  obtain ⟨w', H', _, hrun, rfl, _, st'⟩ := writeAt_sound hK hw (miniBox hb) hr' (fun c hc n hn => by rw [(hcs c hc).1] at hn; cases hn)
  have hbox : BI.ok (K := K) b w' (.box T (splice old j cs)) := by
    have hall : ∀ c ∈ splice old j cs, c.nm = none ∧ c.one = true := fun c hc => by
      simp only [splice, List.mem_append] at hc
      rcases hc with (hc | hc) | hc
      · exact hb.1 c (List.mem_of_mem_take hc)
      · exact hcs c hc
      · exact hb.1 c (List.mem_of_mem_drop hc)
    obtain ⟨_, us, hv, hru⟩ := st'.ok 0
    rw [Rel.of_plain (fun c hc => (hall c hc).1) hru] at hv
    exact ⟨hall, hv⟩
  have hn' : n < H.length := at_lt (by rw [hn]; simp)
  refine ⟨w', _, RoKeep.set hn' rfl, fun P => by simpa using hrun P, h, by simp, ?_⟩
  have out : ∀ c, c < w.heap.size → b ≠ c → w'.heap[c]? = w.heap[c]? := fun c hc hne => st'.out.block c hc hne
  refine st.bagStep hn st'.out.os st'.out.tape st'.out.output st'.out.size (fun c hc hno => out c hc fun e => hno _ (e ▸ hφ)) (fun c i' hc => ?_) (fun c i' hc => ?_)
  · unfold bput at hc
    split at hc
    · rename_i e
      injection hc with hc
      subst e hc; exact hbox
    · rename_i hne
      have := hok c i' hc
      exact BI.ok_keep (i := i') this (out c (BI.ok_lt (i := i') this) (Ne.symm hne))
  · unfold bput at hc
    split at hc
    · rename_i e; subst e; exact .inl ⟨_, hφ⟩
    · exact .inl ⟨_, hc⟩
def writeRp (H : VH K) (e : TypeId) (sz b i j : Nat) (cs : List C) (k : VH K → Prop) : Prop :=
  match sz with
  | 0 => writeBox H b j cs k
  | sz + 1 => writeRow H e (sz + 1) b i j cs k
theorem writeRp_sound (hK : K.Ok) {S : Nat → Prop} {w0 w : World} {r : Nat → Ref} {H : VH K} {e : TypeId} {sz b i j : Nat} {cs : List C} {k : VH K → Prop} (h : writeRp H e sz b i j cs k) (st : HeapOK S w0 r H w)
    {vs : List Value} (hr : Rel r cs vs) :
    ∃ w' H', RoKeep H H' ∧ (∀ P : Program, (storeCells ⟨b, i * sz + j, none⟩ vs).run P w = .ok () w') ∧ k H' ∧ H'.length = H.length ∧ HeapOK S w0 r H' w' := by
  cases sz with
  | zero => simpa using writeBox_sound hK h st hr
  | succ sz => exact writeRow_sound hK h st hr
end Go.Proofs.YtndlpbheifalhaaGreatDoor.E
end
section
namespace Go.Proofs.YtndlpbheifalhaaGreatDoor.V
set_option linter.unusedVariables false
set_option linter.unusedSimpArgs false
/-- What a number that stands at a place comes to. -/
inductive NR | ok (n : Int) (k : Nat) | form (i : Nat) | short
def numR : List Int → Nat → Int → NR
  | [], _, _ => .short
  | c :: t, i, n => if (c = 0 ∧ 0 < i) ∨ (c ≠ 1 ∧ i = 9) then .form i else if c < 128 then .ok (n + c % 128 * 128 ^ i) (i + 1) else numR t (i + 1) (n + c % 128 * 128 ^ i)
/-- A reader: its bytes, how many are taken, the first fault. -/
structure St where
  l : List Int
  p : Nat
  e : Option (Int × Int)
def St.rest (s : St) : List Int := s.l.drop s.p
def St.bad (s : St) (at_ e : Int) : St := { s with e := some (at_, e) }
def rawO (s : St) (n : Int) : List Int × St := match s.e with
  | some _ => ([], s)
  | none => if (s.l.length : Int) - s.p < max n 0 then ([], s.bad s.l.length 10) else (s.rest.take n.toNat, { s with p := s.p + n.toNat })
def byteO (s : St) : Int × St := ((rawO s 1).1.headD 0, (rawO s 1).2)
def uintO (s : St) (most : Int) : Int × St := match s.e with
  | some _ => (0, s)
  | none => match numR s.rest 0 0 with
    | .short => (0, s.bad s.l.length 10)
    | .form i => (0, s.bad (s.p + i) 11)
    | .ok n k => if most < n then (0, s.bad s.p 12) else (n, { s with p := s.p + k })
/-- Bytes as a text. -/
def txI (l : List Int) : ByteArray := ⟨(l.map fun n => UInt8.ofNat n.toNat).toArray⟩
def textO (s : St) (most : Int) : ByteArray × St := match s.e with
  | some _ => (⟨#[]⟩, s)
  | none => match numR s.rest 0 0 with
    | .short => (⟨#[]⟩, s.bad s.l.length 10)
    | .form i => (⟨#[]⟩, s.bad (s.p + i) 11)
    | .ok n k => if most < 0 ∨ most < n then (⟨#[]⟩, s.bad s.p 12) else if (s.l.length : Int) - s.p - k < n then (⟨#[]⟩, s.bad s.l.length 10)
      else (txI ((s.l.drop (s.p + k)).take n.toNat), { s with p := s.p + k + n.toNat })
def endO (s : St) : St := match s.e with
  | some _ => s
  | none => if s.p < s.l.length then s.bad s.p 13 else s
/-- What a reader stays: within its bytes. -/
structure St.Ok (s : St) : Prop where
  le : s.p ≤ s.l.length
  few : s.l.length ≤ 1000000
  byte : ∀ c ∈ s.l, 0 ≤ c ∧ c < 256
  err : ∀ q, s.e = some q → (0 ≤ q.1 ∧ q.1 ≤ 1000000) ∧ 1 ≤ q.2 ∧ q.2 ≤ 100
theorem numR_ok : ∀ (l : List Int) (i : Nat) (n : Int) {v : Int} {k : Nat}, (∀ c ∈ l, 0 ≤ c ∧ c < 256) → i ≤ 9 → 0 ≤ n → n < 128 ^ i → numR l i n = .ok v k → (0 ≤ v ∧ v < 18446744073709551616) ∧ k ≤ 10 ∧ i < k ∧ k ≤ i + l.length
  | [], i, n, v, k, _, _, _, _, h => by cases h
  | c :: t, i, n, v, k, hb, hi, h0, h1, h => by
    obtain ⟨b0, b1⟩ := hb c (by simp)
    unfold numR at h
    split at h
    · cases h
    · rename_i hc
      have hp : (0 : Int) < 128 ^ i := Int.pow_pos (by decide)
      have hm0 : 0 ≤ c % 128 := Int.emod_nonneg _ (by decide)
      have hm1 : c % 128 < 128 := Int.emod_lt_of_pos _ (by decide)
      have hprod : 0 ≤ c % 128 * 128 ^ i := Int.mul_nonneg hm0 (Int.le_of_lt hp)
      split at h
      · cases h
        refine ⟨⟨by omega, ?_⟩, by omega, by omega, by simp⟩
        by_cases h9 : i = 9
        · subst h9
          have hc1 : c = 1 := by
            by_cases e : c = 1
            · exact e
            · exact absurd (.inr ⟨e, rfl⟩) hc
          subst hc1
          have e9 : (128 : Int) ^ 9 = 9223372036854775808 := by decide
          rw [e9] at h1 ⊢
          omega
        · have hle : (128 : Int) ^ i ≤ 128 ^ 8 := by
            have := Nat.pow_le_pow_right (show 1 ≤ 128 by decide) (show i ≤ 8 by omega)
            exact_mod_cast this
          have e8 : (128 : Int) ^ 8 = 72057594037927936 := by decide
          have h2 : c % 128 * 128 ^ i ≤ 127 * 128 ^ i := Int.mul_le_mul_of_nonneg_right (by omega) (Int.le_of_lt hp)
          rw [e8] at hle
          omega
      · rename_i hge
        have h9 : i ≠ 9 := fun e => by
          by_cases e1 : c = 1
          · omega
          · exact hc (.inr ⟨e1, e⟩)
        have hstep : n + c % 128 * 128 ^ i < 128 ^ (i + 1) := by
          have h2 : c % 128 * 128 ^ i ≤ 127 * 128 ^ i := Int.mul_le_mul_of_nonneg_right (by omega) (Int.le_of_lt hp)
          rw [Int.pow_succ]
          omega
        obtain ⟨r1, r2, r3, r4⟩ := numR_ok t (i + 1) _ (fun d hd => hb d (by simp [hd])) (by omega) (by omega) hstep h
        exact ⟨r1, r2, by omega, by simp; omega⟩
theorem numR_form : ∀ (l : List Int) (i : Nat) (n : Int) {j : Nat}, numR l i n = .form j → i ≤ j ∧ j < i + l.length
  | [], i, n, j, h => by cases h
  | c :: t, i, n, j, h => by
    unfold numR at h
    split at h
    · cases h; simp
    · split at h
      · cases h
      · obtain ⟨r1, r2⟩ := numR_form t (i + 1) _ h
        exact ⟨by omega, by simp; omega⟩
theorem St.Ok.rest {s : St} (h : s.Ok) : ∀ c ∈ s.rest, 0 ≤ c ∧ c < 256 := fun c hc => h.byte c (List.mem_of_mem_drop hc)
theorem St.Ok.rest_len {s : St} (h : s.Ok) : s.rest.length = s.l.length - s.p := by unfold St.rest; simp
theorem St.Ok.bad {s : St} (h : s.Ok) {a e : Int} (ha : 0 ≤ a ∧ a ≤ 1000000) (he : 1 ≤ e ∧ e ≤ 100) : (s.bad a e).Ok := ⟨h.le, h.few, h.byte, fun q hq => by cases hq; exact ⟨ha, he⟩⟩
theorem St.Ok.step {s : St} (h : s.Ok) {k : Nat} (hk : s.p + k ≤ s.l.length) : ({ s with p := s.p + k } : St).Ok := ⟨hk, h.few, h.byte, h.err⟩
theorem rawO_ok {s : St} (h : s.Ok) (n : Int) : (rawO s n).2.Ok ∧ (rawO s n).2.l = s.l := by
  unfold rawO
  split
  · exact ⟨h, rfl⟩
  · have h1 := h.le
    have h2 := h.few
    split
    · exact ⟨h.bad (by omega) (by omega), rfl⟩
    · exact ⟨h.step (by omega), rfl⟩
theorem byteO_ok {s : St} (h : s.Ok) : (byteO s).2.Ok ∧ (byteO s).2.l = s.l := rawO_ok h 1
theorem uintO_ok {s : St} (h : s.Ok) (m : Int) : (uintO s m).2.Ok ∧ (uintO s m).2.l = s.l := by
  have h1 := h.le
  have h2 := h.few
  have h3 := h.rest_len
  unfold uintO
  split
  · exact ⟨h, rfl⟩
  · split
    · exact ⟨h.bad (by omega) (by omega), rfl⟩
    · rename_i i hi
      obtain ⟨_, q⟩ := numR_form _ _ _ hi
      exact ⟨h.bad (by omega) (by omega), rfl⟩
    · rename_i n k hk
      obtain ⟨_, _, _, q⟩ := numR_ok _ _ _ h.rest (by decide) (by decide) (by decide) hk
      split
      · exact ⟨h.bad (by omega) (by omega), rfl⟩
      · exact ⟨h.step (by omega), rfl⟩
theorem textO_ok {s : St} (h : s.Ok) (m : Int) : (textO s m).2.Ok ∧ (textO s m).2.l = s.l := by
  have h1 := h.le
  have h2 := h.few
  have h3 := h.rest_len
  unfold textO
  split
  · exact ⟨h, rfl⟩
  · split
    · exact ⟨h.bad (by omega) (by omega), rfl⟩
    · rename_i i hi
      obtain ⟨_, q⟩ := numR_form _ _ _ hi
      exact ⟨h.bad (by omega) (by omega), rfl⟩
    · rename_i n k hk
      obtain ⟨q0, _, _, q⟩ := numR_ok _ _ _ h.rest (by decide) (by decide) (by decide) hk
      split
      · exact ⟨h.bad (by omega) (by omega), rfl⟩
      · split
        · exact ⟨h.bad (by omega) (by omega), rfl⟩
        · rename_i hn
          have hn' : ¬ ((s.l.length : Int) - s.p - k < n) := hn
          have hle : s.p + k + n.toNat ≤ s.l.length := by omega
          exact ⟨⟨hle, h.few, h.byte, h.err⟩, rfl⟩
theorem endO_ok {s : St} (h : s.Ok) : (endO s).Ok ∧ (endO s).l = s.l := by
  have h1 := h.le
  have h2 := h.few
  unfold endO
  split
  · exact ⟨h, rfl⟩
  · split
    · exact ⟨h.bad (by omega) (by omega), rfl⟩
    · exact ⟨h, rfl⟩
end Go.Proofs.YtndlpbheifalhaaGreatDoor.V
end
