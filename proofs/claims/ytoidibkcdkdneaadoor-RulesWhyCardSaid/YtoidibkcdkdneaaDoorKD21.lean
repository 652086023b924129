/- Text 22 of 24 texts that prove the statement of RowWhy; it holds without conditions beyond the statement's own. -/
import Derived.Laws.AppendOwn
import Derived.Laws.OwnMore
import Derived.Deep.MidRow
import Derived.Calls
import Derived.Deep.AppendSrc
import Derived.Maps.AppendAt
import Derived.IntWalk
import Derived.Tactics
import Derived.Laws.StructEq
import Derived.Orders
import Derived.Scope
import Derived.Deep.LoopGhost
import GoSem.Core.Utf8
import Derived.Laws.RangeAny
import Derived.Below
import Derived.Deep.Draws
import Derived.Deep.AppendLies
import Derived.OwnWalk
import Derived.Laws.BytesArg
import Derived.Laws.MakeOwn
import Derived.Deep.OwnRows
import Derived.Lib.ConvBytes
import Derived.Laws.Slices
import Derived.WalkKit
import Derived.KernelRfl
import Derived.RowKit3
import Derived.Deep.QuietTactic
import Derived.BigQuiet
import Derived.WideLaws
import Derived.Deep.DeepCutAuto
import Derived.Deep.CutBlock
import Derived.Deep.RegionHeld3
import Derived.Laws.Rows
import Derived.Lib.AppendStr
import Derived.ArgAppend
import Derived.Laws.IdiomCopy
import Derived.RowKit
import Derived.OrdersHeld
import Derived.Laws.BitsLemmas
import Derived.Test.YtoidibkcdkdneaaDoorProg
import Derived.Lib.OthersKept
import Derived.WalkSmall
import Derived.Shelf.Strings.Builder1
import Derived.Shelf.Strings.Builder2
import Derived.Shelf.Strings.OnBuilder
import Derived.Shelf.Small.Wraps
import Derived.Shelf.Strings.Search1
import Derived.Shelf.Strings.Search2
import Derived.Shelf.Strings.Search3
import Derived.Shelf.Strings.Count
import Derived.Shelf.LaysM
import Derived.Shelf.Strings.Shaped
import Derived.Shelf.Strings.LastIndex
import Derived.Shelf.Strings.Prefix
import Derived.Shelf.Strings.Split
import Derived.Shelf.Unicode.DecodeSlow
import Derived.WalkLawsBesides
import Derived.StillTailTactics
import Derived.Lib.Split
import Derived.Lib.LastIndexByte
import Derived.Lib.Join
import Derived.Test.YtoidibkcdkdneaaDoorKD6
import Derived.Test.YtoidibkcdkdneaaDoorKD12
import Derived.Test.YtoidibkcdkdneaaDoorKD20
namespace Foot
end Foot
namespace Go.Proofs
end Go.Proofs
namespace Go.Proofs.YtoidibkcdkdneaaDoor
end Go.Proofs.YtoidibkcdkdneaaDoor
namespace Go.Proofs.YtoidibkcdkdneaaDoor.E
end Go.Proofs.YtoidibkcdkdneaaDoor.E
namespace Go.Proofs.YtoidibkcdkdneaaDoor.Hand
end Go.Proofs.YtoidibkcdkdneaaDoor.Hand
namespace Go.Proofs.YtoidibkcdkdneaaDoor.MPat
end Go.Proofs.YtoidibkcdkdneaaDoor.MPat
namespace Go.Proofs.YtoidibkcdkdneaaDoor.MStr
end Go.Proofs.YtoidibkcdkdneaaDoor.MStr
namespace Go.Proofs.YtoidibkcdkdneaaDoor.PRead
end Go.Proofs.YtoidibkcdkdneaaDoor.PRead
namespace Go.Proofs.YtoidibkcdkdneaaDoor.PSplit
end Go.Proofs.YtoidibkcdkdneaaDoor.PSplit
namespace Go.Proofs.YtoidibkcdkdneaaDoor.R
end Go.Proofs.YtoidibkcdkdneaaDoor.R
namespace Go.Proofs.YtoidibkcdkdneaaDoor.T
end Go.Proofs.YtoidibkcdkdneaaDoor.T
namespace Go.Proofs.YtoidibkcdkdneaaDoor.TR
end Go.Proofs.YtoidibkcdkdneaaDoor.TR
namespace Go.Proofs.YtoidibkcdkdneaaDoor.TrulesWhy
end Go.Proofs.YtoidibkcdkdneaaDoor.TrulesWhy
namespace Go.Proofs.YtoidibkcdkdneaaDoorW.PrintLast
end Go.Proofs.YtoidibkcdkdneaaDoorW.PrintLast
namespace Go.Proofs.YtoidibkcdkdneaaDoorW.PrintMore
end Go.Proofs.YtoidibkcdkdneaaDoorW.PrintMore
namespace Go.Proofs.YtoidibkcdkdneaaDoorW.PrintWords
end Go.Proofs.YtoidibkcdkdneaaDoorW.PrintWords
namespace Kd
end Kd
section
namespace Go.Proofs.YtoidibkcdkdneaaDoor.T
open Go.Proofs.YtoidibkcdkdneaaDoor.E
inductive Kd | str | rule | line | hd | bool | sgn
  deriving DecidableEq
@[reducible] def Kd.α : Kd → Type | .str => ByteArray | .rule => Int × ByteArray | .line => Int × ByteArray × Nat | .hd => Int × ByteArray | .bool => Bool | .sgn => Bool × Bool × Int
def KK : Kinds where
  Kd := Kd
  deq := inferInstance
  α := Kd.α
  size := fun | .str => 1 | .rule => 2 | .line => 3 | .hd => 2 | .bool => 1 | .sgn => 3
  elem := fun | .str => 9 | .rule => 50 | .line => 71 | .hd => 77 | .bool => 4 | .sgn => 110
  enc := fun
    | .str => fun x => [.str x]
    | .rule => fun x => [.int .i64 x.1, .str x.2]
    | .line => fun x => [.int .i64 x.1, .str x.2.1, .fn 54 [(50, x.2.2)]]
    | .hd => fun x => [.int .i64 x.1, .str x.2]
    | .bool => fun x => [.bool x]
    | .sgn => fun x => [.bool x.1, .bool x.2.1, .int .u8 x.2.2]
  dec := fun
    | .str => fun | [.str x] => some x | _ => none
    | .rule => fun | [.int .i64 x, .str y] => some (x, y) | _ => none
    | .line => fun | [.int .i64 x, .str y, .fn 54 [(50, b)]] => some (x, y, b) | _ => none
    | .hd => fun | [.int .i64 x, .str y] => some (x, y) | _ => none
    | .bool => fun | [.bool x] => some x | _ => none
    | .sgn => fun | [.bool x, .bool y, .int .u8 z] => some (x, y, z) | _ => none
  dflt := fun | .str => (ByteArray.empty : ByteArray) | .rule => ((0 : Int), ByteArray.empty) | .line => ((0 : Int), ByteArray.empty, (0 : Nat)) | .hd => ((0 : Int), ByteArray.empty) | .bool => false | .sgn => (false, false, (0 : Int))
  ofType := fun | 9 => some .str | 50 => some .rule | 71 => some .line | 77 => some .hd | 4 => some .bool | 110 => some .sgn | _ => none
theorem KK_ok : KK.Ok where
  pos := fun k => by cases k <;> decide
  len := fun k x => by cases k <;> rfl
  one := fun k x => List.all_eq_true.1 (by cases k <;> rfl)
  nm := fun k x c hc => Option.isNone_iff_eq_none.1 (List.all_eq_true.1 (show (KK.enc k x).all (fun c => c.nm.isNone) = true by cases k <;> rfl) c hc)
  dec := fun k cs x h => by
    cases k <;> simp only [KK] at h ⊢ <;> split at h <;> first | (injection h with h; subst h; rfl) | cases h
/-- Where the tables lie. -/
structure Tb where
  hb : Nat
  ob : Obj
  ho : Nat
  m : Int
  T0 : TypeId
  T1 : TypeId
  p0 : Nat × Nat
  p1 : Nat × Nat
def headsL : List (Int × ByteArray) := [((1 : Int), ⟨#[115, 107, 105, 112, 32]⟩), ((2 : Int), ⟨#[112, 114, 101, 102, 101, 114, 32, 97, 32]⟩), ((3 : Int), ⟨#[112, 114, 101, 102, 101, 114, 32, 98, 32]⟩)]
def headsC (t : Tb) : C := .ls 77 t.hb t.ho 3 3
/-- The tables stand in the bag. -/
def HasT (t : Tb) (φ : Bag KK) : Prop := φ 0 = some (.tab t.T0 t.p0 [headsC t]) ∧ φ 1 = some (.tab t.T1 t.p1 [.int .i64 t.m]) ∧ φ t.hb = some (.lay t.ho Kd.hd headsL t.ob)
def base (t : Tb) : TabBase Tryd.prog := ⟨by kernel_rfl, fun | 0 => some (headsC t) | _ => none⟩
def mixed : TabBase Tryd.prog := ⟨by kernel_rfl, fun _ => none⟩
def tab0 : Tab Tryd.prog KK := ⟨mixed, fun _ _ _ => none, fun _ _ _ _ _ _ h => nomatch h⟩
def ann0 : Ann KK := { loop := fun _ _ _ => none, cut := fun _ _ _ => none }
abbrev anys (n : Nat) : List VV := List.replicate n .any
theorem into_mk {N0 : Nat} {ks : List KK.Kd} {τ : List Nat} {vs : List VV} {H : VH KK} {us : List VV} {H' : VH KK}
    (hg : (nodupB (live τ H') && (τ.all (fun n => Nat.blt n (H.length + ks.length)) && (prefB N0 τ && (Nat.ble N0 H'.length && (us.all (VV.ltB H'.length) && (H'.all (Atom.ltB H'.length))))))) = true)
    (h1 : EqVs H.length (fun n => τ.getD n 0) vs us) (h2 : EqH H.length (fun n => τ.getD n 0) (H ++ nilsOf ks) τ H') : Into N0 ks τ vs H us H' := guardP_iff.2 ⟨hg, h1, h2⟩
abbrev i64 (n : Int) : VV := .c (.int .i64 n)
abbrev boolv (b : Bool) : VV := .c (.bool b)
abbrev strv (s : ByteArray) : VV := .c (.str s)
end Go.Proofs.YtoidibkcdkdneaaDoor.T
end
section
namespace Go.Proofs.YtoidibkcdkdneaaDoor.T
open Go.Proofs.YtoidibkcdkdneaaDoor.E Go.Proofs.YtoidibkcdkdneaaDoor.MStr Go.Proofs.YtoidibkcdkdneaaDoor.R
open Go.RowKit
set_option maxRecDepth 100000
set_option linter.unusedVariables false
theorem ite2_mk {b : Bool} {p q : Prop} (h1 : b = true → p) (h2 : b = false → q) : ite2 b p q := by
  cases b
  · exact h2 rfl
  · exact h1 rfl
theorem flat_strs (l : List ByteArray) : (flat (K := KK) Kd.str l).map C.plain = l.map Value.string := by
  induction l with
  | nil => rfl
  | cons x t ih =>
    show Value.string x :: (flat (K := KK) Kd.str t).map C.plain = Value.string x :: t.map Value.string
    exact congrArg _ ih
theorem empty_ok {r : Nat → Ref} {w w' : World} (st : HeapOK (K := KK) (Ours r ([] : VH KK)) w r [] w) (h : Below w.heap.size w w') : HeapOK (K := KK) (Ours r ([] : VH KK)) w r [] w' := by
  have off : ∀ n, at_ ([] : VH KK) n = .gone := fun n => at_ge (by simp)
  refine ⟨fun n => by rw [off]; trivial, fun n => by rw [off]; trivial, fun n m b _ h1 => ?_, fun n b h1 => ?_, fun n m b h1 => ?_, ⟨h.os, h.tape, h.output, h.size, fun b hb _ => h.block b hb⟩⟩
  · rw [blkOf, off] at h1; exact h1.elim
  · rw [blkOf, off] at h1; exact h1.elim
  · rw [rbOf, off] at h1; simp [Atom.rb] at h1
theorem reps_strs {M : ByteArray → List Value → Prop} {l : List ByteArray} {cs : List Value} (hM : ∀ x c, M x c → c = [Value.string x]) (h : Go.Proofs.YtoidibkcdkdneaaDoorW.PrintWords.Reps M 1 l cs) : cs = l.map Value.string := by
  obtain ⟨h1, h2⟩ := h
  apply List.ext_getElem?
  intro j
  rw [List.getElem?_map]
  cases hj : l[j]? with
  | none =>
    have := List.getElem?_eq_none_iff.1 hj
    rw [List.getElem?_eq_none (by omega)]; rfl
  | some x =>
    have h3 := hM _ _ (h2 j x hj)
    have h4 : ((cs.drop (j * 1)).take 1)[0]? = some (Value.string x) := by rw [h3]; rfl
    rw [List.getElem?_take, if_pos (by decide), List.getElem?_drop] at h4
    simpa using h4
/-- A list of texts that a call made, as a list of one's own. -/
theorem own_texts {r : Nat → Ref} {w w' : World} {v : Value} {l : List ByteArray} (st : HeapOK (K := KK) (Ours r ([] : VH KK)) w r [] w) (hb : Go.RowKit.Below w.heap.size w w') (h : Go.Proofs.YtoidibkcdkdneaaDoorW.PrintWords.Kd.R Go.Proofs.YtoidibkcdkdneaaDoorW.PrintWords.Kd.string 9 w' w.heap.size (fun _ => True) v l) :
    ∃ r' : Nat → Ref, HeapOK (K := KK) (Ours r ([] : VH KK)) w r' [(.arr Kd.str l : Atom KK)] w' ∧ (C.slc 0 0 l.length none).is r' v := by
  obtain ⟨_, inner, ho, hr⟩ := h
  obtain rfl := reps_strs (fun x c hc => hc) hr
  have ho : w'.ownsRow w.heap.size 9 1 v l.length (l.map Value.string) := ho
  have hbase : ∀ b, v.ownBlock = some b → w.heap.size ≤ b := fun b hb => Go.Proofs.YtoidibkcdkdneaaDoorW.PrintWords.own_base ho b hb
  have ho0 : w'.ownsRow 0 (KK.elem Kd.str) (KK.size Kd.str) v l.length ((flat (K := KK) Kd.str l).map C.plain) := by
    rw [flat_strs]; exact Go.Proofs.YtoidibkcdkdneaaDoorW.PrintWords.own_weaken ho (Nat.zero_le _)
  obtain ⟨x, hx, hsz, st2⟩ := st.owned none (row := none) ⟨hb.os, hb.tape, hb.output, hb.size, fun b hb' _ => hb.block b hb'⟩ (fun b hb' => by cases hb') ho0 (fun b hb' => .inr (hbase b hb'))
  refine ⟨_, st2, ?_⟩
  rw [hx]
  exact val_is (N := 0) upd_new hsz.2
def ct_match (s p : ByteArray) : Ct KK := { need := p.size ≤ 1000000000, pre := [], args := [strv s, strv p], Y := Unit, ok := fun _ => True, ret := fun _ => .tup [.c (.bool (Hand.matchB s p).1), .c (.int .i64 (Hand.matchB s p).2)], post := fun _ => [] }
theorem match_ok (s p : ByteArray) : CtOk Tryd.prog 35 (ct_match s p) := by
  refine ⟨fun _ _ => rfl, fun hn r w vals st ha _ => ?_⟩
  match vals, ha with
  | [v0, v1], ⟨hv0, hv1, _⟩ =>
    have hv0 : v0 = .string s := hv0
    have hv1 : v1 = .string p := hv1
    subst hv0 hv1
    refine (Hand.match_calls s p hn w).mono ?_
    rintro e w' ⟨rfl, hb⟩
    exact ⟨_, rfl, r, _, _, ⟨(), trivial, rfl, rfl⟩, ⟨_, rfl, rfl, rfl, trivial⟩, (fun c hc => by
      simp only [List.mem_cons, List.not_mem_nil, or_false] at hc
      rcases hc with rfl | rfl <;> exact lt_of_nm rfl), Nat.le_refl _, fun _ _ => rfl, RoKeep.none rfl, empty_ok st hb⟩
/-- path.Split: its error, and a list. -/
def ct_psplit (s : ByteArray) (n : Int) : Ct KK := { need := s.size ≤ 1000000000, pre := [], args := [strv s, i64 n], Y := Unit, ok := fun _ => True, ret := fun _ => .tup [.c (.slc 0 0 (Hand.splitB s n).1.length none), .c (.int .i64 (Hand.splitB s n).2)], post := fun _ => [.arr .str (Hand.splitB s n).1] }
theorem psplit_ok (s : ByteArray) (n : Int) : CtOk Tryd.prog 28 (ct_psplit s n) := by
  refine ⟨fun _ _ => rfl, fun hn r w vals st ha _ => ?_⟩
  have hn : s.size ≤ 1000000000 := hn
  match vals, ha with
  | [v0, v1], ⟨hv0, hv1, _⟩ =>
    have hv0 : v0 = .string s := hv0
    have hv1 : v1 = .int .i64 n := hv1
    subst hv0 hv1
    refine (Hand.split_calls s n (by omega) w).mono ?_
    rintro e w' ⟨v, rfl, hR, hb⟩
    obtain ⟨r', st', hv⟩ := own_texts st hb hR
    exact ⟨_, rfl, r', _, _, ⟨(), trivial, rfl, rfl⟩, ⟨_, rfl, hv, rfl, trivial⟩, (fun c hc => by
      simp only [List.mem_cons, List.not_mem_nil, or_false] at hc
      rcases hc with rfl | rfl
      · intro n hn; simp [C.nm] at hn; subst hn; exact Nat.zero_lt_one
      · exact lt_of_nm rfl), Nat.zero_le _, fun n hn => absurd hn (Nat.not_lt_zero n), RoKeep.none rfl, st'⟩
def ct_last (s : ByteArray) (c : Int) : Ct KK := { need := s.size ≤ 1000000000, pre := [], args := [strv s, .c (.int .u8 c)], Y := Unit, ok := fun _ => True, ret := fun _ => i64 (Lib.lastIndexByte s c), post := fun _ => [] }
theorem last_ok (s : ByteArray) (c : Int) : CtOk Tryd.prog 57 (ct_last s c) := by
  refine ⟨fun _ _ => rfl, fun hn r w vals st ha _ => ?_⟩
  have hn : s.size ≤ 1000000000 := hn
  match vals, ha with
  | [v0, v1], ⟨hv0, hv1, _⟩ =>
    have hv0 : v0 = .string s := hv0
    have hv1 : v1 = .int .u8 c := hv1
    subst hv0 hv1
    refine (Tryd.strings_LastIndexByte s c (by omega) w).mono ?_
    rintro e w' ⟨rfl, rfl⟩
    exact ⟨_, rfl, r, _, _, ⟨(), trivial, rfl, rfl⟩, rfl, lt_of_nm rfl, Nat.le_refl _, fun _ _ => rfl, RoKeep.none rfl, st⟩
def ct_cutp (s p : ByteArray) : Ct KK := { need := True, pre := [], args := [strv s, strv p], Y := Unit, ok := fun _ => True, ret := fun _ => .tup [.c (.str (tx (Lib.trimPrefix s.data.toList p.data.toList))), .c (.bool (Lib.hasPrefix s.data.toList p.data.toList))], post := fun _ => [] }
theorem cutp_ok (s p : ByteArray) : CtOk Tryd.prog 48 (ct_cutp s p) := by
  refine ⟨fun _ _ => rfl, fun hn r w vals st ha _ => ?_⟩
  match vals, ha with
  | [v0, v1], ⟨hv0, hv1, _⟩ =>
    have hv0 : v0 = .string s := hv0
    have hv1 : v1 = .string p := hv1
    subst hv0 hv1
    refine (Tryd.strings_CutPrefix s p w).mono ?_
    rintro e w' ⟨rfl, rfl⟩
    exact ⟨_, rfl, r, _, _, ⟨(), trivial, rfl, rfl⟩, ⟨_, rfl, rfl, rfl, trivial⟩, (fun c hc => by
      simp only [List.mem_cons, List.not_mem_nil, or_false] at hc
      rcases hc with rfl | rfl <;> exact lt_of_nm rfl), Nat.le_refl _, fun _ _ => rfl, RoKeep.none rfl, st⟩
def ct_ssplit (s : ByteArray) (t : Tb) (φ : Bag KK) : Ct KK := { need := s.size ≤ 1000000000 ∧ HasT t φ, pre := [.bag φ], args := [strv s, strv nl], Y := Unit, ok := fun _ => True, ret := fun _ => .c (.slc 1 0 (linesB s).length none), post := fun _ => [.bag φ, .arr .str (linesB s)] }
theorem ssplit_ok (s : ByteArray) (t : Tb) (φ : Bag KK) : CtOk Tryd.prog 33 (ct_ssplit s t φ) := by
  refine ⟨fun _ _ => rfl, fun hn r w vals st ha _ => ?_⟩
  obtain ⟨hs, _, ht, _⟩ := hn
  match vals, ha with
  | [v0, v1], ⟨hv0, hv1, _⟩ =>
    have hv0 : v0 = .string s := hv0
    have hv1 : v1 = .string nl := hv1
    subst hv0 hv1
    have hbag : ∀ c i, φ c = some i → i.ok c w := st.ok 0
    obtain ⟨_, hv⟩ := hbag _ _ ht
    have hm : w.cell? ⟨1, 0, none⟩ = some (.int .i64 t.m) := by
      simp only [World.cell?, hv]; rfl
    refine (Tryd.strings_Split s nl t.m w (by omega) hm (by decide)).mono ?_
    rintro e w' ⟨rfl, rfl⟩
    refine ⟨_, rfl, ?_⟩
    have hsl : Lib.splitB nl 0 (Lib.countB s nl) s = linesB s := split_lines s
    have hcl : Lib.countB s nl + 1 = (linesB s).length := count_lines s
    rw [hsl, hcl]
    have hlen : (linesB s).length ≤ maxLen := by
      have := Lib.countB_le nl (by decide) s.size s (Nat.le_refl _)
      have e : 8000000000 ≤ maxLen := by decide
      omega
    refine After.newArr KK_ok st (kd := Kd.str) (xs := linesB s) ⟨(), trivial, rfl, rfl⟩ rfl (by simp [KK]) (Nat.le_refl _) hlen ?_
    rw [flat_strs]
    simp [KK]
    exact List.take_of_length_le (by simp)
/-- Joined with lines' ends, or slashes, between them. -/
def ljoin (l : List ByteArray) (sep : ByteArray) : ByteArray := ⟨(Lib.join (l.map (·.data.toList)) sep.data.toList).toArray⟩
def ct_sjoin (l : List ByteArray) (sep : ByteArray) : Ct KK := { need := l.length ≤ 140737488355328 ∧ (Lib.join (l.map (·.data.toList)) sep.data.toList).length ≤ 140737488355328, pre := [.ro .str l], args := [.c (.slc 0 0 l.length none), strv sep], Y := Unit, ok := fun _ => True, ret := fun _ => strv (ljoin l sep), post := fun _ => [.gone] }
theorem gone_ok {r : Nat → Ref} {w w' : World} {l : List ByteArray} (h : Below w.heap.size w w') : HeapOK (K := KK) (Ours r [(.ro Kd.str l : Atom KK)]) w r [.gone] w' := by
  have off : ∀ n, at_ ([.gone] : VH KK) n = .gone := fun n => by
    by_cases e : n = 0
    · subst e; rfl
    · exact at_ge (by simp; omega)
  refine ⟨fun n => by rw [off]; trivial, fun n => by rw [off]; trivial, fun n m b _ h1 => ?_, fun n b h1 => ?_, fun n m b h1 => ?_, ⟨h.os, h.tape, h.output, h.size, fun b hb _ => h.block b hb⟩⟩
  · rw [blkOf, off] at h1; exact h1.elim
  · rw [blkOf, off] at h1; exact h1.elim
  · rw [rbOf, off] at h1; simp [Atom.rb] at h1
theorem sjoin_ok (l : List ByteArray) (sep : ByteArray) : CtOk Tryd.prog 41 (ct_sjoin l sep) := by
  refine ⟨fun _ _ => rfl, fun hn r w vals st ha _ => ?_⟩
  obtain ⟨h1, h2⟩ := hn
  obtain ⟨hsz, hcap, hnl, hc⟩ := st.ok 0
  match vals, ha with
  | [v0, v1], ⟨hv0, hv1, _⟩ =>
    have hv1 : v1 = .string sep := hv1
    subst hv1
    obtain ⟨a, rfl, haa⟩ := hv0
    have haa : a = if (r 0).nl then none else some ⟨(r 0).blk, (r 0).off + 0 * (r 0).sz, none⟩ := haa.resolve_left (fun h => h.1 rfl)
    have fin : ∀ w', Below w.heap.size w w' → After (Ours r (ct_sjoin l sep).pre) w r (ct_sjoin l sep).pre (ct_sjoin l sep).Post (.string (ljoin l sep)) w' := fun w' hb =>
      ⟨r, _, _, ⟨(), trivial, rfl, rfl⟩, rfl, lt_of_nm rfl, Nat.le_refl _, fun _ _ => rfl, RoKeep.none rfl, gone_ok hb⟩
    cases l with
    | nil =>
      refine (Tryd.strings_Join_none a _ sep w).mono ?_
      rintro e w' ⟨rfl, rfl⟩
      exact ⟨_, rfl, fin _ (Below.refl _ _)⟩
    | cons x t =>
      have hnf : (r 0).nl = false := by
        cases hx : (r 0).nl with
        | false => rfl
        | true => have h3 := hnl hx; have h4 : (x :: t).length ≤ (r 0).cap := hcap; rw [h3] at h4; simp at h4
      rw [hnf] at haa
      obtain ⟨hb, hcell⟩ := hc (List.cons_ne_nil _ _)
      have hcells : ∀ (j : Nat) y, (x :: t)[j]? = some y → w.cell? ⟨(r 0).blk, (r 0).off + j, none⟩ = some (.string y) := fun j y hj =>
        hcell j (.string y) (by rw [flat_strs, List.getElem?_map, hj]; rfl)
      have haa : a = some ⟨(r 0).blk, (r 0).off, none⟩ := by simpa using haa
      rw [haa]
      refine (Tryd.strings_Join (r 0).blk (r 0).off _ (x :: t) sep w hcells hb h1 hcap h2).mono ?_
      rintro e w' ⟨rfl, hbl⟩
      exact ⟨_, rfl, fin _ hbl⟩
end Go.Proofs.YtoidibkcdkdneaaDoor.T
end
section
namespace Go.Proofs.YtoidibkcdkdneaaDoor.T
open Go.Proofs.YtoidibkcdkdneaaDoor.E Go.Proofs.YtoidibkcdkdneaaDoor.MStr Go.Proofs.YtoidibkcdkdneaaDoor.R
set_option maxRecDepth 100000
set_option linter.unusedVariables false
def tab1 : Tab Tryd.prog KK := ⟨mixed, fun f args H => match f, args with
  | 57, [.one (.c (.str s)), .one (.c (.int _ c))] => some (ct_last s c, [], [])
  | 35, [.one (.c (.str s)), .one (.c (.str p))] => some (ct_match s p, [], [])
  | 48, [.one (.c (.str s)), .one (.c (.str p))] => some (ct_cutp s p, [], [])
  | _, _ => none, fun f args H ct ks τ h => by
    split at h
    · cases h; exact last_ok _ _
    · cases h; exact match_ok _ _
    · cases h; exact cutp_ok _ _
    · cases h⟩
def tab1T (t : Tb) : Tab Tryd.prog KK := ⟨base t, tab1.pick, tab1.ok⟩
def lastB (p : ByteArray) : ByteArray := if Lib.lastIndexByte p 47 < 0 then p else p.extract ((Lib.lastIndexByte p 47).toNat + 1) p.size
def ct_above (p : ByteArray) : Ct KK := { need := p.size ≤ 1000000000, pre := [], args := [strv p], Y := Unit, ok := fun _ => True, ret := fun _ => .tup [.c (.str (aboveB p)), .c (.str (lastB p))], post := fun _ => [] }
def ct_none : Ct KK := { need := True, pre := [], args := [], Y := Unit, ok := fun _ => True, ret := fun _ => .c (.ptr 0 0 0), post := fun _ => [.cells 67 [.nils]] }
/-- A rule that a line's function has taken in. -/
def ruleI (w : Int) (q : ByteArray) : BI KK := .box 50 [.int .i64 w, .str q]
def lineC (w : Int) (q : ByteArray) (b : Nat) : List C := [.int .i64 w, .str q, .fn 54 [(50, b)]]
def ct_line (w : Int) (q : ByteArray) (φ : Bag KK) : Ct KK := { need := True, pre := [.bag φ], args := [.agg [.int .i64 w, .str q]], Y := Nat, ok := fun b => φ b = none, ret := fun b => .agg [.int .i64 w, .str q, .fn 54 [(50, b)]], post := fun b => [.bag (bput φ b (ruleI w q))] }
def ann_line : Ann KK := { loop := fun _ _ _ => none, cut := fun _ _ _ => none, frz := fun | 1 => [(1, 50)] | _ => [] }
def ct_speak (φ : Bag KK) (b : Nat) (p : ByteArray) : Ct KK := { need := (∃ r : Rl, φ b = some (ruleI r.1 r.2)) ∧ p.size ≤ 1000000000, pre := [.bag φ], args := [strv p, .c (.rp 50 0 b 0 0)], Y := Rl, ok := fun r => φ b = some (ruleI r.1 r.2), ret := fun r => boolv (sp r p), post := fun _ => [.bag φ] }
def readR (s : ByteArray) : Int × ByteArray × Bool := match R.readL s with | some r => (r.1, r.2, true) | none => (0, ⟨#[]⟩, false)
def ct_read (s : ByteArray) (t : Tb) (φ : Bag KK) : Ct KK := { need := HasT t φ, pre := [.bag φ], args := [strv s], Y := Unit, ok := fun _ => True, ret := fun _ => .tup [.agg [.int .i64 (readR s).1, .str (readR s).2.1], .c (.bool (readR s).2.2)], post := fun _ => [.bag φ] }
def inv_read (s : ByteArray) (t : Tb) (φ : Bag KK) : Inv KK := { X := Nat, fr := fun i => [strv s, .any, .c (.ptr 1 0 0), boolv false, .any, .any, .any, .any, .c (headsC t), i64 3, i64 i] ++ anys 17, H := fun _ => [.bag φ, .cells 50 [.int .i64 0, .str ⟨#[]⟩]], ok := fun i => i ≤ 3 ∧ ∀ j : Nat, j < i → Lib.hasPrefix s.data.toList (R.hd (j + 1)) = false, meas := fun i : Nat => 3 - i }
def ann_read (s : ByteArray) (t : Tb) (φ : Bag KK) : Ann KK := { loop := fun _ _ _ => some (inv_read s t φ), cut := fun _ _ _ => none, keep := some 11 }
theorem vc_above (p : ByteArray) : evFn tab1 ann0 Tryd.f40 (ct_above p) = ( p.size ≤ 1000000000 ∧ Into (K := KK) 0 [] [] [VV.one (V1.c (C.str p)), VV.one (V1.c (C.int .u8 (47 : Int)))] [] [VV.one (V1.c (C.str p)), VV.one (V1.c (C.int .u8 (47 : Int)))] [] ∧ ∀ (y : Unit), True
 → ite2 (decide (Lib.lastIndexByte p (47 : Int) < (0 : Int))) (EndsAs 0 (ct_above p) (VV.tup [V1.c (C.str (ByteArray.mk (#[]))), V1.c (C.str p)]) []) (((0 : Int) ≤ (0 : Int) ∧ (0 : Int) ≤ Lib.lastIndexByte
 p (47 : Int) ∧ Lib.lastIndexByte p (47 : Int) ≤ (↑p.size : Int)) ∧ i64ok (Lib.lastIndexByte p (47 : Int) + (1 : Int)) ∧ ((0 : Int) ≤ Lib.lastIndexByte p (47 : Int) + (1 : Int) ∧ Lib.lastIndexByte p (47
 : Int) + (1 : Int) ≤ (↑p.size : Int) ∧ (↑p.size : Int) ≤ (↑p.size : Int)) ∧ True ∧ ((((0 : Int) ≤ Lib.lastIndexByte p (47 : Int) + (1 : Int) ∧ Lib.lastIndexByte p (47 : Int) + (1 : Int) ≤ (↑p.size : Int)
 ∧ (↑p.size : Int) ≤ (↑p.size : Int)) ∧ VV.one (V1.c (C.str (p.extract (Lib.lastIndexByte p (47 : Int) + (1 : Int)).toNat (↑p.size : Int).toNat))) = VV.one (V1.c (C.str (p.extract (Lib.lastIndexByte p (47
 : Int) + (1 : Int)).toNat (↑p.size : Int).toNat)))) ∧ True) ∧ True ∧ EndsAs 0 (ct_above p) (VV.tup [V1.c (C.str (p.extract 0 (Lib.lastIndexByte p (47 : Int)).toNat)), V1.c (C.str (p.extract (Lib.lastIndexByte
 p (47 : Int) + (1 : Int)).toNat (↑p.size : Int).toNat))]) [])) := by kernel_rfl
theorem vc_none (u : Unit) : evFn tab1 ann0 Tryd.f13 ct_none = ( EndsAs 0 ct_none (VV.one (V1.c (C.ptr 0 0 0))) [Atom.cells 67 [C.nils]]) := by kernel_rfl
theorem vc_line (w : Int) (q : ByteArray) (φ : Bag KK) : evFn tab1 ann_line Tryd.f36 (ct_line w q φ) = (∀ (b : Nat), φ b = none → ∃ (x : KK.α Kd.rule), cellsAt (bput φ b (BI.box 50 [C.int .i64 w, C.str q])) b = some [C.int .i64 x.fst, C.str x.snd] ∧ EndsAs 1 (ct_line w q φ) (VV.one (V1.agg [C.int .i64 x.fst,
 C.str x.snd, C.fn 54 [(50, b)]])) [Atom.bag (bput φ b (BI.box 50 [C.int .i64 w, C.str q])), Atom.gone, Atom.cells 71 [C.int .i64 x.fst, C.str x.snd, C.fn 54 [(50, b)]]]) := by kernel_rfl
theorem vc_speak (φ : Bag KK) (b : Nat) (p : ByteArray) : evFn tab1 ann0 Tryd.f54 (ct_speak φ b p) = ( ∃ (s : ByteArray), boxAt φ b 1 = some (C.str s) ∧ p.size ≤ 1000000000 ∧ Into (K := KK) 0 [] [] [VV.one (V1.c (C.str s)), VV.one (V1.c (C.str p))] [Atom.bag φ] [VV.one (V1.c (C.str s)), VV.one (V1.c (C.str
 p))] [] ∧ ∀ (y : Unit), True → ite2 (Hand.matchB s p).fst (ite2 (decide ((Hand.matchB s p).snd = (0 : Int))) (EndsAs 1 (ct_speak φ b p) (boolv true) [Atom.bag φ]) (EndsAs 1 (ct_speak φ b p) (boolv false)
 [Atom.bag φ])) (EndsAs 1 (ct_speak φ b p) (boolv false) [Atom.bag φ])) := by kernel_rfl
theorem vc_read (s : ByteArray) (t : Tb) (φ : Bag KK) : evFn (tab1T t) (ann_read s t φ) Tryd.f34 (ct_read s t φ) = ( boxAt φ 0 0 = some (C.ls 77 t.hb t.ho 3 3) ∧ Enter 1 (inv_read s t φ) (fun (x : Nat) => True) ([VV.one (V1.c (C.str s)), VV.any, VV.one (V1.c (C.ptr 1 0 0)), boolv false, VV.any, VV.any, VV.any, VV.any,
 VV.one (V1.c (C.ls 77 t.hb t.ho 3 3)), i64 (3 : Int), i64 (0 : Int)] ++ anys 17) [Atom.bag φ, Atom.cells 50 [C.int .i64 (0 : Int), C.str (ByteArray.mk (#[]))]] ∧ ∀ (z : Nat), (z ≤ 3 ∧ ∀ (j : Nat), j <
 z → Lib.hasPrefix s.data.toList (hd ((↑j : Int) + (1 : Int))) = false) → ite2 (decide ((↑z : Int) < (3 : Int))) (((0 : Int) ≤ (↑z : Int) ∧ (↑z : Int) < (3 : Int)) ∧ ∃ (xs : List (KK.α Kd.hd)), ∃ (ob :
 Obj), φ t.hb = some (BI.lay t.ho Kd.hd xs ob) ∧ (↑z : Int).toNat < xs.length ∧ True ∧ Into (K := KK) 0 [] [] [VV.one (V1.c (C.str s)), VV.one (V1.c (C.str (rd xs (↑z : Int).toNat (KK.dflt Kd.hd)).snd))]
 [Atom.bag φ, Atom.cells 50 [C.int .i64 (0 : Int), C.str (ByteArray.mk (#[]))], Atom.cells 77 [C.int .i64 (rd xs (↑z : Int).toNat (KK.dflt Kd.hd)).fst, C.str (rd xs (↑z : Int).toNat (KK.dflt Kd.hd)).snd]]
 [VV.one (V1.c (C.str s)), VV.one (V1.c (C.str (rd xs (↑z : Int).toNat (KK.dflt Kd.hd)).snd))] [] ∧ ∀ (y : Unit), True → ite2 (Lib.hasPrefix s.data.toList (rd xs (↑z : Int).toNat (KK.dflt Kd.hd)).snd.data.toList)
 (EndsAs 1 (ct_read s t φ) (VV.tup [V1.agg [C.int .i64 (rd xs (↑z : Int).toNat (KK.dflt Kd.hd)).fst, C.str (tx (Lib.trimPrefix s.data.toList (rd xs (↑z : Int).toNat (KK.dflt Kd.hd)).snd.data.toList))],
 V1.c (C.bool true)]) [Atom.bag φ, Atom.cells 50 [C.int .i64 (rd xs (↑z : Int).toNat (KK.dflt Kd.hd)).fst, C.str (tx (Lib.trimPrefix s.data.toList (rd xs (↑z : Int).toNat (KK.dflt Kd.hd)).snd.data.toList))],
 Atom.cells 77 [C.int .i64 (rd xs (↑z : Int).toNat (KK.dflt Kd.hd)).fst, C.str (rd xs (↑z : Int).toNat (KK.dflt Kd.hd)).snd]]) (i64ok ((↑z : Int) + (1 : Int)) ∧ Enter 1 (inv_read s t φ) (fun (z' : Nat)
 => 3 - z' < 3 - z) ([VV.one (V1.c (C.str s)), VV.any, VV.one (V1.c (C.ptr 1 0 0)), boolv false, VV.any, VV.one (V1.c (C.ptr 2 0 0)), VV.one (V1.c (C.str (tx (Lib.trimPrefix s.data.toList (rd xs (↑z : Int).toNat
 (KK.dflt Kd.hd)).snd.data.toList)))), boolv (Lib.hasPrefix s.data.toList (rd xs (↑z : Int).toNat (KK.dflt Kd.hd)).snd.data.toList), VV.one (V1.c (C.ls 77 t.hb t.ho 3 3)), i64 (3 : Int), i64 ((↑z : Int)
 + (1 : Int))] ++ anys 17) [Atom.bag φ, Atom.cells 50 [C.int .i64 (0 : Int), C.str (ByteArray.mk (#[]))], Atom.cells 77 [C.int .i64 (rd xs (↑z : Int).toNat (KK.dflt Kd.hd)).fst, C.str (rd xs (↑z : Int).toNat
 (KK.dflt Kd.hd)).snd]])) (EndsAs 1 (ct_read s t φ) (VV.tup [V1.agg [C.int .i64 (0 : Int), C.str (ByteArray.mk (#[]))], V1.c (C.bool false)]) [Atom.bag φ, Atom.cells 50 [C.int .i64 (0 : Int), C.str (ByteArray.mk
 (#[]))]])) := by kernel_rfl
theorem last_ge (p : ByteArray) : -1 ≤ Lib.lastIndexByte p 47 := by
  rcases Lib.lastIdx_spec p 47 p.size with ⟨h, _⟩ | ⟨i, h1, h2, _⟩
  · show -1 ≤ Lib.lastIdx p 47 p.size; omega
  · show -1 ≤ Lib.lastIdx p 47 p.size; omega
theorem above_ok (p : ByteArray) : CtOk Tryd.prog 40 (ct_above p) := CtOk_of KK_ok tab1 ann0 (fn := Tryd.f40) rfl (fun _ _ => rfl) fun hn => by
  have hn : p.size ≤ 1000000000 := hn
  have hl := last_lt p
  have hg := last_ge p
  have no : ∀ a b, a = aboveB p → b = lastB p → EndsAs 0 (ct_above p) (.tup [.c (.str a), .c (.str b)]) [] := fun a b h1 h2 => by
    subst h1 h2
    exact ⟨(), [], [], trivial, by (repeat' first | exact trivial | exact rfl | apply And.intro)⟩
  rw [vc_above]
  refine ⟨hn, into_mk (by kernel_rfl) (by (repeat' first | exact trivial | exact rfl | apply And.intro)) (by (repeat' first | exact trivial | exact rfl | apply And.intro)), fun _ _ => ite2_decide (fun h => no _ _ (if_pos h).symm (if_pos h).symm) (fun h => ?_)⟩
  have e1 : p.extract (Lib.lastIndexByte p 47 + 1).toNat (p.size : Int).toNat = lastB p := by
    unfold lastB
    rw [if_neg h, Int.toNat_natCast]
    congr 1
    omega
  refine ⟨⟨by omega, by omega, by omega⟩, by unfold i64ok; omega, ⟨by omega, by omega, by omega⟩, trivial, ⟨⟨⟨by omega, by omega, by omega⟩, rfl⟩, trivial⟩, trivial, no _ _ (by unfold aboveB; rw [if_neg h]) e1⟩
theorem none_ok : CtOk Tryd.prog 13 ct_none := CtOk_of KK_ok tab1 ann0 (fn := Tryd.f13) rfl (fun _ _ => rfl) fun hn => by
  rw [vc_none ()]
  exact ⟨(), [], [0], trivial, by (repeat' first | exact trivial | exact rfl | apply And.intro)⟩
theorem cellsAt_put {φ : Bag KK} {b : Nat} {T : TypeId} {cs : List C} : cellsAt (bput φ b (.box T cs)) b = some cs := cellsAt_box (if_pos rfl)
theorem line_ok (w : Int) (q : ByteArray) (φ : Bag KK) : CtOk Tryd.prog 36 (ct_line w q φ) := CtOk_of KK_ok tab1 ann_line (fn := Tryd.f36) rfl (fun _ _ => rfl) fun hn => by
  rw [vc_line]
  intro b hb
  exact ⟨(w, q), cellsAt_put, b, [], [0], hb, by (repeat' first | exact trivial | exact rfl | apply And.intro)⟩
theorem speak_ok (φ : Bag KK) (b : Nat) (p : ByteArray) : CtOk Tryd.prog 54 (ct_speak φ b p) := CtOk_of KK_ok tab1 ann0 (fn := Tryd.f54) rfl (fun _ _ => rfl) fun hn => by
  obtain ⟨⟨r, hr⟩, hp⟩ := hn
  have hb : boxAt φ b 1 = some (.str r.2) := by
    unfold boxAt
    rw [cellsAt_box (show φ b = some (.box _ _) from hr)]
    rfl
  have no : ∀ v, v = sp r p → EndsAs 1 (ct_speak φ b p) (boolv v) [.bag φ] := fun v hv => by
    subst hv
    exact ⟨r, [], [0], hr, by (repeat' first | exact trivial | exact rfl | apply And.intro)⟩
  rw [vc_speak]
  refine ⟨r.2, hb, hp, into_mk (by kernel_rfl) (by (repeat' first | exact trivial | exact rfl | apply And.intro)) (by (repeat' first | exact trivial | exact rfl | apply And.intro)), fun _ _ => ite2_mk (fun h1 => ite2_decide (fun h2 => no _ ?_) (fun h2 => no _ ?_)) (fun h1 => no _ ?_)⟩
  · simp [sp, h1, h2]
  · simp [sp, h2]
  · simp [sp, h1]
theorem boxAt_tab {φ : Bag KK} {b : Nat} {T : TypeId} {p : Nat × Nat} {c : C} (h : φ b = some (.tab T p [c])) : boxAt φ b 0 = some c := by
  unfold boxAt
  rw [cellsAt_tab h]
  rfl
theorem heads_at (i : Nat) (h : i < 3) : rd (α := Int × ByteArray) headsL i (KK.dflt Kd.hd) = ((i : Int) + 1, ⟨(R.hd ((i : Int) + 1)).toArray⟩) := by
  match i, h with
  | 0, _ => rfl
  | 1, _ => rfl
  | 2, _ => rfl
theorem read_ok (s : ByteArray) (t : Tb) (φ : Bag KK) : CtOk Tryd.prog 34 (ct_read s t φ) := CtOk_of KK_ok (tab1T t) (ann_read s t φ) (fn := Tryd.f34) rfl (fun _ _ => rfl) fun hn => by
  obtain ⟨h1, h2, h3⟩ := hn
  have no : ∀ a b v A, a = (readR s).1 → b = (readR s).2.1 → v = (readR s).2.2 → EndsAs 1 (ct_read s t φ) (.tup [.agg [.int .i64 a, .str b], .c (.bool v)]) (.bag φ :: A) := fun a b v A h1 h2 h3 => by
    subst h1 h2 h3
    exact ⟨(), [], [0], trivial, by (repeat' first | exact trivial | exact rfl | apply And.intro)⟩
  have e0 : ∀ (z : Nat), (∀ j : Nat, j < z → Lib.hasPrefix s.data.toList (R.hd (j + 1)) = false) → 3 ≤ z → R.readL s = none := fun z hz h3 => by
    have a1 := hz 0 (by omega)
    have a2 := hz 1 (by omega)
    have a3 := hz 2 (by omega)
    have a1 : Lib.hasPrefix s.data.toList (R.hd 1) = false := a1
    have a2 : Lib.hasPrefix s.data.toList (R.hd 2) = false := a2
    have a3 : Lib.hasPrefix s.data.toList (R.hd 3) = false := a3
    unfold R.readL
    rw [a1, a2, a3]
    rfl
  have e1 : ∀ (z : Nat), (∀ j : Nat, j < z → Lib.hasPrefix s.data.toList (R.hd (j + 1)) = false) → z < 3 → Lib.hasPrefix s.data.toList (R.hd (z + 1)) = true → R.readL s = some ((z : Int) + 1, tx (Lib.trimPrefix s.data.toList (R.hd (z + 1)))) := fun z hz h3 hp => by
    unfold R.readL
    match z, h3 with
    | 0, _ =>
      have hp : Lib.hasPrefix s.data.toList (R.hd 1) = true := hp
      rw [if_pos hp]
      rfl
    | 1, _ =>
      have hp : Lib.hasPrefix s.data.toList (R.hd 2) = true := hp
      have a1 : Lib.hasPrefix s.data.toList (R.hd 1) = false := hz 0 (by omega)
      rw [a1, if_pos hp]
      rfl
    | 2, _ =>
      have hp : Lib.hasPrefix s.data.toList (R.hd 3) = true := hp
      have a1 : Lib.hasPrefix s.data.toList (R.hd 1) = false := hz 0 (by omega)
      have a2 : Lib.hasPrefix s.data.toList (R.hd 2) = false := hz 1 (by omega)
      rw [a1, a2, if_pos hp]
      rfl
  rw [vc_read]
  refine ⟨boxAt_tab h1, ⟨(0 : Nat), [], [0, 1], ⟨Nat.zero_le _, fun j hj => absurd hj (Nat.not_lt_zero _)⟩, trivial, into_mk (by kernel_rfl) (by (repeat' first | exact trivial | exact rfl | apply And.intro)) (by (repeat' first | exact trivial | exact rfl | apply And.intro))⟩, ?_⟩
  rintro z ⟨hz, hp⟩
  refine ite2_decide (fun hl => ?_) (fun hl => no _ _ _ _ ?_ ?_ ?_)
  · have hl3 : z < 3 := by omega
    refine ⟨⟨by omega, hl⟩, headsL, t.ob, h3, by rw [Int.toNat_natCast]; exact hl3, trivial, into_mk (by kernel_rfl) (by (repeat' first | exact trivial | exact rfl | apply And.intro)) (by (repeat' first | exact trivial | exact rfl | apply And.intro)), fun _ _ => ?_⟩
    have he : rd (α := KK.α Kd.hd) headsL z (KK.dflt Kd.hd) = ((z : Int) + 1, ⟨(R.hd ((z : Int) + 1)).toArray⟩) := heads_at z hl3
    simp only [Int.toNat_natCast, he]
    refine ite2_mk (fun h => ?_) (fun h => ?_)
    · have er := e1 z hp hl3 h
      refine no _ _ _ _ ?_ ?_ ?_
      · unfold readR; rw [er]
      · unfold readR; rw [er]
      · unfold readR; rw [er]
    · refine ⟨by unfold i64ok; omega, (z + 1 : Nat), [], [0, 1], ⟨by omega, fun j hj => ?_⟩, by show 3 - (z + 1) < 3 - z; omega, into_mk (by kernel_rfl) (by (repeat' first | exact trivial | exact rfl | apply And.intro)) (by (repeat' first | exact trivial | exact rfl | apply And.intro))⟩
      by_cases e : j = z
      · subst e; exact h
      · exact hp j (by omega)
  · unfold readR; rw [e0 z hp (by omega)]
  · unfold readR; rw [e0 z hp (by omega)]
  · unfold readR; rw [e0 z hp (by omega)]
end Go.Proofs.YtoidibkcdkdneaaDoor.T
end
section
namespace Go.Proofs.YtoidibkcdkdneaaDoor.T
open Go.Proofs.YtoidibkcdkdneaaDoor.E Go.Proofs.YtoidibkcdkdneaaDoor.MStr Go.Proofs.YtoidibkcdkdneaaDoor.R
set_option maxRecDepth 100000
set_option linter.unusedVariables false
abbrev Ln := Int × ByteArray × Nat
def GoodL (φ : Bag KK) (xs : List Ln) : Prop := ∀ x ∈ xs, φ x.2.2 = some (ruleI x.1 x.2.1)
def rl (x : Ln) : Rl := (x.1, x.2.1)
def LL (xs : List Ln) : List Rl := xs.map rl
def rulesH (φ : Bag KK) (xs : List Ln) : VH KK := [.bag φ, .cells 67 [.slc 2 0 xs.length none], .arr .line xs]
def ct_skips (w : Int) (q : ByteArray) (b : Nat) (φ : Bag KK) (p : ByteArray) : Ct KK := { need := φ b = some (ruleI w q) ∧ p.size ≤ 1000000000, pre := [.bag φ], args := [.agg [.int .i64 w, .str q, .fn 54 [(50, b)]], strv p], Y := Unit, ok := fun _ => True, ret := fun _ => boolv (skipsB (w, q) p), post := fun _ => [.bag φ] }
def inv_skips (w : Int) (q : ByteArray) (b : Nat) (φ : Bag KK) (p : ByteArray) : Inv KK := { X := ByteArray, fr := fun z => [.any, strv z, .c (.ptr 1 0 0), .any, boolv false] ++ anys 17, H := fun _ => [.bag φ, .cells 71 (lineC w q b)], ok := fun z => z.size ≤ p.size ∧ skipsB (w, q) z = skipsB (w, q) p, meas := fun z => z.size }
def ann_skips (w : Int) (q : ByteArray) (b : Nat) (φ : Bag KK) (p : ByteArray) : Ann KK := { loop := fun _ _ _ => some (inv_skips w q b φ p), cut := fun _ _ _ => none, keep := some 5 }
def ct_skip (φ : Bag KK) (xs : List Ln) (p : ByteArray) : Ct KK := { need := GoodL φ xs ∧ p.size ≤ 1000000000 ∧ xs.length ≤ 1000, pre := rulesH φ xs, args := [.c (.ptr 1 0 0), strv p], Y := Unit, ok := fun _ => True, ret := fun _ => boolv (skipB (LL xs) p), post := fun _ => rulesH φ xs }
def inv_skipO (φ : Bag KK) (xs : List Ln) (p : ByteArray) : Inv KK := { X := ByteArray, fr := fun q => [.c (.ptr 1 0 0), strv q, .any, .any, boolv false] ++ anys 38, H := fun _ => rulesH φ xs, ok := fun q => q.size ≤ p.size ∧ (chain q).any (skipAt (LL xs)) = (chain p).any (skipAt (LL xs)), meas := fun q => q.size }
def inv_skipI (φ : Bag KK) (xs : List Ln) (q : ByteArray) : Inv KK := { X := Nat, fr := fun i => [.c (.ptr 1 0 0), strv q, .any, .any, boolv false, .any, .any, .any, .any, .any, .any, .any, .any, .any, .any, .any, .any, .any, .any, .any, .any, .c (.slc 2 0 xs.length none), i64 xs.length, i64 i] ++ anys 19, H := fun _ => rulesH φ xs, ok := fun i => i ≤ xs.length ∧ skipAt ((LL xs).take i) q = false, meas := fun i : Nat => xs.length - i }
def ann_skip (φ : Bag KK) (xs : List Ln) (p : ByteArray) : Ann KK := { loop := fun id fr _ => match id with | 4 => some (inv_skipO φ xs p) | _ => match fr.getD 1 .any with | .one (.c (.str q)) => some (inv_skipI φ xs q) | _ => none, cut := fun _ _ _ => none, keep := some 24 }
def prefI (xs : List Ln) (p : ByteArray) (i : Nat) : Int := preferB ((LL xs).take i) p
def ct_prefer (φ : Bag KK) (xs : List Ln) (p : ByteArray) : Ct KK := { need := GoodL φ xs ∧ p.size ≤ 1000000000 ∧ xs.length ≤ 1000, pre := rulesH φ xs, args := [.c (.ptr 1 0 0), strv p], Y := Unit, ok := fun _ => True, ret := fun _ => i64 (preferB (LL xs) p), post := fun _ => rulesH φ xs }
def inv_prefer (φ : Bag KK) (xs : List Ln) (p : ByteArray) : Inv KK := { X := Nat, fr := fun i => [.c (.ptr 1 0 0), strv p, .any, .any, i64 0, i64 (prefI xs p i), .any, .any, .any, .any, .any, .c (.slc 2 0 xs.length none), i64 xs.length, i64 i] ++ anys 27, H := fun _ => rulesH φ xs, ok := fun i => i ≤ xs.length, meas := fun i : Nat => xs.length - i }
def ann_prefer (φ : Bag KK) (xs : List Ln) (p : ByteArray) : Ann KK := { loop := fun _ _ _ => some (inv_prefer φ xs p), cut := fun _ _ _ => none, keep := some 14 }
def tab2 : Tab Tryd.prog KK := ⟨mixed, fun f args H => match f, args, at_ H 0 with
  | 40, [.one (.c (.str s))], _ => some (ct_above s, [], [])
  | 54, [.one (.c (.str p)), .one (.c (.rp _ _ b _ _))], .bag φ => some (ct_speak φ b p, [], [0])
  | 28, [.one (.c (.str s)), .one (.c (.int _ n))], _ => some (ct_psplit s n, [], [])
  | _, _, _ => none, fun f args H ct ks τ h => by
    split at h
    · cases h; exact above_ok _
    · cases h; exact speak_ok _ _ _
    · cases h; exact psplit_ok _ _
    · cases h⟩
theorem rule_inj {φ : Bag KK} {b : Nat} {y : Rl} {w : Int} {q : ByteArray} (h1 : φ b = some (ruleI y.1 y.2)) (h2 : φ b = some (ruleI w q)) : y = (w, q) := by
  rw [h2] at h1
  have h3 := Option.some.inj h1
  unfold ruleI at h3
  injection h3 with _ h4
  injection h4 with h5 h6
  injection h5 with _ h7
  injection h6 with h8 _
  injection h8 with h9
  exact Prod.ext h7.symm h9.symm
theorem skips_at {w : Int} {q : ByteArray} {z : ByteArray} (hw : w = 1) (h0 : z.size ≠ 0) : skipsB (w, q) z = (sp (w, q) z || skipsB (w, q) (aboveB z)) := by
  unfold skipsB
  rw [chain_cons h0]
  simp [hw]
theorem vc_skips (w : Int) (q : ByteArray) (b : Nat) (φ : Bag KK) (p : ByteArray) : evFn tab2 (ann_skips w q b φ p) Tryd.f37 (ct_skips w q b φ p) = ( Enter 1 (inv_skips w q b φ p) (fun (x : ByteArray) => True) ([VV.one (V1.agg [C.int .i64 w, C.str q, C.fn (54 : FuncId) [(50, b)]]), VV.one (V1.c (C.str p)), VV.one (V1.c (C.ptr 1 0 0)), VV.any, boolv
 false] ++ anys 17) [Atom.bag φ, Atom.cells 71 [C.int .i64 w, C.str q, C.fn (54 : FuncId) [(50, b)]]] ∧ ∀ (z : ByteArray), z.size ≤ p.size ∧ skipsB (w, q) z = skipsB (w, q) p → ite2 (decide (w = (1 : Int)))
 (ite2 (decide (z.toList = (ByteArray.mk (#[])).toList)) (EndsAs 1 (ct_skips w q b φ p) (boolv false) [Atom.bag φ, Atom.cells 71 [C.int .i64 w, C.str q, C.fn (54 : FuncId) [(50, b)]]]) (((∃ (r : Rl), φ
 b = some (ruleI r.fst r.snd)) ∧ z.size ≤ 1000000000) ∧ Into (K := KK) 0 [] [0] [VV.one (V1.c (C.str z)), VV.one (V1.c (C.rp 50 0 b 0 0))] [Atom.bag φ, Atom.cells 71 [C.int .i64 w, C.str q, C.fn (54 : FuncId)
 [(50, b)]]] [VV.one (V1.c (C.str z)), VV.one (V1.c (C.rp 50 0 b 0 0))] [Atom.bag φ] ∧ ∀ (y : Int × ByteArray), φ b = some (ruleI y.fst y.snd) → ite2 (sp y z) (EndsAs 1 (ct_skips w q b φ p) (boolv true)
 [Atom.bag φ, Atom.cells 71 [C.int .i64 w, C.str q, C.fn (54 : FuncId) [(50, b)]]]) (z.size ≤ 1000000000 ∧ Into (K := KK) 0 [] [] [VV.one (V1.c (C.str z))] [Atom.bag φ, Atom.cells 71 [C.int .i64 w, C.str
 q, C.fn (54 : FuncId) [(50, b)]]] [VV.one (V1.c (C.str z))] [] ∧ ∀ (y : Unit), True → Enter 1 (inv_skips w q b φ p) (fun (z' : ByteArray) => z'.size < z.size) ([VV.any, VV.one (V1.c (C.str (aboveB z))),
 VV.one (V1.c (C.ptr 1 0 0)), VV.any, boolv false] ++ anys 17) [Atom.bag φ, Atom.cells 71 [C.int .i64 w, C.str q, C.fn (54 : FuncId) [(50, b)]]]))) (EndsAs 1 (ct_skips w q b φ p) (boolv false) [Atom.bag
 φ, Atom.cells 71 [C.int .i64 w, C.str q, C.fn (54 : FuncId) [(50, b)]]])) := by kernel_rfl
theorem vc_skip (φ : Bag KK) (xs : List Ln) (p : ByteArray) : evFn tab2 (ann_skip φ xs p) Tryd.f17 (ct_skip φ xs p) = ( p.size ≤ 1000000000 ∧ Into (K := KK) 0 [] [] [VV.one (V1.c (C.str p)), i64 (64 : Int)] [Atom.bag φ, Atom.cells 67 [C.slc 2 0 xs.length none], Atom.arr Kd.line xs] [VV.one (V1.c (C.str p)), i64 (64 : Int)]
 [] ∧ ∀ (y : Unit), True → ite2 (decide ((Hand.splitB p (64 : Int)).snd = (0 : Int))) (Enter 3 (inv_skipO φ xs p) (fun (x : ByteArray) => True) ([VV.one (V1.c (C.ptr 1 0 0)), VV.one (V1.c (C.str p)), VV.any,
 VV.any, boolv false, VV.one (V1.c (C.slc 3 0 (Hand.splitB p (64 : Int)).fst.length none)), i64 (Hand.splitB p (64 : Int)).snd, VV.any, VV.any, VV.tup [V1.c (C.slc 3 0 (Hand.splitB p (64 : Int)).fst.length
 none), V1.c (C.int .i64 (Hand.splitB p (64 : Int)).snd)], VV.one (V1.c (C.str p)), VV.tup [V1.c (C.slc 3 0 (Hand.splitB p (64 : Int)).fst.length none), V1.c (C.int .i64 (Hand.splitB p (64 : Int)).snd)],
 VV.one (V1.c (C.slc 3 0 (Hand.splitB p (64 : Int)).fst.length none)), i64 (Hand.splitB p (64 : Int)).snd, i64 (Hand.splitB p (64 : Int)).snd, boolv false] ++ anys 27) [Atom.bag φ, Atom.cells 67 [C.slc
 2 0 xs.length none], Atom.arr Kd.line xs, Atom.arr Kd.str (Hand.splitB p (64 : Int)).fst] ∧ ∀ (z : ByteArray), z.size ≤ p.size ∧ (chain z).any (skipAt (LL xs)) = (chain p).any (skipAt (LL xs)) → ite2 (decide
 (z.toList = (ByteArray.mk (#[])).toList)) (EndsAs 3 (ct_skip φ xs p) (boolv false) [Atom.bag φ, Atom.cells 67 [C.slc 2 0 xs.length none], Atom.arr Kd.line xs]) (Enter 3 (inv_skipI φ xs z) (fun (x : Nat)
 => True) ([VV.one (V1.c (C.ptr 1 0 0)), VV.one (V1.c (C.str z)), VV.any, VV.any, boolv false, VV.any, VV.any, VV.any, VV.any, VV.any, VV.any, VV.any, VV.any, VV.any, VV.any, VV.any, VV.one (V1.c (C.str
 z)), boolv true, VV.one (V1.c (C.ptr 1 0 0)), VV.one (V1.c (C.ptr 1 0 0)), VV.one (V1.c (C.ptr 1 0 0)), VV.one (V1.c (C.slc 2 0 xs.length none)), i64 (↑xs.length : Int), i64 (0 : Int)] ++ anys 19) [Atom.bag
 φ, Atom.cells 67 [C.slc 2 0 xs.length none], Atom.arr Kd.line xs] ∧ ∀ (z_1 : Nat), z_1 ≤ xs.length ∧ skipAt (List.take z_1 (LL xs)) z = false → ite2 (decide ((↑z_1 : Int) < (↑xs.length : Int))) (((0 :
 Int) ≤ (↑z_1 : Int) ∧ (↑z_1 : Int) < (↑xs.length : Int)) ∧ (↑z_1 : Int).toNat < xs.length ∧ True ∧ (↑z_1 : Int).toNat < xs.length ∧ ite2 (decide ((rd xs (↑z_1 : Int).toNat (KK.dflt Kd.line)).fst = (1 :
 Int))) (((∃ (r : Rl), φ (rd xs (↑z_1 : Int).toNat (KK.dflt Kd.line)).snd.snd = some (ruleI r.fst r.snd)) ∧ z.size ≤ 1000000000) ∧ Into (K := KK) 0 [] [0] [VV.one (V1.c (C.str z)), VV.one (V1.c (C.rp 50
 0 (rd xs (↑z_1 : Int).toNat (KK.dflt Kd.line)).snd.snd 0 0))] [Atom.bag φ, Atom.cells 67 [C.slc 2 0 xs.length none], Atom.arr Kd.line xs, Atom.cells 71 [C.int .i64 (rd xs (↑z_1 : Int).toNat (KK.dflt Kd.line)).fst,
 C.str (rd xs (↑z_1 : Int).toNat (KK.dflt Kd.line)).snd.fst, C.fn (54 : FuncId) [(50, (rd xs (↑z_1 : Int).toNat (KK.dflt Kd.line)).snd.snd)]]] [VV.one (V1.c (C.str z)), VV.one (V1.c (C.rp 50 0 (rd xs (↑z_1
 : Int).toNat (KK.dflt Kd.line)).snd.snd 0 0))] [Atom.bag φ] ∧ ∀ (y : Int × ByteArray), φ (rd xs (↑z_1 : Int).toNat (KK.dflt Kd.line)).snd.snd = some (ruleI y.fst y.snd) → ite2 (sp y z) (EndsAs 3 (ct_skip
 φ xs p) (boolv true) [Atom.bag φ, Atom.cells 67 [C.slc 2 0 xs.length none], Atom.arr Kd.line xs, Atom.cells 71 [C.int .i64 (rd xs (↑z_1 : Int).toNat (KK.dflt Kd.line)).fst, C.str (rd xs (↑z_1 : Int).toNat
 (KK.dflt Kd.line)).snd.fst, C.fn (54 : FuncId) [(50, (rd xs (↑z_1 : Int).toNat (KK.dflt Kd.line)).snd.snd)]]]) (i64ok ((↑z_1 : Int) + (1 : Int)) ∧ Enter 3 (inv_skipI φ xs z) (fun (z' : Nat) => xs.length
 - z' < xs.length - z_1) ([VV.one (V1.c (C.ptr 1 0 0)), VV.one (V1.c (C.str z)), VV.any, VV.any, boolv false, VV.any, VV.any, VV.any, VV.one (V1.c (C.ptr 3 0 0)), VV.any, VV.any, VV.any, VV.any, VV.any,
 VV.any, VV.any, VV.any, VV.any, VV.any, VV.any, VV.any, VV.one (V1.c (C.slc 2 0 xs.length none)), i64 (↑xs.length : Int), i64 ((↑z_1 : Int) + (1 : Int))] ++ anys 19) [Atom.bag φ, Atom.cells 67 [C.slc 2
 0 xs.length none], Atom.arr Kd.line xs, Atom.cells 71 [C.int .i64 (rd xs (↑z_1 : Int).toNat (KK.dflt Kd.line)).fst, C.str (rd xs (↑z_1 : Int).toNat (KK.dflt Kd.line)).snd.fst, C.fn (54 : FuncId) [(50,
 (rd xs (↑z_1 : Int).toNat (KK.dflt Kd.line)).snd.snd)]]])) (i64ok ((↑z_1 : Int) + (1 : Int)) ∧ Enter 3 (inv_skipI φ xs z) (fun (z' : Nat) => xs.length - z' < xs.length - z_1) ([VV.one (V1.c (C.ptr 1 0
 0)), VV.one (V1.c (C.str z)), VV.any, VV.any, boolv false, VV.any, VV.any, VV.any, VV.one (V1.c (C.ptr 3 0 0)), VV.any, VV.any, VV.any, VV.any, VV.any, VV.any, VV.any, VV.any, VV.any, VV.any, VV.any, VV.any,
 VV.one (V1.c (C.slc 2 0 xs.length none)), i64 (↑xs.length : Int), i64 ((↑z_1 : Int) + (1 : Int))] ++ anys 19) [Atom.bag φ, Atom.cells 67 [C.slc 2 0 xs.length none], Atom.arr Kd.line xs, Atom.cells 71 [C.int
 .i64 (rd xs (↑z_1 : Int).toNat (KK.dflt Kd.line)).fst, C.str (rd xs (↑z_1 : Int).toNat (KK.dflt Kd.line)).snd.fst, C.fn (54 : FuncId) [(50, (rd xs (↑z_1 : Int).toNat (KK.dflt Kd.line)).snd.snd)]]])) (z.size
 ≤ 1000000000 ∧ Into (K := KK) 0 [] [] [VV.one (V1.c (C.str z))] [Atom.bag φ, Atom.cells 67 [C.slc 2 0 xs.length none], Atom.arr Kd.line xs] [VV.one (V1.c (C.str z))] [] ∧ ∀ (y : Unit), True → Enter 3 (inv_skipO
 φ xs p) (fun (z' : ByteArray) => z'.size < z.size) ([VV.one (V1.c (C.ptr 1 0 0)), VV.one (V1.c (C.str (aboveB z))), VV.any, VV.any, boolv false, VV.any, VV.any, VV.any, VV.any, VV.any, VV.any, VV.any,
 VV.any, VV.any, VV.any, VV.any, VV.any, VV.any, VV.any, VV.any, VV.any, VV.one (V1.c (C.slc 2 0 xs.length none)), i64 (↑xs.length : Int), i64 (↑z_1 : Int)] ++ anys 19) [Atom.bag φ, Atom.cells 67 [C.slc
 2 0 xs.length none], Atom.arr Kd.line xs]))) (EndsAs 3 (ct_skip φ xs p) (boolv false) [Atom.bag φ, Atom.cells 67 [C.slc 2 0 xs.length none], Atom.arr Kd.line xs, Atom.arr Kd.str (Hand.splitB p (64 : Int)).fst])) := by kernel_rfl
theorem vc_prefer (φ : Bag KK) (xs : List Ln) (p : ByteArray) : evFn tab2 (ann_prefer φ xs p) Tryd.f19 (ct_prefer φ xs p) = ( Enter 3 (inv_prefer φ xs p) (fun (x : Nat) => True) ([VV.one (V1.c (C.ptr 1 0 0)), VV.one (V1.c (C.str p)), VV.any, VV.any, i64 (0 : Int), i64 (0 : Int), VV.any, VV.any, VV.one (V1.c (C.ptr 1 0 0)), VV.one
 (V1.c (C.ptr 1 0 0)), VV.one (V1.c (C.ptr 1 0 0)), VV.one (V1.c (C.slc 2 0 xs.length none)), i64 (↑xs.length : Int), i64 (0 : Int)] ++ anys 27) [Atom.bag φ, Atom.cells 67 [C.slc 2 0 xs.length none], Atom.arr
 Kd.line xs] ∧ ∀ (z : Nat), z ≤ xs.length → ite2 (decide ((↑z : Int) < (↑xs.length : Int))) (((0 : Int) ≤ (↑z : Int) ∧ (↑z : Int) < (↑xs.length : Int)) ∧ (↑z : Int).toNat < xs.length ∧ True ∧ (↑z : Int).toNat
 < xs.length ∧ ite2 (decide ((rd xs (↑z : Int).toNat (KK.dflt Kd.line)).fst = (2 : Int))) (((∃ (r : Rl), φ (rd xs (↑z : Int).toNat (KK.dflt Kd.line)).snd.snd = some (ruleI r.fst r.snd)) ∧ p.size ≤ 1000000000)
 ∧ Into (K := KK) 0 [] [0] [VV.one (V1.c (C.str p)), VV.one (V1.c (C.rp 50 0 (rd xs (↑z : Int).toNat (KK.dflt Kd.line)).snd.snd 0 0))] [Atom.bag φ, Atom.cells 67 [C.slc 2 0 xs.length none], Atom.arr Kd.line
 xs, Atom.cells 71 [C.int .i64 (rd xs (↑z : Int).toNat (KK.dflt Kd.line)).fst, C.str (rd xs (↑z : Int).toNat (KK.dflt Kd.line)).snd.fst, C.fn (54 : FuncId) [(50, (rd xs (↑z : Int).toNat (KK.dflt Kd.line)).snd.snd)]]]
 [VV.one (V1.c (C.str p)), VV.one (V1.c (C.rp 50 0 (rd xs (↑z : Int).toNat (KK.dflt Kd.line)).snd.snd 0 0))] [Atom.bag φ] ∧ ∀ (y : Int × ByteArray), φ (rd xs (↑z : Int).toNat (KK.dflt Kd.line)).snd.snd
 = some (ruleI y.fst y.snd) → ite2 (sp y p) (i64ok ((↑z : Int) + (1 : Int)) ∧ Enter 3 (inv_prefer φ xs p) (fun (z' : Nat) => xs.length - z' < xs.length - z) ([VV.one (V1.c (C.ptr 1 0 0)), VV.one (V1.c (C.str
 p)), VV.any, VV.any, i64 (0 : Int), i64 (1 : Int), VV.any, VV.one (V1.c (C.ptr 3 0 0)), VV.any, VV.any, VV.any, VV.one (V1.c (C.slc 2 0 xs.length none)), i64 (↑xs.length : Int), i64 ((↑z : Int) + (1 :
 Int))] ++ anys 27) [Atom.bag φ, Atom.cells 67 [C.slc 2 0 xs.length none], Atom.arr Kd.line xs, Atom.cells 71 [C.int .i64 (rd xs (↑z : Int).toNat (KK.dflt Kd.line)).fst, C.str (rd xs (↑z : Int).toNat (KK.dflt
 Kd.line)).snd.fst, C.fn (54 : FuncId) [(50, (rd xs (↑z : Int).toNat (KK.dflt Kd.line)).snd.snd)]]]) (ite2 (decide ((rd xs (↑z : Int).toNat (KK.dflt Kd.line)).fst = (3 : Int))) (((∃ (r : Rl), φ (rd xs (↑z
 : Int).toNat (KK.dflt Kd.line)).snd.snd = some (ruleI r.fst r.snd)) ∧ p.size ≤ 1000000000) ∧ Into (K := KK) 0 [] [0] [VV.one (V1.c (C.str p)), VV.one (V1.c (C.rp 50 0 (rd xs (↑z : Int).toNat (KK.dflt Kd.line)).snd.snd
 0 0))] [Atom.bag φ, Atom.cells 67 [C.slc 2 0 xs.length none], Atom.arr Kd.line xs, Atom.cells 71 [C.int .i64 (rd xs (↑z : Int).toNat (KK.dflt Kd.line)).fst, C.str (rd xs (↑z : Int).toNat (KK.dflt Kd.line)).snd.fst,
 C.fn (54 : FuncId) [(50, (rd xs (↑z : Int).toNat (KK.dflt Kd.line)).snd.snd)]]] [VV.one (V1.c (C.str p)), VV.one (V1.c (C.rp 50 0 (rd xs (↑z : Int).toNat (KK.dflt Kd.line)).snd.snd 0 0))] [Atom.bag φ]
 ∧ ∀ (y : Int × ByteArray), φ (rd xs (↑z : Int).toNat (KK.dflt Kd.line)).snd.snd = some (ruleI y.fst y.snd) → ite2 (sp y p) (i64ok ((↑z : Int) + (1 : Int)) ∧ Enter 3 (inv_prefer φ xs p) (fun (z' : Nat)
 => xs.length - z' < xs.length - z) ([VV.one (V1.c (C.ptr 1 0 0)), VV.one (V1.c (C.str p)), VV.any, VV.any, i64 (0 : Int), i64 (2 : Int), VV.any, VV.one (V1.c (C.ptr 3 0 0)), VV.any, VV.any, VV.any, VV.one
 (V1.c (C.slc 2 0 xs.length none)), i64 (↑xs.length : Int), i64 ((↑z : Int) + (1 : Int))] ++ anys 27) [Atom.bag φ, Atom.cells 67 [C.slc 2 0 xs.length none], Atom.arr Kd.line xs, Atom.cells 71 [C.int .i64
 (rd xs (↑z : Int).toNat (KK.dflt Kd.line)).fst, C.str (rd xs (↑z : Int).toNat (KK.dflt Kd.line)).snd.fst, C.fn (54 : FuncId) [(50, (rd xs (↑z : Int).toNat (KK.dflt Kd.line)).snd.snd)]]]) (i64ok ((↑z :
 Int) + (1 : Int)) ∧ Enter 3 (inv_prefer φ xs p) (fun (z' : Nat) => xs.length - z' < xs.length - z) ([VV.one (V1.c (C.ptr 1 0 0)), VV.one (V1.c (C.str p)), VV.any, VV.any, i64 (0 : Int), i64 (prefI xs p
 z), VV.any, VV.one (V1.c (C.ptr 3 0 0)), VV.any, VV.any, VV.any, VV.one (V1.c (C.slc 2 0 xs.length none)), i64 (↑xs.length : Int), i64 ((↑z : Int) + (1 : Int))] ++ anys 27) [Atom.bag φ, Atom.cells 67 [C.slc
 2 0 xs.length none], Atom.arr Kd.line xs, Atom.cells 71 [C.int .i64 (rd xs (↑z : Int).toNat (KK.dflt Kd.line)).fst, C.str (rd xs (↑z : Int).toNat (KK.dflt Kd.line)).snd.fst, C.fn (54 : FuncId) [(50, (rd
 xs (↑z : Int).toNat (KK.dflt Kd.line)).snd.snd)]]])) (i64ok ((↑z : Int) + (1 : Int)) ∧ Enter 3 (inv_prefer φ xs p) (fun (z' : Nat) => xs.length - z' < xs.length - z) ([VV.one (V1.c (C.ptr 1 0 0)), VV.one
 (V1.c (C.str p)), VV.any, VV.any, i64 (0 : Int), i64 (prefI xs p z), VV.any, VV.one (V1.c (C.ptr 3 0 0)), VV.any, VV.any, VV.any, VV.one (V1.c (C.slc 2 0 xs.length none)), i64 (↑xs.length : Int), i64 ((↑z
 : Int) + (1 : Int))] ++ anys 27) [Atom.bag φ, Atom.cells 67 [C.slc 2 0 xs.length none], Atom.arr Kd.line xs, Atom.cells 71 [C.int .i64 (rd xs (↑z : Int).toNat (KK.dflt Kd.line)).fst, C.str (rd xs (↑z :
 Int).toNat (KK.dflt Kd.line)).snd.fst, C.fn (54 : FuncId) [(50, (rd xs (↑z : Int).toNat (KK.dflt Kd.line)).snd.snd)]]]))) (ite2 (decide ((rd xs (↑z : Int).toNat (KK.dflt Kd.line)).fst = (3 : Int))) (((∃
 (r : Rl), φ (rd xs (↑z : Int).toNat (KK.dflt Kd.line)).snd.snd = some (ruleI r.fst r.snd)) ∧ p.size ≤ 1000000000) ∧ Into (K := KK) 0 [] [0] [VV.one (V1.c (C.str p)), VV.one (V1.c (C.rp 50 0 (rd xs (↑z
 : Int).toNat (KK.dflt Kd.line)).snd.snd 0 0))] [Atom.bag φ, Atom.cells 67 [C.slc 2 0 xs.length none], Atom.arr Kd.line xs, Atom.cells 71 [C.int .i64 (rd xs (↑z : Int).toNat (KK.dflt Kd.line)).fst, C.str
 (rd xs (↑z : Int).toNat (KK.dflt Kd.line)).snd.fst, C.fn (54 : FuncId) [(50, (rd xs (↑z : Int).toNat (KK.dflt Kd.line)).snd.snd)]]] [VV.one (V1.c (C.str p)), VV.one (V1.c (C.rp 50 0 (rd xs (↑z : Int).toNat
 (KK.dflt Kd.line)).snd.snd 0 0))] [Atom.bag φ] ∧ ∀ (y : Int × ByteArray), φ (rd xs (↑z : Int).toNat (KK.dflt Kd.line)).snd.snd = some (ruleI y.fst y.snd) → ite2 (sp y p) (i64ok ((↑z : Int) + (1 : Int))
 ∧ Enter 3 (inv_prefer φ xs p) (fun (z' : Nat) => xs.length - z' < xs.length - z) ([VV.one (V1.c (C.ptr 1 0 0)), VV.one (V1.c (C.str p)), VV.any, VV.any, i64 (0 : Int), i64 (2 : Int), VV.any, VV.one (V1.c
 (C.ptr 3 0 0)), VV.any, VV.any, VV.any, VV.one (V1.c (C.slc 2 0 xs.length none)), i64 (↑xs.length : Int), i64 ((↑z : Int) + (1 : Int))] ++ anys 27) [Atom.bag φ, Atom.cells 67 [C.slc 2 0 xs.length none],
 Atom.arr Kd.line xs, Atom.cells 71 [C.int .i64 (rd xs (↑z : Int).toNat (KK.dflt Kd.line)).fst, C.str (rd xs (↑z : Int).toNat (KK.dflt Kd.line)).snd.fst, C.fn (54 : FuncId) [(50, (rd xs (↑z : Int).toNat
 (KK.dflt Kd.line)).snd.snd)]]]) (i64ok ((↑z : Int) + (1 : Int)) ∧ Enter 3 (inv_prefer φ xs p) (fun (z' : Nat) => xs.length - z' < xs.length - z) ([VV.one (V1.c (C.ptr 1 0 0)), VV.one (V1.c (C.str p)),
 VV.any, VV.any, i64 (0 : Int), i64 (prefI xs p z), VV.any, VV.one (V1.c (C.ptr 3 0 0)), VV.any, VV.any, VV.any, VV.one (V1.c (C.slc 2 0 xs.length none)), i64 (↑xs.length : Int), i64 ((↑z : Int) + (1 :
 Int))] ++ anys 27) [Atom.bag φ, Atom.cells 67 [C.slc 2 0 xs.length none], Atom.arr Kd.line xs, Atom.cells 71 [C.int .i64 (rd xs (↑z : Int).toNat (KK.dflt Kd.line)).fst, C.str (rd xs (↑z : Int).toNat (KK.dflt
 Kd.line)).snd.fst, C.fn (54 : FuncId) [(50, (rd xs (↑z : Int).toNat (KK.dflt Kd.line)).snd.snd)]]])) (i64ok ((↑z : Int) + (1 : Int)) ∧ Enter 3 (inv_prefer φ xs p) (fun (z' : Nat) => xs.length - z' < xs.length
 - z) ([VV.one (V1.c (C.ptr 1 0 0)), VV.one (V1.c (C.str p)), VV.any, VV.any, i64 (0 : Int), i64 (prefI xs p z), VV.any, VV.one (V1.c (C.ptr 3 0 0)), VV.any, VV.any, VV.any, VV.one (V1.c (C.slc 2 0 xs.length
 none)), i64 (↑xs.length : Int), i64 ((↑z : Int) + (1 : Int))] ++ anys 27) [Atom.bag φ, Atom.cells 67 [C.slc 2 0 xs.length none], Atom.arr Kd.line xs, Atom.cells 71 [C.int .i64 (rd xs (↑z : Int).toNat (KK.dflt
 Kd.line)).fst, C.str (rd xs (↑z : Int).toNat (KK.dflt Kd.line)).snd.fst, C.fn (54 : FuncId) [(50, (rd xs (↑z : Int).toNat (KK.dflt Kd.line)).snd.snd)]]]))) (EndsAs 3 (ct_prefer φ xs p) (i64 (prefI xs p
 z)) [Atom.bag φ, Atom.cells 67 [C.slc 2 0 xs.length none], Atom.arr Kd.line xs])) := by kernel_rfl
theorem size_of_toList {z : ByteArray} (h : ¬ z.toList = (ByteArray.mk #[]).toList) : z.size ≠ 0 := fun e => h (by
  rw [toList_data, toList_data]
  have : z.data.toList.length = 0 := by simpa using e
  rw [List.eq_nil_of_length_eq_zero this])
theorem size_of_toList0 {z : ByteArray} (h : z.toList = (ByteArray.mk #[]).toList) : z.size = 0 := by
  rw [toList_data, toList_data] at h
  have h2 : z.data.toList.length = 0 := by rw [h]; rfl
  simpa using h2
theorem skips_ok (w : Int) (q : ByteArray) (b : Nat) (φ : Bag KK) (p : ByteArray) : CtOk Tryd.prog 37 (ct_skips w q b φ p) := CtOk_of KK_ok tab2 (ann_skips w q b φ p) (fn := Tryd.f37) rfl (fun _ _ => rfl) fun hn => by
  obtain ⟨hb, hp⟩ := hn
  have no : ∀ v A, v = skipsB (w, q) p → EndsAs 1 (ct_skips w q b φ p) (boolv v) (.bag φ :: A) := fun v A hv => by
    subst hv
    exact ⟨(), [], [0], trivial, by (repeat' first | exact trivial | exact rfl | apply And.intro)⟩
  rw [vc_skips]
  refine ⟨⟨p, [], [0, 1], ⟨Nat.le_refl _, rfl⟩, trivial, into_mk (by kernel_rfl) (by (repeat' first | exact trivial | exact rfl | apply And.intro)) (by (repeat' first | exact trivial | exact rfl | apply And.intro))⟩, ?_⟩
  rintro z ⟨hz, hs⟩
  refine ite2_decide (fun hw => ite2_decide (fun h0 => no _ _ ?_) (fun h0 => ?_)) (fun hw => no _ _ ?_)
  · rw [← hs]
    unfold skipsB
    rw [chain_nil (size_of_toList0 h0)]
    simp
  · have h0 := size_of_toList h0
    have hc := skips_at (q := q) hw h0
    refine ⟨⟨⟨(w, q), hb⟩, by omega⟩, into_mk (by kernel_rfl) (by (repeat' first | exact trivial | exact rfl | apply And.intro)) (by (repeat' first | exact trivial | exact rfl | apply And.intro)), fun y hy => ?_⟩
    obtain rfl := rule_inj hy hb
    have ha := above_size z h0
    refine ite2_mk (fun h => no _ _ ?_) (fun h => ⟨by omega, into_mk (by kernel_rfl) (by (repeat' first | exact trivial | exact rfl | apply And.intro)) (by (repeat' first | exact trivial | exact rfl | apply And.intro)), fun _ _ => ⟨aboveB z, [], [0, 1], ⟨by omega, ?_⟩, ha, into_mk (by kernel_rfl) (by (repeat' first | exact trivial | exact rfl | apply And.intro)) (by (repeat' first | exact trivial | exact rfl | apply And.intro))⟩⟩)
    · rw [← hs, hc, h]; rfl
    · rw [← hs, hc, h]; rfl
  · rw [← hs]
    unfold skipsB
    rw [decide_eq_false hw]; rfl
theorem rd_get {α : Type} (xs : List α) (z : Nat) (d : α) (h : z < xs.length) : rd xs z d = xs[z] := by
  unfold rd
  rw [List.getD_eq_getElem?_getD, List.getElem?_eq_getElem h]
  rfl
theorem rd_in {α : Type} (xs : List α) (z : Nat) (d : α) (h : z < xs.length) : rd xs z d ∈ xs := by
  rw [rd_get xs z d h]
  exact List.getElem_mem h
theorem rd_mem {xs : List Ln} {z : Nat} (h : z < xs.length) : rd (α := KK.α Kd.line) xs z (KK.dflt Kd.line) ∈ xs := rd_in (α := Ln) xs z _ h
theorem map_succ {α β : Type} (f : α → β) (xs : List α) (z : Nat) (d : α) (h : z < xs.length) : (xs.map f).take (z + 1) = (xs.map f).take z ++ [f (rd xs z d)] := by
  have hl : z < (xs.map f).length := by rw [List.length_map]; exact h
  rw [List.take_succ_eq_append_getElem hl, List.getElem_map, rd_get xs z d h]
theorem LL_succ {xs : List Ln} {z : Nat} (h : z < xs.length) : (LL xs).take (z + 1) = (LL xs).take z ++ [rl (rd (α := KK.α Kd.line) xs z (KK.dflt Kd.line))] := map_succ rl xs z _ h
theorem skipAt_app (l : List Rl) (r : Rl) (q : ByteArray) : skipAt (l ++ [r]) q = (skipAt l q || (decide (r.1 = 1) && sp r q)) := by
  unfold skipAt
  rw [List.any_append]
  simp
theorem skipAt_take {l : List Rl} {z : Nat} {q : ByteArray} {r : Rl} (h : l.take (z + 1) = l.take z ++ [r]) (hr : r.1 = 1) (hs : sp r q = true) : skipAt l q = true := by
  have e : l = l.take (z + 1) ++ l.drop (z + 1) := (List.take_append_drop _ _).symm
  unfold skipAt
  rw [e, List.any_append, h, List.any_append]
  simp [hr, hs]
theorem skip_ok (φ : Bag KK) (xs : List Ln) (p : ByteArray) : CtOk Tryd.prog 17 (ct_skip φ xs p) := CtOk_of KK_ok tab2 (ann_skip φ xs p) (fn := Tryd.f17) rfl (fun _ _ => rfl) fun hn => by
  obtain ⟨hg, hp, hlen⟩ := hn
  have no : ∀ v A, v = skipB (LL xs) p → EndsAs 3 (ct_skip φ xs p) (boolv v) (.bag φ :: .cells 67 [.slc 2 0 xs.length none] :: .arr Kd.line xs :: A) := fun v A hv => by
    subst hv
    exact ⟨(), [], [0, 1, 2], trivial, by (repeat' first | exact trivial | exact rfl | apply And.intro)⟩
  rw [vc_skip]
  simp only [Int.toNat_natCast]
  refine ⟨hp, into_mk (by kernel_rfl) (by (repeat' first | exact trivial | exact rfl | apply And.intro)) (by (repeat' first | exact trivial | exact rfl | apply And.intro)), fun _ _ => ite2_decide (fun hsp => ?_) (fun hsp => no _ _ ?_)⟩
  · have hB : skipB (LL xs) p = (chain p).any (skipAt (LL xs)) := by unfold skipB; rw [decide_eq_true hsp]; rfl
    refine ⟨⟨p, [], [0, 1, 2], ⟨Nat.le_refl _, rfl⟩, trivial, into_mk (by kernel_rfl) (by (repeat' first | exact trivial | exact rfl | apply And.intro)) (by (repeat' first | exact trivial | exact rfl | apply And.intro))⟩, ?_⟩
    rintro z ⟨hz, hs⟩
    refine ite2_decide (fun h0 => no _ _ ?_) (fun h0 => ?_)
    · rw [hB, ← hs, chain_nil (size_of_toList0 h0)]; rfl
    · have h0 := size_of_toList h0
      have hc : (chain z).any (skipAt (LL xs)) = (skipAt (LL xs) z || (chain (aboveB z)).any (skipAt (LL xs))) := by rw [chain_cons h0]; simp
      have ha := above_size z h0
      refine ⟨⟨(0 : Nat), [], [0, 1, 2], ⟨Nat.zero_le _, rfl⟩, trivial, into_mk (by kernel_rfl) (by (repeat' first | exact trivial | exact rfl | apply And.intro)) (by (repeat' first | exact trivial | exact rfl | apply And.intro))⟩, ?_⟩
      rintro i ⟨hi, hf⟩
      refine ite2_decide (fun hl => ?_) (fun hl => ?_)
      · have hl1 : i < xs.length := by omega
        have hx := hg _ (rd_mem hl1)
        have ht := LL_succ hl1
        have next : skipAt ((LL xs).take (i + 1)) z = false → i64ok ((i : Int) + 1) ∧ i + 1 ≤ xs.length ∧ xs.length - (i + 1) < xs.length - i := fun _ => ⟨by unfold i64ok; omega, by omega, by omega⟩
        refine ⟨⟨by omega, hl⟩, hl1, trivial, hl1, ite2_decide (fun hw => ?_) (fun hw => ?_)⟩
        · refine ⟨⟨⟨rl (rd (α := KK.α Kd.line) xs i (KK.dflt Kd.line)), hx⟩, by omega⟩, into_mk (by kernel_rfl) (by (repeat' first | exact trivial | exact rfl | apply And.intro)) (by (repeat' first | exact trivial | exact rfl | apply And.intro)), fun y hy => ?_⟩
          have hy := rule_inj hy hx
          refine ite2_mk (fun h => no _ _ ?_) (fun h => ?_)
          · rw [hB, ← hs, hc, skipAt_take ht hw (by rw [hy] at h; exact h)]; rfl
          · have hf1 : skipAt ((LL xs).take (i + 1)) z = false := by
              rw [ht, skipAt_app, hf]
              have h : sp (rl (rd (α := KK.α Kd.line) xs i (KK.dflt Kd.line))) z = false := by rw [hy] at h; exact h
              rw [h]; simp
            obtain ⟨n1, n2, n3⟩ := next hf1
            exact ⟨n1, (i + 1 : Nat), [], [0, 1, 2], ⟨n2, hf1⟩, n3, into_mk (by kernel_rfl) (by (repeat' first | exact trivial | exact rfl | apply And.intro)) (by (repeat' first | exact trivial | exact rfl | apply And.intro))⟩
        · have hf1 : skipAt ((LL xs).take (i + 1)) z = false := by
            rw [ht, skipAt_app, hf]
            have h : decide ((rl (rd (α := KK.α Kd.line) xs i (KK.dflt Kd.line))).1 = 1) = false := decide_eq_false hw
            rw [h]; rfl
          obtain ⟨n1, n2, n3⟩ := next hf1
          exact ⟨n1, (i + 1 : Nat), [], [0, 1, 2], ⟨n2, hf1⟩, n3, into_mk (by kernel_rfl) (by (repeat' first | exact trivial | exact rfl | apply And.intro)) (by (repeat' first | exact trivial | exact rfl | apply And.intro))⟩
      · have hf2 : skipAt (LL xs) z = false := by
          rw [List.take_of_length_le (by unfold LL; rw [List.length_map]; omega)] at hf
          exact hf
        exact ⟨by omega, into_mk (by kernel_rfl) (by (repeat' first | exact trivial | exact rfl | apply And.intro)) (by (repeat' first | exact trivial | exact rfl | apply And.intro)), fun _ _ => ⟨aboveB z, [], [0, 1, 2], ⟨by omega, by rw [← hs, hc, hf2]; rfl⟩, ha, into_mk (by kernel_rfl) (by (repeat' first | exact trivial | exact rfl | apply And.intro)) (by (repeat' first | exact trivial | exact rfl | apply And.intro))⟩⟩
  · unfold skipB
    rw [decide_eq_false hsp]; rfl
theorem pref_app (l : List Rl) (r : Rl) (p : ByteArray) : preferB (l ++ [r]) p = prefStep p (preferB l p) r := by
  unfold preferB
  rw [List.foldl_append]
  rfl
theorem prefI_succ {xs : List Ln} {z : Nat} (p : ByteArray) (h : z < xs.length) : prefI xs p (z + 1) = prefStep p (prefI xs p z) (rl (rd (α := KK.α Kd.line) xs z (KK.dflt Kd.line))) := by
  unfold prefI
  rw [LL_succ h, pref_app]
theorem prefer_ok (φ : Bag KK) (xs : List Ln) (p : ByteArray) : CtOk Tryd.prog 19 (ct_prefer φ xs p) := CtOk_of KK_ok tab2 (ann_prefer φ xs p) (fn := Tryd.f19) rfl (fun _ _ => rfl) fun hn => by
  obtain ⟨hg, hp, hlen⟩ := hn
  rw [vc_prefer]
  simp only [Int.toNat_natCast]
  refine ⟨⟨(0 : Nat), [], [0, 1, 2], Nat.zero_le _, trivial, into_mk (by kernel_rfl) (by (repeat' first | exact trivial | exact rfl | apply And.intro)) (by (repeat' first | exact trivial | exact rfl | apply And.intro))⟩, ?_⟩
  intro i hi
  have hi : i ≤ xs.length := hi
  refine ite2_decide (fun hl => ?_) (fun hl => ?_)
  · have hl1 : i < xs.length := by omega
    have hx := hg _ (rd_mem hl1)
    have hs := prefI_succ p hl1
    have go : ∀ (s : Int) (fr : List VV) (A : VH KK), prefI xs p (i + 1) = s → (Into (K := KK) 3 [] [0, 1, 2] (fr) (.bag φ :: .cells 67 [.slc 2 0 xs.length none] :: .arr Kd.line xs :: A) ((inv_prefer φ xs p).fr (i + 1 : Nat)) ((inv_prefer φ xs p).H (i + 1 : Nat))) → i64ok ((i : Int) + 1) ∧ Enter 3 (inv_prefer φ xs p) (fun (z' : Nat) => xs.length - z' < xs.length - i) fr (.bag φ :: .cells 67 [.slc 2 0 xs.length none] :: .arr Kd.line xs :: A) := fun s fr A _ hI =>
      ⟨by unfold i64ok; omega, (i + 1 : Nat), [], [0, 1, 2], (show i + 1 ≤ xs.length by omega), (show xs.length - (i + 1) < xs.length - i by omega), hI⟩
    have hq1 : ∀ s, prefI xs p (i + 1) = s → s = prefI xs p (i + 1) := fun s h => h.symm
    refine ⟨⟨by omega, hl⟩, hl1, trivial, hl1, ite2_decide (fun hw => ?_) (fun hw => ?_)⟩
    · refine ⟨⟨⟨rl (rd (α := KK.α Kd.line) xs i (KK.dflt Kd.line)), hx⟩, hp⟩, into_mk (by kernel_rfl) (by (repeat' first | exact trivial | exact rfl | apply And.intro)) (by (repeat' first | exact trivial | exact rfl | apply And.intro)), fun y hy => ?_⟩
      have hy := rule_inj hy hx
      refine ite2_mk (fun h => ?_) (fun h => ?_)
      · have hq : (1 : Int) = prefI xs p (i + 1) := by
          rw [hs]; unfold prefStep
          rw [if_pos ⟨hw, by rw [hy] at h; exact h⟩]
        exact go _ _ _ hq.symm (into_mk (by kernel_rfl) (by (repeat' first | exact trivial | exact rfl | exact hq | apply And.intro)) (by (repeat' first | exact trivial | exact rfl | apply And.intro)))
      · have h : sp (rl (rd (α := KK.α Kd.line) xs i (KK.dflt Kd.line))) p = false := by rw [hy] at h; exact h
        have hq : prefI xs p i = prefI xs p (i + 1) := by
          rw [hs]; unfold prefStep
          rw [if_neg (fun e => by rw [h] at e; cases e.2), if_neg (fun e => by rw [h] at e; cases e.2)]
        refine ite2_decide (fun hw3 => ?_) (fun hw3 => go _ _ _ hq.symm (into_mk (by kernel_rfl) (by (repeat' first | exact trivial | exact rfl | exact hq | apply And.intro)) (by (repeat' first | exact trivial | exact rfl | apply And.intro))))
        rw [hw] at hw3; cases hw3
    · refine ite2_decide (fun hw3 => ?_) (fun hw3 => ?_)
      · refine ⟨⟨⟨rl (rd (α := KK.α Kd.line) xs i (KK.dflt Kd.line)), hx⟩, hp⟩, into_mk (by kernel_rfl) (by (repeat' first | exact trivial | exact rfl | apply And.intro)) (by (repeat' first | exact trivial | exact rfl | apply And.intro)), fun y hy => ?_⟩
        have hy := rule_inj hy hx
        refine ite2_mk (fun h => ?_) (fun h => ?_)
        · have hq : (2 : Int) = prefI xs p (i + 1) := by
            rw [hs]; unfold prefStep
            rw [if_neg (fun e => hw e.1), if_pos ⟨hw3, by rw [hy] at h; exact h⟩]
          exact go _ _ _ hq.symm (into_mk (by kernel_rfl) (by (repeat' first | exact trivial | exact rfl | exact hq | apply And.intro)) (by (repeat' first | exact trivial | exact rfl | apply And.intro)))
        · have h : sp (rl (rd (α := KK.α Kd.line) xs i (KK.dflt Kd.line))) p = false := by rw [hy] at h; exact h
          have hq : prefI xs p i = prefI xs p (i + 1) := by
            rw [hs]; unfold prefStep
            rw [if_neg (fun e => by rw [h] at e; cases e.2), if_neg (fun e => by rw [h] at e; cases e.2)]
          exact go _ _ _ hq.symm (into_mk (by kernel_rfl) (by (repeat' first | exact trivial | exact rfl | exact hq | apply And.intro)) (by (repeat' first | exact trivial | exact rfl | apply And.intro)))
      · have hq : prefI xs p i = prefI xs p (i + 1) := by
          rw [hs]; unfold prefStep
          rw [if_neg (fun e => hw e.1), if_neg (fun e => hw3 e.1)]
        exact go _ _ _ hq.symm (into_mk (by kernel_rfl) (by (repeat' first | exact trivial | exact rfl | exact hq | apply And.intro)) (by (repeat' first | exact trivial | exact rfl | apply And.intro)))
  · have hq : prefI xs p i = preferB (LL xs) p := by
      unfold prefI
      rw [List.take_of_length_le (by unfold LL; rw [List.length_map]; omega)]
    exact ⟨(), [], [0, 1, 2], trivial, by (repeat' first | exact trivial | exact rfl | exact hq | apply And.intro)⟩
end Go.Proofs.YtoidibkcdkdneaaDoor.T
end
section
namespace Go.Proofs.YtoidibkcdkdneaaDoor.T
open Go.Proofs.YtoidibkcdkdneaaDoor.E Go.Proofs.YtoidibkcdkdneaaDoor.MStr Go.Proofs.YtoidibkcdkdneaaDoor.R
set_option maxRecDepth 100000
set_option linter.unusedVariables false
def whyI (xs : List Ln) (p : ByteArray) (i : Nat) : Int × Int := whyL p 0 ((LL xs).take i) (0, 0)
def ct_why (φ : Bag KK) (xs : List Ln) (p : ByteArray) : Ct KK := { need := GoodL φ xs ∧ p.size ≤ 1000000000 ∧ xs.length ≤ 1000, pre := rulesH φ xs, args := [.c (.ptr 1 0 0), strv p], Y := Unit, ok := fun _ => True, ret := fun _ => .tup [.c (.int .i64 (whyB (LL xs) p).1), .c (.int .i64 (whyB (LL xs) p).2)], post := fun _ => rulesH φ xs }
def inv_why (φ : Bag KK) (xs : List Ln) (p : ByteArray) : Inv KK := { X := Nat, fr := fun i => [.c (.ptr 1 0 0), strv p, .any, .any, i64 0, i64 0, i64 (whyI xs p i).1, i64 (whyI xs p i).2, .any, .any, .any, .any, .any, .any, .any, .any, .any, .any, .any, .any, .any, .any, .c (.slc 2 0 xs.length none), i64 xs.length, i64 i] ++ anys 30, H := fun _ => rulesH φ xs, ok := fun i => i ≤ xs.length, meas := fun i : Nat => xs.length - i }
def ann_why (φ : Bag KK) (xs : List Ln) (p : ByteArray) : Ann KK := { loop := fun _ _ _ => some (inv_why φ xs p), cut := fun _ _ _ => none, keep := some 25 }
def ct_list (φ : Bag KK) (xs : List Ln) : Ct KK := { need := xs.length ≤ 1000, pre := rulesH φ xs, args := [.c (.ptr 1 0 0)], Y := Unit, ok := fun _ => True, ret := fun _ => .c (.slc 3 0 (LL xs).length none), post := fun _ => [.bag φ, .cells 67 [.slc 2 0 xs.length none], .arr .line xs, .arr .rule (LL xs)] }
def inv_list (φ : Bag KK) (xs : List Ln) : Inv KK := { X := Nat, fr := fun i => [.c (.ptr 1 0 0), .any, .any, .c (.slc 3 0 ((LL xs).take i).length none), .any, .any, .any, .any, .any, .c (.slc 2 0 xs.length none), i64 xs.length, i64 i] ++ anys 10, H := fun i => [.bag φ, .cells 67 [.slc 2 0 xs.length none], .arr .line xs, .arr .rule ((LL xs).take i)], ok := fun i => i ≤ xs.length, meas := fun i : Nat => xs.length - i }
def ann_list (φ : Bag KK) (xs : List Ln) : Ann KK := { loop := fun _ _ _ => some (inv_list φ xs), cut := fun _ _ _ => none, keep := some 12 }
def lineT (r : Rl) : ByteArray := tx (lineL r)
def lineTs (xs : List Ln) (i : Nat) : List ByteArray := ((LL xs).take i).map lineT
def ct_text (t : Tb) (φ : Bag KK) (xs : List Ln) : Ct KK := { need := HasT t φ ∧ (∀ x ∈ xs, 1 ≤ x.1 ∧ x.1 ≤ 3) ∧ xs.length ≤ 1000 ∧ lsum (LL xs) ≤ 1000000, pre := rulesH φ xs, args := [.c (.ptr 1 0 0)], Y := Unit, ok := fun _ => True, ret := fun _ => strv (textB (LL xs)), post := fun _ => rulesH φ xs }
def inv_text (φ : Bag KK) (xs : List Ln) : Inv KK := { X := Nat, fr := fun i => [.c (.ptr 1 0 0), .any, .any, .c (.slc 3 0 (lineTs xs i).length none), .any, .any, .any, .any, .any, .c (.slc 2 0 xs.length none), i64 xs.length, i64 i] ++ anys 21, H := fun i => [.bag φ, .cells 67 [.slc 2 0 xs.length none], .arr .line xs, .arr .str (lineTs xs i)], ok := fun i => i ≤ xs.length, meas := fun i : Nat => xs.length - i }
def ann_text (φ : Bag KK) (xs : List Ln) : Ann KK := { loop := fun _ _ _ => some (inv_text φ xs), cut := fun _ _ _ => none, keep := some 12 }
def ct_sameR (l : List Rl) : Ct KK := { need := l.length ≤ 1000000, pre := [.ro .rule l, .ro .rule l], args := [.c (.slc 0 0 l.length none), .c (.slc 1 0 l.length none)], Y := Unit, ok := fun _ => True, ret := fun _ => boolv true, post := fun _ => [.gone, .gone] }
def inv_sameR (l : List Rl) : Inv KK := { X := Nat, fr := fun i => [.c (.slc 0 0 l.length none), .c (.slc 1 0 l.length none), .any, .any, .any, i64 i] ++ anys 20, H := fun _ => [.ro .rule l, .ro .rule l], ok := fun i => i ≤ l.length, meas := fun i : Nat => l.length - i }
def ann_sameR (l : List Rl) : Ann KK := { loop := fun _ _ _ => some (inv_sameR l), cut := fun _ _ _ => none, keep := some 6 }
def tab3 (t : Tb) : Tab Tryd.prog KK := ⟨base t, fun f args H => match f, args, at_ H 0 with
  | 37, [.one (.agg [.int _ w, .str q, .fn 54 [(50, b)]]), .one (.c (.str p))], .bag φ => some (ct_skips w q b φ p, [], [0])
  | 54, [.one (.c (.str p)), .one (.c (.rp _ _ b _ _))], .bag φ => some (ct_speak φ b p, [], [0])
  | 28, [.one (.c (.str s)), .one (.c (.int _ n))], _ => some (ct_psplit s n, [], [])
  | 41, [.one (.c (.slc n 0 _ none)), .one (.c (.str s))], _ => match at_ H n with
    | .arr .str l => some (ct_sjoin l s, [], [n])
    | _ => none
  | _, _, _ => none, fun f args H ct ks τ h => by
    split at h
    · cases h; exact skips_ok _ _ _ _ _
    · cases h; exact speak_ok _ _ _
    · cases h; exact psplit_ok _ _
    · split at h
      · cases h; exact sjoin_ok _ _
      · cases h
    · cases h⟩
theorem vc_why (t : Tb) (φ : Bag KK) (xs : List Ln) (p : ByteArray) : evFn (tab3 t) (ann_why φ xs p) Tryd.f15 (ct_why φ xs p) = ( p.size ≤ 1000000000 ∧ Into (K := KK) 0 [] [] [VV.one (V1.c (C.str p)), i64 (64 : Int)] [Atom.bag φ, Atom.cells 67 [C.slc 2 0 xs.length none], Atom.arr Kd.line xs] [VV.one (V1.c (C.str p)), i64 (64 : Int)]
 [] ∧ ∀ (y : Unit), True → ite2 (decide ((Hand.splitB p (64 : Int)).snd = (0 : Int))) (Enter 3 (inv_why φ xs p) (fun (x : Nat) => True) ([VV.one (V1.c (C.ptr 1 0 0)), VV.one (V1.c (C.str p)), VV.any, VV.any,
 i64 (0 : Int), i64 (0 : Int), i64 (0 : Int), i64 (0 : Int), VV.one (V1.c (C.slc 3 0 (Hand.splitB p (64 : Int)).fst.length none)), i64 (Hand.splitB p (64 : Int)).snd, VV.any, VV.any, VV.tup [V1.c (C.slc
 3 0 (Hand.splitB p (64 : Int)).fst.length none), V1.c (C.int .i64 (Hand.splitB p (64 : Int)).snd)], VV.one (V1.c (C.str p)), VV.tup [V1.c (C.slc 3 0 (Hand.splitB p (64 : Int)).fst.length none), V1.c (C.int
 .i64 (Hand.splitB p (64 : Int)).snd)], VV.one (V1.c (C.slc 3 0 (Hand.splitB p (64 : Int)).fst.length none)), i64 (Hand.splitB p (64 : Int)).snd, i64 (Hand.splitB p (64 : Int)).snd, boolv false, VV.one
 (V1.c (C.ptr 1 0 0)), VV.one (V1.c (C.ptr 1 0 0)), VV.one (V1.c (C.ptr 1 0 0)), VV.one (V1.c (C.slc 2 0 xs.length none)), i64 (↑xs.length : Int), i64 (0 : Int)] ++ anys 30) [Atom.bag φ, Atom.cells 67 [C.slc
 2 0 xs.length none], Atom.arr Kd.line xs, Atom.arr Kd.str (Hand.splitB p (64 : Int)).fst] ∧ ∀ (z : Nat), z ≤ xs.length → ite2 (decide ((↑z : Int) < (↑xs.length : Int))) (((0 : Int) ≤ (↑z : Int) ∧ (↑z :
 Int) < (↑xs.length : Int)) ∧ (↑z : Int).toNat < xs.length ∧ True ∧ (↑z : Int).toNat < xs.length ∧ ite2 (decide ((whyI xs p z).fst = (0 : Int))) ((φ (rd xs (↑z : Int).toNat (KK.dflt Kd.line)).snd.snd =
 some (ruleI (rd xs (↑z : Int).toNat (KK.dflt Kd.line)).fst (rd xs (↑z : Int).toNat (KK.dflt Kd.line)).snd.fst) ∧ p.size ≤ 1000000000) ∧ Into (K := KK) 0 [] [0] [VV.one (V1.agg [C.int .i64 (rd xs (↑z :
 Int).toNat (KK.dflt Kd.line)).fst, C.str (rd xs (↑z : Int).toNat (KK.dflt Kd.line)).snd.fst, C.fn (54 : FuncId) [(50, (rd xs (↑z : Int).toNat (KK.dflt Kd.line)).snd.snd)]]), VV.one (V1.c (C.str p))] [Atom.bag
 φ, Atom.cells 67 [C.slc 2 0 xs.length none], Atom.arr Kd.line xs, Atom.cells 71 [C.int .i64 (rd xs (↑z : Int).toNat (KK.dflt Kd.line)).fst, C.str (rd xs (↑z : Int).toNat (KK.dflt Kd.line)).snd.fst, C.fn
 (54 : FuncId) [(50, (rd xs (↑z : Int).toNat (KK.dflt Kd.line)).snd.snd)]]] [VV.one (V1.agg [C.int .i64 (rd xs (↑z : Int).toNat (KK.dflt Kd.line)).fst, C.str (rd xs (↑z : Int).toNat (KK.dflt Kd.line)).snd.fst,
 C.fn (54 : FuncId) [(50, (rd xs (↑z : Int).toNat (KK.dflt Kd.line)).snd.snd)]]), VV.one (V1.c (C.str p))] [Atom.bag φ] ∧ ∀ (y : Unit), True → ite2 (skipsB ((rd xs (↑z : Int).toNat (KK.dflt Kd.line)).fst,
 (rd xs (↑z : Int).toNat (KK.dflt Kd.line)).snd.fst) p) (i64ok ((↑z : Int) + (1 : Int)) ∧ i64ok ((↑z : Int) + (1 : Int)) ∧ Enter 3 (inv_why φ xs p) (fun (z' : Nat) => xs.length - z' < xs.length - z) ([VV.one
 (V1.c (C.ptr 1 0 0)), VV.one (V1.c (C.str p)), VV.any, VV.any, i64 (0 : Int), i64 (0 : Int), i64 ((↑z : Int) + (1 : Int)), i64 (whyI xs p z).snd, VV.any, VV.any, i64 (↑z : Int), VV.one (V1.c (C.ptr 3 0
 0)), VV.any, VV.any, VV.any, VV.any, VV.any, VV.any, VV.any, VV.any, VV.any, VV.any, VV.one (V1.c (C.slc 2 0 xs.length none)), i64 (↑xs.length : Int), i64 ((↑z : Int) + (1 : Int))] ++ anys 30) [Atom.bag
 φ, Atom.cells 67 [C.slc 2 0 xs.length none], Atom.arr Kd.line xs, Atom.cells 71 [C.int .i64 (rd xs (↑z : Int).toNat (KK.dflt Kd.line)).fst, C.str (rd xs (↑z : Int).toNat (KK.dflt Kd.line)).snd.fst, C.fn
 (54 : FuncId) [(50, (rd xs (↑z : Int).toNat (KK.dflt Kd.line)).snd.snd)]]]) (ite2 (decide ((rd xs (↑z : Int).toNat (KK.dflt Kd.line)).fst = (1 : Int))) (i64ok ((↑z : Int) + (1 : Int)) ∧ Enter 3 (inv_why
 φ xs p) (fun (z' : Nat) => xs.length - z' < xs.length - z) ([VV.one (V1.c (C.ptr 1 0 0)), VV.one (V1.c (C.str p)), VV.any, VV.any, i64 (0 : Int), i64 (0 : Int), i64 (whyI xs p z).fst, i64 (whyI xs p z).snd,
 VV.any, VV.any, i64 (↑z : Int), VV.one (V1.c (C.ptr 3 0 0)), VV.any, VV.any, VV.any, VV.any, VV.any, VV.any, VV.any, VV.any, VV.any, VV.any, VV.one (V1.c (C.slc 2 0 xs.length none)), i64 (↑xs.length :
 Int), i64 ((↑z : Int) + (1 : Int))] ++ anys 30) [Atom.bag φ, Atom.cells 67 [C.slc 2 0 xs.length none], Atom.arr Kd.line xs, Atom.cells 71 [C.int .i64 (rd xs (↑z : Int).toNat (KK.dflt Kd.line)).fst, C.str
 (rd xs (↑z : Int).toNat (KK.dflt Kd.line)).snd.fst, C.fn (54 : FuncId) [(50, (rd xs (↑z : Int).toNat (KK.dflt Kd.line)).snd.snd)]]]) (((∃ (r : Rl), φ (rd xs (↑z : Int).toNat (KK.dflt Kd.line)).snd.snd
 = some (ruleI r.fst r.snd)) ∧ p.size ≤ 1000000000) ∧ Into (K := KK) 0 [] [0] [VV.one (V1.c (C.str p)), VV.one (V1.c (C.rp 50 0 (rd xs (↑z : Int).toNat (KK.dflt Kd.line)).snd.snd 0 0))] [Atom.bag φ, Atom.cells
 67 [C.slc 2 0 xs.length none], Atom.arr Kd.line xs, Atom.cells 71 [C.int .i64 (rd xs (↑z : Int).toNat (KK.dflt Kd.line)).fst, C.str (rd xs (↑z : Int).toNat (KK.dflt Kd.line)).snd.fst, C.fn (54 : FuncId)
 [(50, (rd xs (↑z : Int).toNat (KK.dflt Kd.line)).snd.snd)]]] [VV.one (V1.c (C.str p)), VV.one (V1.c (C.rp 50 0 (rd xs (↑z : Int).toNat (KK.dflt Kd.line)).snd.snd 0 0))] [Atom.bag φ] ∧ ∀ (y : Int × ByteArray),
 φ (rd xs (↑z : Int).toNat (KK.dflt Kd.line)).snd.snd = some (ruleI y.fst y.snd) → ite2 (sp y p) (i64ok ((↑z : Int) + (1 : Int)) ∧ i64ok ((↑z : Int) + (1 : Int)) ∧ Enter 3 (inv_why φ xs p) (fun (z' : Nat)
 => xs.length - z' < xs.length - z) ([VV.one (V1.c (C.ptr 1 0 0)), VV.one (V1.c (C.str p)), VV.any, VV.any, i64 (0 : Int), i64 (0 : Int), i64 (whyI xs p z).fst, i64 ((↑z : Int) + (1 : Int)), VV.any, VV.any,
 i64 (↑z : Int), VV.one (V1.c (C.ptr 3 0 0)), VV.any, VV.any, VV.any, VV.any, VV.any, VV.any, VV.any, VV.any, VV.any, VV.any, VV.one (V1.c (C.slc 2 0 xs.length none)), i64 (↑xs.length : Int), i64 ((↑z :
 Int) + (1 : Int))] ++ anys 30) [Atom.bag φ, Atom.cells 67 [C.slc 2 0 xs.length none], Atom.arr Kd.line xs, Atom.cells 71 [C.int .i64 (rd xs (↑z : Int).toNat (KK.dflt Kd.line)).fst, C.str (rd xs (↑z : Int).toNat
 (KK.dflt Kd.line)).snd.fst, C.fn (54 : FuncId) [(50, (rd xs (↑z : Int).toNat (KK.dflt Kd.line)).snd.snd)]]]) (i64ok ((↑z : Int) + (1 : Int)) ∧ Enter 3 (inv_why φ xs p) (fun (z' : Nat) => xs.length - z'
 < xs.length - z) ([VV.one (V1.c (C.ptr 1 0 0)), VV.one (V1.c (C.str p)), VV.any, VV.any, i64 (0 : Int), i64 (0 : Int), i64 (whyI xs p z).fst, i64 (whyI xs p z).snd, VV.any, VV.any, i64 (↑z : Int), VV.one
 (V1.c (C.ptr 3 0 0)), VV.any, VV.any, VV.any, VV.any, VV.any, VV.any, VV.any, VV.any, VV.any, VV.any, VV.one (V1.c (C.slc 2 0 xs.length none)), i64 (↑xs.length : Int), i64 ((↑z : Int) + (1 : Int))] ++
 anys 30) [Atom.bag φ, Atom.cells 67 [C.slc 2 0 xs.length none], Atom.arr Kd.line xs, Atom.cells 71 [C.int .i64 (rd xs (↑z : Int).toNat (KK.dflt Kd.line)).fst, C.str (rd xs (↑z : Int).toNat (KK.dflt Kd.line)).snd.fst,
 C.fn (54 : FuncId) [(50, (rd xs (↑z : Int).toNat (KK.dflt Kd.line)).snd.snd)]]])))) (ite2 (decide ((rd xs (↑z : Int).toNat (KK.dflt Kd.line)).fst = (1 : Int))) (i64ok ((↑z : Int) + (1 : Int)) ∧ Enter 3
 (inv_why φ xs p) (fun (z' : Nat) => xs.length - z' < xs.length - z) ([VV.one (V1.c (C.ptr 1 0 0)), VV.one (V1.c (C.str p)), VV.any, VV.any, i64 (0 : Int), i64 (0 : Int), i64 (whyI xs p z).fst, i64 (whyI
 xs p z).snd, VV.any, VV.any, i64 (↑z : Int), VV.one (V1.c (C.ptr 3 0 0)), VV.any, VV.any, VV.any, VV.any, VV.any, VV.any, VV.any, VV.any, VV.any, VV.any, VV.one (V1.c (C.slc 2 0 xs.length none)), i64 (↑xs.length
 : Int), i64 ((↑z : Int) + (1 : Int))] ++ anys 30) [Atom.bag φ, Atom.cells 67 [C.slc 2 0 xs.length none], Atom.arr Kd.line xs, Atom.cells 71 [C.int .i64 (rd xs (↑z : Int).toNat (KK.dflt Kd.line)).fst, C.str
 (rd xs (↑z : Int).toNat (KK.dflt Kd.line)).snd.fst, C.fn (54 : FuncId) [(50, (rd xs (↑z : Int).toNat (KK.dflt Kd.line)).snd.snd)]]]) (((∃ (r : Rl), φ (rd xs (↑z : Int).toNat (KK.dflt Kd.line)).snd.snd
 = some (ruleI r.fst r.snd)) ∧ p.size ≤ 1000000000) ∧ Into (K := KK) 0 [] [0] [VV.one (V1.c (C.str p)), VV.one (V1.c (C.rp 50 0 (rd xs (↑z : Int).toNat (KK.dflt Kd.line)).snd.snd 0 0))] [Atom.bag φ, Atom.cells
 67 [C.slc 2 0 xs.length none], Atom.arr Kd.line xs, Atom.cells 71 [C.int .i64 (rd xs (↑z : Int).toNat (KK.dflt Kd.line)).fst, C.str (rd xs (↑z : Int).toNat (KK.dflt Kd.line)).snd.fst, C.fn (54 : FuncId)
 [(50, (rd xs (↑z : Int).toNat (KK.dflt Kd.line)).snd.snd)]]] [VV.one (V1.c (C.str p)), VV.one (V1.c (C.rp 50 0 (rd xs (↑z : Int).toNat (KK.dflt Kd.line)).snd.snd 0 0))] [Atom.bag φ] ∧ ∀ (y : Int × ByteArray),
 φ (rd xs (↑z : Int).toNat (KK.dflt Kd.line)).snd.snd = some (ruleI y.fst y.snd) → ite2 (sp y p) (i64ok ((↑z : Int) + (1 : Int)) ∧ i64ok ((↑z : Int) + (1 : Int)) ∧ Enter 3 (inv_why φ xs p) (fun (z' : Nat)
 => xs.length - z' < xs.length - z) ([VV.one (V1.c (C.ptr 1 0 0)), VV.one (V1.c (C.str p)), VV.any, VV.any, i64 (0 : Int), i64 (0 : Int), i64 (whyI xs p z).fst, i64 ((↑z : Int) + (1 : Int)), VV.any, VV.any,
 i64 (↑z : Int), VV.one (V1.c (C.ptr 3 0 0)), VV.any, VV.any, VV.any, VV.any, VV.any, VV.any, VV.any, VV.any, VV.any, VV.any, VV.one (V1.c (C.slc 2 0 xs.length none)), i64 (↑xs.length : Int), i64 ((↑z :
 Int) + (1 : Int))] ++ anys 30) [Atom.bag φ, Atom.cells 67 [C.slc 2 0 xs.length none], Atom.arr Kd.line xs, Atom.cells 71 [C.int .i64 (rd xs (↑z : Int).toNat (KK.dflt Kd.line)).fst, C.str (rd xs (↑z : Int).toNat
 (KK.dflt Kd.line)).snd.fst, C.fn (54 : FuncId) [(50, (rd xs (↑z : Int).toNat (KK.dflt Kd.line)).snd.snd)]]]) (i64ok ((↑z : Int) + (1 : Int)) ∧ Enter 3 (inv_why φ xs p) (fun (z' : Nat) => xs.length - z'
 < xs.length - z) ([VV.one (V1.c (C.ptr 1 0 0)), VV.one (V1.c (C.str p)), VV.any, VV.any, i64 (0 : Int), i64 (0 : Int), i64 (whyI xs p z).fst, i64 (whyI xs p z).snd, VV.any, VV.any, i64 (↑z : Int), VV.one
 (V1.c (C.ptr 3 0 0)), VV.any, VV.any, VV.any, VV.any, VV.any, VV.any, VV.any, VV.any, VV.any, VV.any, VV.one (V1.c (C.slc 2 0 xs.length none)), i64 (↑xs.length : Int), i64 ((↑z : Int) + (1 : Int))] ++
 anys 30) [Atom.bag φ, Atom.cells 67 [C.slc 2 0 xs.length none], Atom.arr Kd.line xs, Atom.cells 71 [C.int .i64 (rd xs (↑z : Int).toNat (KK.dflt Kd.line)).fst, C.str (rd xs (↑z : Int).toNat (KK.dflt Kd.line)).snd.fst,
 C.fn (54 : FuncId) [(50, (rd xs (↑z : Int).toNat (KK.dflt Kd.line)).snd.snd)]]])))) (EndsAs 3 (ct_why φ xs p) (VV.tup [V1.c (C.int .i64 (whyI xs p z).fst), V1.c (C.int .i64 (whyI xs p z).snd)]) [Atom.bag
 φ, Atom.cells 67 [C.slc 2 0 xs.length none], Atom.arr Kd.line xs])) (EndsAs 3 (ct_why φ xs p) (VV.tup [V1.c (C.int .i64 (0 : Int)), V1.c (C.int .i64 (0 : Int))]) [Atom.bag φ, Atom.cells 67 [C.slc 2 0 xs.length
 none], Atom.arr Kd.line xs, Atom.arr Kd.str (Hand.splitB p (64 : Int)).fst])) := by kernel_rfl
theorem vc_list (t : Tb) (φ : Bag KK) (xs : List Ln) : evFn (tab3 t) (ann_list φ xs) Tryd.f25 (ct_list φ xs) = ( Enter 3 (inv_list φ xs) (fun (x : Nat) => True) ([VV.one (V1.c (C.ptr 1 0 0)), VV.any, VV.one (V1.c C.nils), VV.one (V1.c C.nils), VV.any, VV.any, VV.one (V1.c (C.ptr 1 0 0)), VV.one (V1.c (C.ptr 1 0
 0)), VV.one (V1.c (C.ptr 1 0 0)), VV.one (V1.c (C.slc 2 0 xs.length none)), i64 (↑xs.length : Int), i64 (0 : Int)] ++ anys 10) [Atom.bag φ, Atom.cells 67 [C.slc 2 0 xs.length none], Atom.arr Kd.line xs]
 ∧ ∀ (z : Nat), z ≤ xs.length → ite2 (decide ((↑z : Int) < (↑xs.length : Int))) (((0 : Int) ≤ (↑z : Int) ∧ (↑z : Int) < (↑xs.length : Int)) ∧ (↑z : Int).toNat < xs.length ∧ True ∧ (↑z : Int).toNat < xs.length
 ∧ (List.take z (LL xs)).length = (List.take z (LL xs)).length ∧ (1 ≤ 1 ∧ True) ∧ ((List.take z (LL xs)).length + 1) * 24 ≤ 140737488355328 ∧ i64ok ((↑z : Int) + (1 : Int)) ∧ Enter 3 (inv_list φ xs) (fun
 (z' : Nat) => xs.length - z' < xs.length - z) ([VV.one (V1.c (C.ptr 1 0 0)), VV.any, VV.any, VV.one (V1.c (C.slc 6 0 ((List.take z (LL xs)).length + 1) none)), VV.any, VV.one (V1.c (C.ptr 4 0 0)), VV.any,
 VV.any, VV.any, VV.one (V1.c (C.slc 2 0 xs.length none)), i64 (↑xs.length : Int), i64 ((↑z : Int) + (1 : Int))] ++ anys 10) [Atom.bag φ, Atom.cells 67 [C.slc 2 0 xs.length none], Atom.arr Kd.line xs, Atom.gone,
 Atom.cells 71 [C.int .i64 (rd xs (↑z : Int).toNat (KK.dflt Kd.line)).fst, C.str (rd xs (↑z : Int).toNat (KK.dflt Kd.line)).snd.fst, C.fn (54 : FuncId) [(50, (rd xs (↑z : Int).toNat (KK.dflt Kd.line)).snd.snd)]],
 Atom.arr Kd.rule [((rd xs (↑z : Int).toNat (KK.dflt Kd.line)).fst, (rd xs (↑z : Int).toNat (KK.dflt Kd.line)).snd.fst)], Atom.arr Kd.rule (List.take z (LL xs) ++ [((rd xs (↑z : Int).toNat (KK.dflt Kd.line)).fst,
 (rd xs (↑z : Int).toNat (KK.dflt Kd.line)).snd.fst)])]) (EndsAs 3 (ct_list φ xs) (VV.one (V1.c (C.slc 3 0 (List.take z (LL xs)).length none))) [Atom.bag φ, Atom.cells 67 [C.slc 2 0 xs.length none], Atom.arr
 Kd.line xs, Atom.arr Kd.rule (List.take z (LL xs))])) := by kernel_rfl
theorem vc_text (t : Tb) (φ : Bag KK) (xs : List Ln) : evFn (tab3 t) (ann_text φ xs) Tryd.f23 (ct_text t φ xs) = ( Enter 3 (inv_text φ xs) (fun (x : Nat) => True) ([VV.one (V1.c (C.ptr 1 0 0)), VV.any, VV.one (V1.c (C.str (ByteArray.mk (#[])))), VV.one (V1.c C.nils), VV.any, VV.any, VV.one (V1.c (C.ptr 1 0 0)), VV.one
 (V1.c (C.ptr 1 0 0)), VV.one (V1.c (C.ptr 1 0 0)), VV.one (V1.c (C.slc 2 0 xs.length none)), i64 (↑xs.length : Int), i64 (0 : Int)] ++ anys 21) [Atom.bag φ, Atom.cells 67 [C.slc 2 0 xs.length none], Atom.arr
 Kd.line xs] ∧ ∀ (z : Nat), z ≤ xs.length → ite2 (decide ((↑z : Int) < (↑xs.length : Int))) (((0 : Int) ≤ (↑z : Int) ∧ (↑z : Int) < (↑xs.length : Int)) ∧ (↑z : Int).toNat < xs.length ∧ True ∧ (↑z : Int).toNat
 < xs.length ∧ boxAt φ 0 0 = some (C.ls 77 t.hb t.ho 3 3) ∧ i64ok ((rd xs (↑z : Int).toNat (KK.dflt Kd.line)).fst - (1 : Int)) ∧ ((0 : Int) ≤ (rd xs (↑z : Int).toNat (KK.dflt Kd.line)).fst - (1 : Int) ∧
 (rd xs (↑z : Int).toNat (KK.dflt Kd.line)).fst - (1 : Int) < (3 : Int)) ∧ ∃ (xs_1 : List (KK.α Kd.hd)), ∃ (ob : Obj), φ t.hb = some (BI.lay t.ho Kd.hd xs_1 ob) ∧ ((rd xs (↑z : Int).toNat (KK.dflt Kd.line)).fst
 - (1 : Int)).toNat < xs_1.length ∧ (rd xs_1 ((rd xs (↑z : Int).toNat (KK.dflt Kd.line)).fst - (1 : Int)).toNat (KK.dflt Kd.hd)).snd.size + (rd xs (↑z : Int).toNat (KK.dflt Kd.line)).snd.fst.size ≤ 9223372036854775807
 ∧ True ∧ True ∧ (lineTs xs z).length = (lineTs xs z).length ∧ (1 ≤ 1 ∧ True) ∧ ((lineTs xs z).length + 1) * 16 ≤ 140737488355328 ∧ True ∧ True ∧ i64ok ((↑z : Int) + (1 : Int)) ∧ Enter 3 (inv_text φ xs)
 (fun (z' : Nat) => xs.length - z' < xs.length - z) ([VV.one (V1.c (C.ptr 1 0 0)), VV.any, VV.any, VV.one (V1.c (C.slc 6 0 ((lineTs xs z).length + 1) none)), VV.any, VV.one (V1.c (C.ptr 4 0 0)), VV.any,
 VV.any, VV.any, VV.one (V1.c (C.slc 2 0 xs.length none)), i64 (↑xs.length : Int), i64 ((↑z : Int) + (1 : Int))] ++ anys 21) [Atom.bag φ, Atom.cells 67 [C.slc 2 0 xs.length none], Atom.arr Kd.line xs, Atom.gone,
 Atom.cells 71 [C.int .i64 (rd xs (↑z : Int).toNat (KK.dflt Kd.line)).fst, C.str (rd xs (↑z : Int).toNat (KK.dflt Kd.line)).snd.fst, C.fn (54 : FuncId) [(50, (rd xs (↑z : Int).toNat (KK.dflt Kd.line)).snd.snd)]],
 Atom.arr Kd.str [(rd xs_1 ((rd xs (↑z : Int).toNat (KK.dflt Kd.line)).fst - (1 : Int)).toNat (KK.dflt Kd.hd)).snd.append (rd xs (↑z : Int).toNat (KK.dflt Kd.line)).snd.fst], Atom.arr Kd.str (lineTs xs
 z ++ [(rd xs_1 ((rd xs (↑z : Int).toNat (KK.dflt Kd.line)).fst - (1 : Int)).toNat (KK.dflt Kd.hd)).snd.append (rd xs (↑z : Int).toNat (KK.dflt Kd.line)).snd.fst])]) (((lineTs xs z).length ≤ 140737488355328
 ∧ (Lib.join (List.map (fun (x : ByteArray) => x.data.toList) (lineTs xs z)) [(10 : UInt8)]).length ≤ 140737488355328) ∧ Into (K := KK) 0 [] [3] [VV.one (V1.c (C.slc 3 0 (lineTs xs z).length none)), VV.one
 (V1.c (C.str (ByteArray.mk (#[(10 : UInt8)]))))] [Atom.bag φ, Atom.cells 67 [C.slc 2 0 xs.length none], Atom.arr Kd.line xs, Atom.arr Kd.str (lineTs xs z)] [VV.one (V1.c (C.slc 0 0 (lineTs xs z).length
 none)), VV.one (V1.c (C.str (ByteArray.mk (#[(10 : UInt8)]))))] [Atom.ro Kd.str (lineTs xs z)] ∧ ∀ (y : Unit), True → EndsAs 3 (ct_text t φ xs) (VV.one (V1.c (C.str (ljoin (lineTs xs z) (ByteArray.mk (#[(10
 : UInt8)])))))) [Atom.bag φ, Atom.cells 67 [C.slc 2 0 xs.length none], Atom.arr Kd.line xs, Atom.arr Kd.str (lineTs xs z)])) := by kernel_rfl
theorem vc_sameR (l : List Rl) : evFn tab0 (ann_sameR l) Tryd.f24 (ct_sameR l) = ( ite2 (decide ((↑l.length : Int) = (↑l.length : Int))) (Enter 2 (inv_sameR l) (fun (x : Nat) => True) ([VV.one (V1.c (C.slc 0 0 l.length none)), VV.one (V1.c (C.slc 1 0 l.length none)), VV.any, VV.any,
 boolv false, i64 (0 : Int)] ++ anys 20) [Atom.ro Kd.rule l, Atom.ro Kd.rule l] ∧ ∀ (z : Nat), z ≤ l.length → ite2 (decide ((↑z : Int) < (↑l.length : Int))) (((0 : Int) ≤ (↑z : Int) ∧ (↑z : Int) < (↑l.length
 : Int)) ∧ (↑z : Int).toNat < l.length ∧ True ∧ (↑z : Int).toNat < l.length ∧ ((0 : Int) ≤ (↑z : Int) ∧ (↑z : Int) < (↑l.length : Int)) ∧ (↑z : Int).toNat < l.length ∧ True ∧ (↑z : Int).toNat < l.length
 ∧ ite2 (decide ((rd l (↑z : Int).toNat (KK.dflt Kd.rule)).fst = (rd l (↑z : Int).toNat (KK.dflt Kd.rule)).fst) && (decide ((rd l (↑z : Int).toNat (KK.dflt Kd.rule)).snd.data = (rd l (↑z : Int).toNat (KK.dflt
 Kd.rule)).snd.data) && true)) (True ∧ i64ok ((↑z : Int) + (1 : Int)) ∧ Enter 2 (inv_sameR l) (fun (z' : Nat) => l.length - z' < l.length - z) ([VV.one (V1.c (C.slc 0 0 l.length none)), VV.one (V1.c (C.slc
 1 0 l.length none)), VV.any, VV.any, VV.any, i64 ((↑z : Int) + (1 : Int))] ++ anys 20) [Atom.ro Kd.rule l, Atom.ro Kd.rule l]) (True ∧ EndsAs 2 (ct_sameR l) (boolv false) [Atom.ro Kd.rule l, Atom.ro Kd.rule
 l])) (EndsAs 2 (ct_sameR l) (boolv true) [Atom.ro Kd.rule l, Atom.ro Kd.rule l])) (EndsAs 2 (ct_sameR l) (boolv false) [Atom.ro Kd.rule l, Atom.ro Kd.rule l])) := by kernel_rfl
theorem whyL_app (p : ByteArray) (l : List Rl) (r : Rl) : ∀ (i : Nat) (a : Int × Int), whyL p i (l ++ [r]) a = whyStep p (i + l.length) r (whyL p i l a) := by
  induction l with
  | nil => intro i a; rfl
  | cons x t ih =>
    intro i a
    show whyL p (i + 1) (t ++ [r]) (whyStep p i x a) = _
    rw [ih]
    show whyStep p (i + 1 + t.length) r _ = whyStep p (i + (t.length + 1)) r (whyL p (i + 1) t (whyStep p i x a))
    rw [Nat.add_assoc i 1, Nat.add_comm 1]
theorem whyI_succ {xs : List Ln} {z : Nat} (p : ByteArray) (h : z < xs.length) : whyI xs p (z + 1) = whyStep p z (rl (rd (α := KK.α Kd.line) xs z (KK.dflt Kd.line))) (whyI xs p z) := by
  unfold whyI
  rw [LL_succ h, whyL_app]
  have e : ((LL xs).take z).length = z := by
    rw [List.length_take]
    unfold LL
    rw [List.length_map]
    omega
  rw [e, Nat.zero_add]
theorem why_ok (t : Tb) (φ : Bag KK) (xs : List Ln) (p : ByteArray) : CtOk Tryd.prog 15 (ct_why φ xs p) := CtOk_of KK_ok (tab3 t) (ann_why φ xs p) (fn := Tryd.f15) rfl (fun _ _ => rfl) fun hn => by
  obtain ⟨hg, hp, hlen⟩ := hn
  rw [vc_why]
  simp only [Int.toNat_natCast]
  have no : ∀ (u v : Int) (A : VH KK), (u, v) = whyB (LL xs) p → EndsAs 3 (ct_why φ xs p) (.tup [.c (.int .i64 u), .c (.int .i64 v)]) (.bag φ :: .cells 67 [.slc 2 0 xs.length none] :: .arr Kd.line xs :: A) := fun u v A hv => by
    have h1 : u = (whyB (LL xs) p).1 := by rw [← hv]
    have h2 : v = (whyB (LL xs) p).2 := by rw [← hv]
    subst h1 h2
    exact ⟨(), [], [0, 1, 2], trivial, by (repeat' first | exact trivial | exact rfl | apply And.intro)⟩
  refine ⟨hp, into_mk (by kernel_rfl) (by (repeat' first | exact trivial | exact rfl | apply And.intro)) (by (repeat' first | exact trivial | exact rfl | apply And.intro)), fun _ _ => ite2_decide (fun hsp => ?_) (fun hsp => no _ _ _ ?_)⟩
  · refine ⟨⟨(0 : Nat), [], [0, 1, 2], Nat.zero_le _, trivial, into_mk (by kernel_rfl) (by (repeat' first | exact trivial | exact rfl | apply And.intro)) (by (repeat' first | exact trivial | exact rfl | apply And.intro))⟩, ?_⟩
    intro i hi
    have hi : i ≤ xs.length := hi
    refine ite2_decide (fun hl => ?_) (fun hl => no _ _ _ ?_)
    · have hl1 : i < xs.length := by omega
      have hx := hg _ (rd_mem hl1)
      have hs := whyI_succ p hl1
      have go : ∀ (u v : Int) (fr : List VV) (A : VH KK), whyI xs p (i + 1) = (u, v) → ((whyI xs p (i + 1)).1 = u → (whyI xs p (i + 1)).2 = v → Into (K := KK) 3 [] [0, 1, 2] (fr) (.bag φ :: .cells 67 [.slc 2 0 xs.length none] :: .arr Kd.line xs :: A) ((inv_why φ xs p).fr (i + 1 : Nat)) ((inv_why φ xs p).H (i + 1 : Nat))) → i64ok ((i : Int) + 1) ∧ Enter 3 (inv_why φ xs p) (fun (z' : Nat) => xs.length - z' < xs.length - i) fr (.bag φ :: .cells 67 [.slc 2 0 xs.length none] :: .arr Kd.line xs :: A) := fun u v fr A he hI =>
        ⟨by unfold i64ok; omega, (i + 1 : Nat), [], [0, 1, 2], (show i + 1 ≤ xs.length by omega), (show xs.length - (i + 1) < xs.length - i by omega), hI (by rw [he]) (by rw [he])⟩
      have io : i64ok ((i : Int) + 1) := by unfold i64ok; omega
      have last : (∀ (h : ¬ ((whyI xs p i).1 = 0 ∧ skipsB (rl (rd (α := KK.α Kd.line) xs i (KK.dflt Kd.line))) p = true)), True) := fun _ => trivial
      have rest : ∀ (h : ¬ ((whyI xs p i).1 = 0 ∧ skipsB (rl (rd (α := KK.α Kd.line) xs i (KK.dflt Kd.line))) p = true)), ((rd (α := KK.α Kd.line) xs i (KK.dflt Kd.line)).1 = 1 → whyI xs p (i + 1) = ((whyI xs p i).1, (whyI xs p i).2)) ∧ (¬ (rd (α := KK.α Kd.line) xs i (KK.dflt Kd.line)).1 = 1 → (sp (rl (rd (α := KK.α Kd.line) xs i (KK.dflt Kd.line))) p = true → whyI xs p (i + 1) = ((whyI xs p i).1, (i : Int) + 1)) ∧ (sp (rl (rd (α := KK.α Kd.line) xs i (KK.dflt Kd.line))) p = false → whyI xs p (i + 1) = ((whyI xs p i).1, (whyI xs p i).2))) := fun h => by
        refine ⟨fun h1 => ?_, fun h1 => ⟨fun h2 => ?_, fun h2 => ?_⟩⟩
        · rw [hs]; unfold whyStep; rw [if_neg h, if_neg (fun e => e.1 h1)]
        · rw [hs]; unfold whyStep; rw [if_neg h, if_pos ⟨h1, h2⟩]
        · rw [hs]; unfold whyStep; rw [if_neg h, if_neg (fun e => by rw [h2] at e; cases e.2)]
      refine ⟨⟨by omega, hl⟩, hl1, trivial, hl1, ite2_decide (fun h1 => ?_) (fun h1 => ?_)⟩
      · refine ⟨⟨hx, hp⟩, into_mk (by kernel_rfl) (by (repeat' first | exact trivial | exact rfl | apply And.intro)) (by (repeat' first | exact trivial | exact rfl | apply And.intro)), fun _ _ => ite2_mk (fun h2 => ⟨io, go ((i : Int) + 1) (whyI xs p i).2 _ _ ?_ ?_⟩) (fun h2 => ?_)⟩
        · rw [hs]; unfold whyStep; rw [if_pos ⟨h1, h2⟩]
        · intro q1 q2; exact into_mk (by kernel_rfl) (by (repeat' first | exact trivial | exact rfl | exact q1 | exact q2 | exact q1.symm | exact q2.symm | apply And.intro)) (by (repeat' first | exact trivial | exact rfl | apply And.intro))
        · obtain ⟨r1, r2⟩ := rest (fun e => by
            have h2' : skipsB (rl (rd (α := KK.α Kd.line) xs i (KK.dflt Kd.line))) p = false := h2
            rw [h2'] at e; cases e.2)
          refine ite2_decide (fun hw => go _ _ _ _ (r1 hw) fun q1 q2 => into_mk (by kernel_rfl) (by (repeat' first | exact trivial | exact rfl | exact q1 | exact q2 | exact q1.symm | exact q2.symm | apply And.intro)) (by (repeat' first | exact trivial | exact rfl | apply And.intro))) (fun hw => ?_)
          refine ⟨⟨⟨rl (rd (α := KK.α Kd.line) xs i (KK.dflt Kd.line)), hx⟩, hp⟩, into_mk (by kernel_rfl) (by (repeat' first | exact trivial | exact rfl | apply And.intro)) (by (repeat' first | exact trivial | exact rfl | apply And.intro)), fun y hy => ?_⟩
          have hy := rule_inj hy hx
          refine ite2_mk (fun h => ⟨io, go _ _ _ _ ((r2 hw).1 (by rw [hy] at h; exact h)) fun q1 q2 => into_mk (by kernel_rfl) (by (repeat' first | exact trivial | exact rfl | exact q1 | exact q2 | exact q1.symm | exact q2.symm | apply And.intro)) (by (repeat' first | exact trivial | exact rfl | apply And.intro))⟩) (fun h => go _ _ _ _ ((r2 hw).2 (by rw [hy] at h; exact h)) fun q1 q2 => into_mk (by kernel_rfl) (by (repeat' first | exact trivial | exact rfl | exact q1 | exact q2 | exact q1.symm | exact q2.symm | apply And.intro)) (by (repeat' first | exact trivial | exact rfl | apply And.intro)))
      · obtain ⟨r1, r2⟩ := rest (fun e => h1 e.1)
        refine ite2_decide (fun hw => go _ _ _ _ (r1 hw) fun q1 q2 => into_mk (by kernel_rfl) (by (repeat' first | exact trivial | exact rfl | exact q1 | exact q2 | exact q1.symm | exact q2.symm | apply And.intro)) (by (repeat' first | exact trivial | exact rfl | apply And.intro))) (fun hw => ?_)
        refine ⟨⟨⟨rl (rd (α := KK.α Kd.line) xs i (KK.dflt Kd.line)), hx⟩, hp⟩, into_mk (by kernel_rfl) (by (repeat' first | exact trivial | exact rfl | apply And.intro)) (by (repeat' first | exact trivial | exact rfl | apply And.intro)), fun y hy => ?_⟩
        have hy := rule_inj hy hx
        refine ite2_mk (fun h => ⟨io, go _ _ _ _ ((r2 hw).1 (by rw [hy] at h; exact h)) fun q1 q2 => into_mk (by kernel_rfl) (by (repeat' first | exact trivial | exact rfl | exact q1 | exact q2 | exact q1.symm | exact q2.symm | apply And.intro)) (by (repeat' first | exact trivial | exact rfl | apply And.intro))⟩) (fun h => go _ _ _ _ ((r2 hw).2 (by rw [hy] at h; exact h)) fun q1 q2 => into_mk (by kernel_rfl) (by (repeat' first | exact trivial | exact rfl | exact q1 | exact q2 | exact q1.symm | exact q2.symm | apply And.intro)) (by (repeat' first | exact trivial | exact rfl | apply And.intro)))
    · unfold whyB whyI
      rw [if_pos hsp, List.take_of_length_le (by unfold LL; rw [List.length_map]; omega)]
  · unfold whyB; rw [if_neg hsp]
theorem LL_len (xs : List Ln) : (LL xs).length = xs.length := by unfold LL; rw [List.length_map]
theorem list_ok (t : Tb) (φ : Bag KK) (xs : List Ln) : CtOk Tryd.prog 25 (ct_list φ xs) := CtOk_of KK_ok (tab3 t) (ann_list φ xs) (fn := Tryd.f25) rfl (fun _ _ => rfl) fun hn => by
  have hn : xs.length ≤ 1000 := hn
  rw [vc_list]
  simp only [Int.toNat_natCast]
  refine ⟨⟨(0 : Nat), [.rule], [0, 1, 2, 3], Nat.zero_le _, trivial, into_mk (by kernel_rfl) (by (repeat' first | exact trivial | exact rfl | apply And.intro)) (by (repeat' first | exact trivial | exact rfl | apply And.intro))⟩, ?_⟩
  intro i hi
  have hi : i ≤ xs.length := hi
  have hll : ((LL xs).take i).length = i := by rw [List.length_take, LL_len]; omega
  refine ite2_decide (fun hl => ?_) (fun hl => ?_)
  · have hl1 : i < xs.length := by omega
    have hq1 : ((LL xs).take i).length + 1 = ((LL xs).take (i + 1)).length := by rw [LL_succ hl1]; simp
    have hq2 := (LL_succ hl1).symm
    refine ⟨⟨by omega, hl⟩, hl1, trivial, hl1, trivial, ⟨Nat.le_refl _, trivial⟩, by rw [hll]; omega, by unfold i64ok; omega, (i + 1 : Nat), [], [0, 1, 2, 6], (show i + 1 ≤ xs.length by omega), (show xs.length - (i + 1) < xs.length - i by omega), into_mk (by kernel_rfl) (by (repeat' first | exact trivial | exact rfl | exact hq1 | exact hq2 | apply And.intro)) (by (repeat' first | exact trivial | exact rfl | exact hq1 | exact hq2 | apply And.intro))⟩
  · have hq1 : ((LL xs).take i).length = (LL xs).length := by rw [hll, LL_len]; omega
    have hq2 : (LL xs).take i = LL xs := List.take_of_length_le (by rw [LL_len]; omega)
    exact ⟨(), [], [0, 1, 2, 3], trivial, by (repeat' first | exact trivial | exact rfl | exact hq1 | exact hq2 | apply And.intro)⟩
theorem lineTs_succ {xs : List Ln} {z : Nat} (h : z < xs.length) : lineTs xs (z + 1) = lineTs xs z ++ [lineT (rl (rd (α := KK.α Kd.line) xs z (KK.dflt Kd.line)))] := by
  unfold lineTs
  rw [LL_succ h, List.map_append]
  rfl
theorem app_tx (a b : ByteArray) : a.append b = tx (a.data.toList ++ b.data.toList) := by
  apply ByteArray.ext
  apply Array.ext'
  have e : (a.append b).data = a.data ++ b.data := ByteArray.data_append
  rw [e]
  simp [tx]
theorem lsum_mem {l : List Rl} {r : Rl} (h : r ∈ l) : (lineL r).length + 1 ≤ lsum l := by
  induction l with
  | nil => simp at h
  | cons x t ih =>
    have e : lsum (x :: t) = (lineL x).length + 1 + lsum t := by unfold lsum; simp
    rcases List.mem_cons.1 h with rfl | h
    · omega
    · have := ih h; omega
theorem text_join (l : List Rl) : ljoin (l.map lineT) nl = textB l := by
  unfold ljoin textB
  rw [List.map_map]
  have e : ((fun x : ByteArray => x.data.toList) ∘ lineT) = lineL := by
    funext r
    show (tx (lineL r)).data.toList = lineL r
    exact tx_list _
  rw [e]
  rfl
theorem text_ok (t : Tb) (φ : Bag KK) (xs : List Ln) : CtOk Tryd.prog 23 (ct_text t φ xs) := CtOk_of KK_ok (tab3 t) (ann_text φ xs) (fn := Tryd.f23) rfl (fun _ _ => rfl) fun hn => by
  obtain ⟨⟨ht0, ht1, ht2⟩, hw, hn, hsum⟩ := hn
  rw [vc_text]
  simp only [Int.toNat_natCast]
  refine ⟨⟨(0 : Nat), [.str], [0, 1, 2, 3], Nat.zero_le _, trivial, into_mk (by kernel_rfl) (by (repeat' first | exact trivial | exact rfl | apply And.intro)) (by (repeat' first | exact trivial | exact rfl | apply And.intro))⟩, ?_⟩
  intro i hi
  have hi : i ≤ xs.length := hi
  have hll : (lineTs xs i).length = i := by unfold lineTs; rw [List.length_map, List.length_take, LL_len]; omega
  refine ite2_decide (fun hl => ?_) (fun hl => ?_)
  · have hl1 : i < xs.length := by omega
    have hm := rd_mem hl1
    obtain ⟨w1, w2⟩ := hw _ hm
    have hk : ((rd (α := KK.α Kd.line) xs i (KK.dflt Kd.line)).1 - 1).toNat < 3 := by omega
    have he : rd (α := KK.α Kd.hd) headsL ((rd (α := KK.α Kd.line) xs i (KK.dflt Kd.line)).1 - 1).toNat (KK.dflt Kd.hd) = ((((rd (α := KK.α Kd.line) xs i (KK.dflt Kd.line)).1 - 1).toNat : Int) + 1, ⟨(R.hd ((((rd (α := KK.α Kd.line) xs i (KK.dflt Kd.line)).1 - 1).toNat : Int) + 1)).toArray⟩) := heads_at _ hk
    have ek : (((rd (α := KK.α Kd.line) xs i (KK.dflt Kd.line)).1 - 1).toNat : Int) + 1 = (rd (α := KK.α Kd.line) xs i (KK.dflt Kd.line)).1 := by omega
    rw [ek] at he
    have hrl : rl (rd (α := KK.α Kd.line) xs i (KK.dflt Kd.line)) ∈ LL xs := List.mem_map_of_mem hm
    have hsz := lsum_mem hrl
    have hsz2 : (lineL (rl (rd (α := KK.α Kd.line) xs i (KK.dflt Kd.line)))).length = (R.hd (rd (α := KK.α Kd.line) xs i (KK.dflt Kd.line)).1).length + (rd (α := KK.α Kd.line) xs i (KK.dflt Kd.line)).2.1.size := by
      unfold lineL
      rw [List.length_append]
      simp [rl]
    have hq1 : (lineTs xs i).length + 1 = (lineTs xs (i + 1)).length := by rw [lineTs_succ hl1]; simp
    have hq2 : lineTs xs i ++ [(rd (α := KK.α Kd.hd) headsL ((rd (α := KK.α Kd.line) xs i (KK.dflt Kd.line)).1 - 1).toNat (KK.dflt Kd.hd)).2.append (rd (α := KK.α Kd.line) xs i (KK.dflt Kd.line)).2.1] = lineTs xs (i + 1) := by
      rw [lineTs_succ hl1, he, app_tx]
      rfl
    have hsz3 : (rd (α := KK.α Kd.hd) headsL ((rd (α := KK.α Kd.line) xs i (KK.dflt Kd.line)).1 - 1).toNat (KK.dflt Kd.hd)).2.size = (R.hd (rd (α := KK.α Kd.line) xs i (KK.dflt Kd.line)).1).length := by
      rw [he]; rfl
    have hsz4 : (rd (α := KK.α Kd.hd) headsL ((rd (α := KK.α Kd.line) xs i (KK.dflt Kd.line)).1 - 1).toNat (KK.dflt Kd.hd)).2.size + (rd (α := KK.α Kd.line) xs i (KK.dflt Kd.line)).2.1.size ≤ 9223372036854775807 := by rw [hsz3]; omega
    have bnd : ∀ v : Int, v = (rd (α := KK.α Kd.line) xs i (KK.dflt Kd.line)).1 → i64ok (v - 1) ∧ (0 ≤ v - 1 ∧ v - 1 < 3) := fun v hv => by
      unfold i64ok
      omega
    refine ⟨⟨by omega, hl⟩, hl1, trivial, hl1, boxAt_tab ht0, (bnd _ rfl).1, (bnd _ rfl).2, headsL, t.ob, ht2, hk, hsz4, trivial, trivial, trivial, ⟨Nat.le_refl _, trivial⟩, by rw [hll]; omega, trivial, trivial, by unfold i64ok; omega, (i + 1 : Nat), [], [0, 1, 2, 6], (show i + 1 ≤ xs.length by omega), (show xs.length - (i + 1) < xs.length - i by omega), into_mk (by kernel_rfl) (by (repeat' first | exact trivial | exact rfl | exact hq1 | exact hq2 | apply And.intro)) (by (repeat' first | exact trivial | exact rfl | exact hq1 | exact hq2 | apply And.intro))⟩
  · have e1 : lineTs xs i = (LL xs).map lineT := by
      unfold lineTs
      rw [List.take_of_length_le (by rw [LL_len]; omega)]
    have hq1 : ljoin (lineTs xs i) (ByteArray.mk #[10]) = textB (LL xs) := by rw [e1]; exact text_join _
    have h3 : (Lib.join ((lineTs xs i).map fun x => x.data.toList) [10]).length = (textB (LL xs)).size := by
      rw [← hq1]; simp [ljoin, ByteArray.size]
    have h4 := text_size (LL xs)
    refine ⟨⟨by omega, by have h5 := h3; omega⟩, into_mk (by kernel_rfl) (by (repeat' first | exact trivial | exact rfl | apply And.intro)) (by (repeat' first | exact trivial | exact rfl | apply And.intro)), fun _ _ => ?_⟩
    exact ⟨(), [], [0, 1, 2], trivial, by (repeat' first | exact trivial | exact rfl | exact hq1 | apply And.intro)⟩
theorem sameR_ok (l : List Rl) : CtOk Tryd.prog 24 (ct_sameR l) := CtOk_of KK_ok tab0 (ann_sameR l) (fn := Tryd.f24) rfl (fun _ _ => rfl) fun hn => by
  have hn : l.length ≤ 1000000 := hn
  rw [vc_sameR]
  simp only [Int.toNat_natCast]
  refine ite2_decide (fun _ => ⟨⟨(0 : Nat), [], [0, 1], Nat.zero_le _, trivial, into_mk (by kernel_rfl) (by (repeat' first | exact trivial | exact rfl | apply And.intro)) (by (repeat' first | exact trivial | exact rfl | apply And.intro))⟩, fun i hi => ?_⟩) (fun h => absurd trivial h)
  have hi : i ≤ l.length := hi
  refine ite2_decide (fun hl => ?_) (fun hl => ⟨(), [], [0, 1], trivial, by (repeat' first | exact trivial | exact rfl | apply And.intro)⟩)
  have hl1 : i < l.length := by omega
  refine ⟨⟨by omega, hl⟩, hl1, trivial, hl1, ⟨by omega, hl⟩, hl1, trivial, hl1, ite2_mk (fun _ => ⟨trivial, by unfold i64ok; omega, (i + 1 : Nat), [], [0, 1], (show i + 1 ≤ l.length by omega), (show l.length - (i + 1) < l.length - i by omega), into_mk (by kernel_rfl) (by (repeat' first | exact trivial | exact rfl | apply And.intro)) (by (repeat' first | exact trivial | exact rfl | apply And.intro))⟩) (fun h => ?_)⟩
  simp at h
end Go.Proofs.YtoidibkcdkdneaaDoor.T
end
section
namespace Go.Proofs.YtoidibkcdkdneaaDoor.T
open Go.Proofs.YtoidibkcdkdneaaDoor.E Go.Proofs.YtoidibkcdkdneaaDoor.MStr Go.Proofs.YtoidibkcdkdneaaDoor.R
set_option maxRecDepth 100000
set_option linter.unusedVariables false
/-- The rules that stand at a name: their lines, what is to be laid besides, the lines' name. -/
def getR (q : Nat) (H : VH KK) : Option (List Ln × List Kd × Nat) := match at_ H q with
  | .cells _ [.slc a _ _ _] => match at_ H a with
    | .arr .line xs => some (xs, [], a)
    | _ => none
  | .cells _ [.nils] => some ([], [.line], H.length)
  | _ => none
def isGood : PR → Bool | .good _ => true | .bad _ _ => false
def badOf : PR → Int × Int | .good _ => (0, 0) | .bad k e => (k, e)
def goodOf : PR → List Rl | .good l => l | .bad _ _ => []
def ct_parse (s : ByteArray) (t : Tb) (φ : Bag KK) (g : Bool) : Ct KK := { need := s.size ≤ 1000000 ∧ HasT t φ ∧ isGood (parseB s) = g, pre := [.bag φ], args := [strv s], Y := Bag KK × List Ln, ok := fun y => Ext φ y.1 ∧ (g = true → GoodL y.1 y.2 ∧ LL y.2 = goodOf (parseB s)), ret := fun y => match g with | true => .tup [.c (.ptr 1 0 0), .c (.int .i64 0), .c (.int .i64 0)] | false => .tup [.c .nilp, .c (.int .i64 (badOf (parseB s)).1), .c (.int .i64 (badOf (parseB s)).2)], post := fun y => match g with | true => [.bag y.1, .cells 67 [.slc 2 0 y.2.length none], .arr .line y.2] | false => [.bag y.1] }
def parseOk (s : ByteArray) (φ : Bag KK) (i : Nat) (ψ : Bag KK) (ys : List Ln) : Prop := i ≤ (linesB s).length ∧ Ext φ ψ ∧ GoodL ψ ys ∧ ys.length ≤ 64 ∧ parseL i (LL ys) ((linesB s).drop i) = parseB s
def inv_parse (s : ByteArray) (φ : Bag KK) : Inv KK := { X := Nat × Bag KK × List Ln, fr := fun z => [strv s, .any, .c .nilp, i64 0, i64 0, .c (.ptr 1 0 0), .any, .any, .any, .any, .any, .any, .any, .any, .any, .any, .any, .c (.slc 3 0 (linesB s).length none), i64 (linesB s).length, i64 z.1] ++ anys 51, H := fun z => [.bag z.2.1, .cells 67 [.slc 2 0 z.2.2.length none], .arr .line z.2.2, .arr .str (linesB s)], ok := fun z => parseOk s φ z.1 z.2.1 z.2.2, meas := fun z => (linesB s).length - z.1 }
def ann_parse (s : ByteArray) (φ : Bag KK) : Ann KK := { loop := fun _ _ _ => some (inv_parse s φ), cut := fun _ _ _ => none, keep := some 20 }
def ct_mirror (φ : Bag KK) (xs : List Ln) : Ct KK := { need := xs.length ≤ 1000, pre := rulesH φ xs, args := [.c (.ptr 1 0 0)], Y := Bag KK × List Ln, ok := fun y => Ext φ y.1 ∧ GoodL y.1 y.2 ∧ LL y.2 = mirB (LL xs), ret := fun _ => .c (.ptr 3 0 0), post := fun y => [.bag y.1, .cells 67 [.slc 2 0 xs.length none], .arr .line xs, .cells 67 [.slc 4 0 y.2.length none], .arr .line y.2] }
def mirOk (φ : Bag KK) (xs : List Ln) (i : Nat) (ψ : Bag KK) (ys : List Ln) : Prop := i ≤ (LL xs).length ∧ Ext φ ψ ∧ GoodL ψ ys ∧ LL ys = mirB ((LL xs).take i)
def mirH (ψ : Bag KK) (xs ys : List Ln) : VH KK := [.bag ψ, .cells 67 [.slc 2 0 xs.length none], .arr .line xs, .cells 67 [.slc 4 0 ys.length none], .arr .line ys, .arr .rule (LL xs)]
def inv_mirror (φ : Bag KK) (xs : List Ln) : Inv KK := { X := Nat × Bag KK × List Ln, fr := fun z => [.c (.ptr 1 0 0), .any, .any, .c (.ptr 3 0 0), .any, .any, .any, .any, .c (.slc 5 0 (LL xs).length none), i64 (LL xs).length, i64 z.1] ++ anys 24, H := fun z => mirH z.2.1 xs z.2.2, ok := fun z => mirOk φ xs z.1 z.2.1 z.2.2, meas := fun z => (LL xs).length - z.1 }
def ann_mirror (φ : Bag KK) (xs : List Ln) : Ann KK := { loop := fun _ _ _ => some (inv_mirror φ xs), cut := fun id fr H => none, keep := some 11 }
def tab4 (t : Tb) : Tab Tryd.prog KK := ⟨base t, fun f args H => match f, args, at_ H 0 with
  | 13, [], _ => some (ct_none, [], [])
  | 36, [.one (.agg [.int _ w, .str q])], .bag φ => some (ct_line w q φ, [], [0])
  | 25, [.one (.c (.ptr q _ _))], .bag φ => match getR q H with
    | some (xs, ks, a) => some (ct_list φ xs, ks, [0, q, a])
    | none => none
  | 33, [.one (.c (.str s)), _], .bag φ => some (ct_ssplit s t φ, [], [0])
  | 34, [.one (.c (.str s))], .bag φ => some (ct_read s t φ, [], [0])
  | 35, [.one (.c (.str s)), .one (.c (.str p))], _ => some (ct_match s p, [], [])
  | _, _, _ => none, fun f args H ct ks τ h => by
    split at h
    · cases h; exact none_ok
    · cases h; exact line_ok _ _ _
    · split at h
      · cases h; exact list_ok t _ _
      · cases h
    · cases h; exact ssplit_ok _ _ _
    · cases h; exact read_ok _ _ _
    · cases h; exact match_ok _ _
    · cases h⟩
theorem vc_parse (s : ByteArray) (t : Tb) (φ : Bag KK) (g : Bool) : evFn (tab4 t) (ann_parse s φ) Tryd.f12 (ct_parse s t φ g) = ( ite2 (decide ((4000 : Int) < (↑s.size : Int))) (EndsAs 1 (ct_parse s t φ g) (VV.tup [V1.c C.nilp, V1.c (C.int .i64 (0 : Int)), V1.c (C.int .i64 (110 : Int))]) [Atom.bag φ]) (True ∧ Into (K := KK) 0 []
 [] [] [Atom.bag φ] [] [] ∧ ∀ (y : Unit), True → (s.size ≤ 1000000000 ∧ HasT t φ) ∧ Into (K := KK) 0 [] [0] [VV.one (V1.c (C.str s)), VV.one (V1.c (C.str (ByteArray.mk (#[(10 : UInt8)]))))] [Atom.bag φ,
 Atom.cells 67 [C.nils]] [VV.one (V1.c (C.str s)), VV.one (V1.c (C.str (ByteArray.mk (#[(10 : UInt8)]))))] [Atom.bag φ] ∧ ∀ (y : Unit), True → Enter 1 (inv_parse s φ) (fun (x : Nat × Bag KK × List Ln) =>
 True) ([VV.one (V1.c (C.str s)), VV.any, VV.one (V1.c C.nilp), i64 (0 : Int), i64 (0 : Int), VV.one (V1.c (C.ptr 1 0 0)), VV.any, VV.any, VV.any, VV.any, VV.any, VV.any, VV.one (V1.c (C.str s)), i64 (↑s.size
 : Int), boolv false, VV.one (V1.c (C.ptr 1 0 0)), VV.one (V1.c (C.str s)), VV.one (V1.c (C.slc 2 0 (linesB s).length none)), i64 (↑(linesB s).length : Int), i64 (0 : Int)] ++ anys 51) [Atom.bag φ, Atom.cells
 67 [C.nils], Atom.arr Kd.str (linesB s)] ∧ ∀ (z : Nat × Bag KK × List Ln), parseOk s φ z.fst z.snd.fst z.snd.snd → ite2 (decide ((↑z.fst : Int) < (↑(linesB s).length : Int))) (((0 : Int) ≤ (↑z.fst : Int)
 ∧ (↑z.fst : Int) < (↑(linesB s).length : Int)) ∧ (↑z.fst : Int).toNat < (linesB s).length ∧ True ∧ (↑z.fst : Int).toNat < (linesB s).length ∧ ite2 (decide (ByteArray.toList (rd (linesB s) (↑z.fst : Int).toNat
 (ByteArray.mk (#[]))) = (ByteArray.mk (#[])).toList)) (i64ok ((↑z.fst : Int) + (1 : Int)) ∧ Enter 1 (inv_parse s φ) (fun (z' : Nat × Bag KK × List Ln) => (linesB s).length - z'.fst < (linesB s).length
 - z.fst) ([VV.one (V1.c (C.str s)), VV.any, VV.one (V1.c C.nilp), i64 (0 : Int), i64 (0 : Int), VV.one (V1.c (C.ptr 1 0 0)), i64 (↑z.fst : Int), VV.one (V1.c (C.str (rd (linesB s) (↑z.fst : Int).toNat
 (ByteArray.mk (#[]))))), VV.any, VV.any, VV.any, VV.any, VV.any, VV.any, VV.any, VV.any, VV.any, VV.one (V1.c (C.slc 3 0 (linesB s).length none)), i64 (↑(linesB s).length : Int), i64 ((↑z.fst : Int) +
 (1 : Int))] ++ anys 51) [Atom.bag z.snd.fst, Atom.cells 67 [C.slc 2 0 z.snd.snd.length none], Atom.arr Kd.line z.snd.snd, Atom.arr Kd.str (linesB s)]) (((0 : Int) ≤ (0 : Int) ∧ (0 : Int) < (↑(ByteArray.size
 (rd (linesB s) (↑z.fst : Int).toNat (ByteArray.mk (#[])))) : Int)) ∧ ite2 (decide (bt (rd (linesB s) (↑z.fst : Int).toNat (ByteArray.mk (#[]))) 0 = (35 : Int))) (i64ok ((↑z.fst : Int) + (1 : Int)) ∧ Enter
 1 (inv_parse s φ) (fun (z' : Nat × Bag KK × List Ln) => (linesB s).length - z'.fst < (linesB s).length - z.fst) ([VV.one (V1.c (C.str s)), VV.any, VV.one (V1.c C.nilp), i64 (0 : Int), i64 (0 : Int), VV.one
 (V1.c (C.ptr 1 0 0)), i64 (↑z.fst : Int), VV.one (V1.c (C.str (rd (linesB s) (↑z.fst : Int).toNat (ByteArray.mk (#[]))))), VV.any, VV.any, VV.any, VV.any, VV.any, VV.any, VV.any, VV.any, VV.any, VV.one
 (V1.c (C.slc 3 0 (linesB s).length none)), i64 (↑(linesB s).length : Int), i64 ((↑z.fst : Int) + (1 : Int))] ++ anys 51) [Atom.bag z.snd.fst, Atom.cells 67 [C.slc 2 0 z.snd.snd.length none], Atom.arr Kd.line
 z.snd.snd, Atom.arr Kd.str (linesB s)]) (HasT t z.snd.fst ∧ Into (K := KK) 0 [] [0] [VV.one (V1.c (C.str (rd (linesB s) (↑z.fst : Int).toNat (ByteArray.mk (#[])))))] [Atom.bag z.snd.fst, Atom.cells 67
 [C.slc 2 0 z.snd.snd.length none], Atom.arr Kd.line z.snd.snd, Atom.arr Kd.str (linesB s)] [VV.one (V1.c (C.str (rd (linesB s) (↑z.fst : Int).toNat (ByteArray.mk (#[])))))] [Atom.bag z.snd.fst] ∧ ∀ (y
 : Unit), True → ite2 (readR (rd (linesB s) (↑z.fst : Int).toNat (ByteArray.mk (#[])))).snd.snd (ite2 (decide ((↑z.snd.snd.length : Int) = (64 : Int))) (i64ok ((↑z.fst : Int) + (1 : Int)) ∧ EndsAs 1 (ct_parse
 s t φ g) (VV.tup [V1.c C.nilp, V1.c (C.int .i64 ((↑z.fst : Int) + (1 : Int))), V1.c (C.int .i64 (111 : Int))]) [Atom.bag z.snd.fst, Atom.cells 67 [C.slc 2 0 z.snd.snd.length none], Atom.arr Kd.line z.snd.snd,
 Atom.arr Kd.str (linesB s), Atom.cells 50 [C.int .i64 (readR (rd (linesB s) (↑z.fst : Int).toNat (ByteArray.mk (#[])))).fst, C.str (readR (rd (linesB s) (↑z.fst : Int).toNat (ByteArray.mk (#[])))).snd.fst]])
 (0 ≤ 1000000000 ∧ Into (K := KK) 0 [] [] [VV.one (V1.c (C.str (readR (rd (linesB s) (↑z.fst : Int).toNat (ByteArray.mk (#[])))).snd.fst)), VV.one (V1.c (C.str (ByteArray.mk (#[]))))] [Atom.bag z.snd.fst,
 Atom.cells 67 [C.slc 2 0 z.snd.snd.length none], Atom.arr Kd.line z.snd.snd, Atom.arr Kd.str (linesB s), Atom.cells 50 [C.int .i64 (readR (rd (linesB s) (↑z.fst : Int).toNat (ByteArray.mk (#[])))).fst,
 C.str (readR (rd (linesB s) (↑z.fst : Int).toNat (ByteArray.mk (#[])))).snd.fst]] [VV.one (V1.c (C.str (readR (rd (linesB s) (↑z.fst : Int).toNat (ByteArray.mk (#[])))).snd.fst)), VV.one (V1.c (C.str (ByteArray.mk
 (#[]))))] [] ∧ ∀ (y : Unit), True → ite2 (decide ((Hand.matchB (readR (rd (linesB s) (↑z.fst : Int).toNat (ByteArray.mk (#[])))).snd.fst (ByteArray.mk (#[]))).snd = (0 : Int))) (True ∧ True ∧ Into (K :=
 KK) 0 [] [0] [VV.one (V1.agg [C.int .i64 (readR (rd (linesB s) (↑z.fst : Int).toNat (ByteArray.mk (#[])))).fst, C.str (readR (rd (linesB s) (↑z.fst : Int).toNat (ByteArray.mk (#[])))).snd.fst])] [Atom.bag
 z.snd.fst, Atom.cells 67 [C.slc 2 0 z.snd.snd.length none], Atom.arr Kd.line z.snd.snd, Atom.arr Kd.str (linesB s), Atom.cells 50 [C.int .i64 (readR (rd (linesB s) (↑z.fst : Int).toNat (ByteArray.mk (#[])))).fst,
 C.str (readR (rd (linesB s) (↑z.fst : Int).toNat (ByteArray.mk (#[])))).snd.fst]] [VV.one (V1.agg [C.int .i64 (readR (rd (linesB s) (↑z.fst : Int).toNat (ByteArray.mk (#[])))).fst, C.str (readR (rd (linesB
 s) (↑z.fst : Int).toNat (ByteArray.mk (#[])))).snd.fst])] [Atom.bag z.snd.fst] ∧ ∀ (y : Nat), z.snd.fst y = none → (VV.one (V1.c (C.slc 2 0 z.snd.snd.length none)) = VV.one (V1.c (C.slc 2 0 z.snd.snd.length
 none)) ∧ True) ∧ (VV.one (V1.c (C.slc 2 0 z.snd.snd.length none)) = VV.one (V1.c (C.slc 2 0 z.snd.snd.length none)) ∧ True) ∧ z.snd.snd.length = z.snd.snd.length ∧ (1 ≤ 1 ∧ True) ∧ (z.snd.snd.length +
 1) * 32 ≤ 140737488355328 ∧ True ∧ True ∧ i64ok ((↑z.fst : Int) + (1 : Int)) ∧ Enter 1 (inv_parse s φ) (fun (z' : Nat × Bag KK × List Ln) => (linesB s).length - z'.fst < (linesB s).length - z.fst) ([VV.one
 (V1.c (C.str s)), VV.any, VV.one (V1.c C.nilp), i64 (0 : Int), i64 (0 : Int), VV.one (V1.c (C.ptr 1 0 0)), i64 (↑z.fst : Int), VV.one (V1.c (C.str (rd (linesB s) (↑z.fst : Int).toNat (ByteArray.mk (#[]))))),
 VV.one (V1.c (C.ptr 4 0 0)), VV.one (V1.c (C.bool (readR (rd (linesB s) (↑z.fst : Int).toNat (ByteArray.mk (#[])))).snd.snd)), VV.one (V1.c (C.bool (Hand.matchB (readR (rd (linesB s) (↑z.fst : Int).toNat
 (ByteArray.mk (#[])))).snd.fst (ByteArray.mk (#[]))).fst)), VV.one (V1.c (C.int .i64 (Hand.matchB (readR (rd (linesB s) (↑z.fst : Int).toNat (ByteArray.mk (#[])))).snd.fst (ByteArray.mk (#[]))).snd)),
 VV.any, VV.any, VV.any, VV.any, VV.any, VV.one (V1.c (C.slc 3 0 (linesB s).length none)), i64 (↑(linesB s).length : Int), i64 ((↑z.fst : Int) + (1 : Int))] ++ anys 51) [Atom.bag (bput z.snd.fst y (ruleI
 (readR (rd (linesB s) (↑z.fst : Int).toNat (ByteArray.mk (#[])))).fst (readR (rd (linesB s) (↑z.fst : Int).toNat (ByteArray.mk (#[])))).snd.fst)), Atom.cells 67 [C.slc 6 0 (z.snd.snd.length + 1) none],
 Atom.gone, Atom.arr Kd.str (linesB s), Atom.cells 50 [C.int .i64 (readR (rd (linesB s) (↑z.fst : Int).toNat (ByteArray.mk (#[])))).fst, C.str (readR (rd (linesB s) (↑z.fst : Int).toNat (ByteArray.mk (#[])))).snd.fst],
 Atom.arr Kd.line [((readR (rd (linesB s) (↑z.fst : Int).toNat (ByteArray.mk (#[])))).fst, (readR (rd (linesB s) (↑z.fst : Int).toNat (ByteArray.mk (#[])))).snd.fst, y)], Atom.arr Kd.line (z.snd.snd ++
 [((readR (rd (linesB s) (↑z.fst : Int).toNat (ByteArray.mk (#[])))).fst, (readR (rd (linesB s) (↑z.fst : Int).toNat (ByteArray.mk (#[])))).snd.fst, y)])]) (i64ok ((↑z.fst : Int) + (1 : Int)) ∧ EndsAs 1
 (ct_parse s t φ g) (VV.tup [V1.c C.nilp, V1.c (C.int .i64 ((↑z.fst : Int) + (1 : Int))), V1.c (C.int .i64 (113 : Int))]) [Atom.bag z.snd.fst, Atom.cells 67 [C.slc 2 0 z.snd.snd.length none], Atom.arr Kd.line
 z.snd.snd, Atom.arr Kd.str (linesB s), Atom.cells 50 [C.int .i64 (readR (rd (linesB s) (↑z.fst : Int).toNat (ByteArray.mk (#[])))).fst, C.str (readR (rd (linesB s) (↑z.fst : Int).toNat (ByteArray.mk (#[])))).snd.fst]])))
 (i64ok ((↑z.fst : Int) + (1 : Int)) ∧ EndsAs 1 (ct_parse s t φ g) (VV.tup [V1.c C.nilp, V1.c (C.int .i64 ((↑z.fst : Int) + (1 : Int))), V1.c (C.int .i64 (112 : Int))]) [Atom.bag z.snd.fst, Atom.cells 67
 [C.slc 2 0 z.snd.snd.length none], Atom.arr Kd.line z.snd.snd, Atom.arr Kd.str (linesB s), Atom.cells 50 [C.int .i64 (readR (rd (linesB s) (↑z.fst : Int).toNat (ByteArray.mk (#[])))).fst, C.str (readR
 (rd (linesB s) (↑z.fst : Int).toNat (ByteArray.mk (#[])))).snd.fst]])))) (EndsAs 1 (ct_parse s t φ g) (VV.tup [V1.c (C.ptr 1 0 0), V1.c (C.int .i64 (0 : Int)), V1.c (C.int .i64 (0 : Int))]) [Atom.bag z.snd.fst,
 Atom.cells 67 [C.slc 2 0 z.snd.snd.length none], Atom.arr Kd.line z.snd.snd, Atom.arr Kd.str (linesB s)]))) := by kernel_rfl
theorem vc_mirror (t : Tb) (φ : Bag KK) (xs : List Ln) : evFn (tab4 t) (ann_mirror φ xs) Tryd.f14 (ct_mirror φ xs) = ( True ∧ Into (K := KK) 0 [] [] [] [Atom.bag φ, Atom.cells 67 [C.slc 2 0 xs.length none], Atom.arr Kd.line xs] [] [] ∧ ∀ (y : Unit), True → xs.length ≤ 1000 ∧ Into (K := KK) 0 [] [0, 1, 2] [VV.one (V1.c
 (C.ptr 1 0 0))] [Atom.bag φ, Atom.cells 67 [C.slc 2 0 xs.length none], Atom.arr Kd.line xs, Atom.cells 67 [C.nils]] [VV.one (V1.c (C.ptr 1 0 0))] [Atom.bag φ, Atom.cells 67 [C.slc 2 0 xs.length none],
 Atom.arr Kd.line xs] ∧ ∀ (y : Unit), True → Enter 3 (inv_mirror φ xs) (fun (x : Nat × Bag KK × List Ln) => True) ([VV.one (V1.c (C.ptr 1 0 0)), VV.any, VV.one (V1.c C.nilp), VV.one (V1.c (C.ptr 3 0 0)),
 VV.any, VV.any, VV.one (V1.c (C.ptr 3 0 0)), VV.one (V1.c (C.ptr 1 0 0)), VV.one (V1.c (C.slc 4 0 (LL xs).length none)), i64 (↑(LL xs).length : Int), i64 (0 : Int)] ++ anys 24) [Atom.bag φ, Atom.cells
 67 [C.slc 2 0 xs.length none], Atom.arr Kd.line xs, Atom.cells 67 [C.nils], Atom.arr Kd.rule (LL xs)] ∧ ∀ (z : Nat × Bag KK × List Ln), mirOk φ xs z.fst z.snd.fst z.snd.snd → ite2 (decide ((↑z.fst : Int)
 < (↑(LL xs).length : Int))) (((0 : Int) ≤ (↑z.fst : Int) ∧ (↑z.fst : Int) < (↑(LL xs).length : Int)) ∧ (↑z.fst : Int).toNat < (LL xs).length ∧ True ∧ (↑z.fst : Int).toNat < (LL xs).length ∧ ite2 (decide
 ((rd (LL xs) (↑z.fst : Int).toNat (KK.dflt Kd.rule)).fst = (2 : Int))) (True ∧ True ∧ Into (K := KK) 0 [] [0] [VV.one (V1.agg [C.int .i64 (3 : Int), C.str (rd (LL xs) (↑z.fst : Int).toNat (KK.dflt Kd.rule)).snd])]
 [Atom.bag z.snd.fst, Atom.cells 67 [C.slc 2 0 xs.length none], Atom.arr Kd.line xs, Atom.cells 67 [C.slc 4 0 z.snd.snd.length none], Atom.arr Kd.line z.snd.snd, Atom.arr Kd.rule (LL xs), Atom.cells 50
 [C.int .i64 (3 : Int), C.str (rd (LL xs) (↑z.fst : Int).toNat (KK.dflt Kd.rule)).snd]] [VV.one (V1.agg [C.int .i64 (3 : Int), C.str (rd (LL xs) (↑z.fst : Int).toNat (KK.dflt Kd.rule)).snd])] [Atom.bag
 z.snd.fst] ∧ ∀ (y : Nat), z.snd.fst y = none → (VV.one (V1.c (C.slc 4 0 z.snd.snd.length none)) = VV.one (V1.c (C.slc 4 0 z.snd.snd.length none)) ∧ True) ∧ (VV.one (V1.c (C.slc 4 0 z.snd.snd.length none))
 = VV.one (V1.c (C.slc 4 0 z.snd.snd.length none)) ∧ True) ∧ z.snd.snd.length = z.snd.snd.length ∧ (1 ≤ 1 ∧ True) ∧ (z.snd.snd.length + 1) * 32 ≤ 140737488355328 ∧ True ∧ True ∧ i64ok ((↑z.fst : Int) +
 (1 : Int)) ∧ Enter 3 (inv_mirror φ xs) (fun (z' : Nat × Bag KK × List Ln) => (LL xs).length - z'.fst < (LL xs).length - z.fst) ([VV.one (V1.c (C.ptr 1 0 0)), VV.any, VV.any, VV.one (V1.c (C.ptr 3 0 0)),
 VV.any, VV.one (V1.c (C.ptr 6 0 0)), VV.any, VV.any, VV.one (V1.c (C.slc 5 0 (LL xs).length none)), i64 (↑(LL xs).length : Int), i64 ((↑z.fst : Int) + (1 : Int))] ++ anys 24) [Atom.bag (bput z.snd.fst
 y (ruleI (3 : Int) (rd (LL xs) (↑z.fst : Int).toNat (KK.dflt Kd.rule)).snd)), Atom.cells 67 [C.slc 2 0 xs.length none], Atom.arr Kd.line xs, Atom.cells 67 [C.slc 8 0 (z.snd.snd.length + 1) none], Atom.gone,
 Atom.arr Kd.rule (LL xs), Atom.cells 50 [C.int .i64 (3 : Int), C.str (rd (LL xs) (↑z.fst : Int).toNat (KK.dflt Kd.rule)).snd], Atom.arr Kd.line [((3 : Int), (rd (LL xs) (↑z.fst : Int).toNat (KK.dflt Kd.rule)).snd,
 y)], Atom.arr Kd.line (z.snd.snd ++ [((3 : Int), (rd (LL xs) (↑z.fst : Int).toNat (KK.dflt Kd.rule)).snd, y)])]) (ite2 (decide ((rd (LL xs) (↑z.fst : Int).toNat (KK.dflt Kd.rule)).fst = (3 : Int))) (True
 ∧ True ∧ Into (K := KK) 0 [] [0] [VV.one (V1.agg [C.int .i64 (2 : Int), C.str (rd (LL xs) (↑z.fst : Int).toNat (KK.dflt Kd.rule)).snd])] [Atom.bag z.snd.fst, Atom.cells 67 [C.slc 2 0 xs.length none], Atom.arr
 Kd.line xs, Atom.cells 67 [C.slc 4 0 z.snd.snd.length none], Atom.arr Kd.line z.snd.snd, Atom.arr Kd.rule (LL xs), Atom.cells 50 [C.int .i64 (2 : Int), C.str (rd (LL xs) (↑z.fst : Int).toNat (KK.dflt Kd.rule)).snd]]
 [VV.one (V1.agg [C.int .i64 (2 : Int), C.str (rd (LL xs) (↑z.fst : Int).toNat (KK.dflt Kd.rule)).snd])] [Atom.bag z.snd.fst] ∧ ∀ (y : Nat), z.snd.fst y = none → (VV.one (V1.c (C.slc 4 0 z.snd.snd.length
 none)) = VV.one (V1.c (C.slc 4 0 z.snd.snd.length none)) ∧ True) ∧ (VV.one (V1.c (C.slc 4 0 z.snd.snd.length none)) = VV.one (V1.c (C.slc 4 0 z.snd.snd.length none)) ∧ True) ∧ z.snd.snd.length = z.snd.snd.length
 ∧ (1 ≤ 1 ∧ True) ∧ (z.snd.snd.length + 1) * 32 ≤ 140737488355328 ∧ True ∧ True ∧ i64ok ((↑z.fst : Int) + (1 : Int)) ∧ Enter 3 (inv_mirror φ xs) (fun (z' : Nat × Bag KK × List Ln) => (LL xs).length - z'.fst
 < (LL xs).length - z.fst) ([VV.one (V1.c (C.ptr 1 0 0)), VV.any, VV.any, VV.one (V1.c (C.ptr 3 0 0)), VV.any, VV.one (V1.c (C.ptr 6 0 0)), VV.any, VV.any, VV.one (V1.c (C.slc 5 0 (LL xs).length none)),
 i64 (↑(LL xs).length : Int), i64 ((↑z.fst : Int) + (1 : Int))] ++ anys 24) [Atom.bag (bput z.snd.fst y (ruleI (2 : Int) (rd (LL xs) (↑z.fst : Int).toNat (KK.dflt Kd.rule)).snd)), Atom.cells 67 [C.slc 2
 0 xs.length none], Atom.arr Kd.line xs, Atom.cells 67 [C.slc 8 0 (z.snd.snd.length + 1) none], Atom.gone, Atom.arr Kd.rule (LL xs), Atom.cells 50 [C.int .i64 (2 : Int), C.str (rd (LL xs) (↑z.fst : Int).toNat
 (KK.dflt Kd.rule)).snd], Atom.arr Kd.line [((2 : Int), (rd (LL xs) (↑z.fst : Int).toNat (KK.dflt Kd.rule)).snd, y)], Atom.arr Kd.line (z.snd.snd ++ [((2 : Int), (rd (LL xs) (↑z.fst : Int).toNat (KK.dflt
 Kd.rule)).snd, y)])]) (True ∧ True ∧ Into (K := KK) 0 [] [0] [VV.one (V1.agg [C.int .i64 (rd (LL xs) (↑z.fst : Int).toNat (KK.dflt Kd.rule)).fst, C.str (rd (LL xs) (↑z.fst : Int).toNat (KK.dflt Kd.rule)).snd])]
 [Atom.bag z.snd.fst, Atom.cells 67 [C.slc 2 0 xs.length none], Atom.arr Kd.line xs, Atom.cells 67 [C.slc 4 0 z.snd.snd.length none], Atom.arr Kd.line z.snd.snd, Atom.arr Kd.rule (LL xs), Atom.cells 50
 [C.int .i64 (rd (LL xs) (↑z.fst : Int).toNat (KK.dflt Kd.rule)).fst, C.str (rd (LL xs) (↑z.fst : Int).toNat (KK.dflt Kd.rule)).snd]] [VV.one (V1.agg [C.int .i64 (rd (LL xs) (↑z.fst : Int).toNat (KK.dflt
 Kd.rule)).fst, C.str (rd (LL xs) (↑z.fst : Int).toNat (KK.dflt Kd.rule)).snd])] [Atom.bag z.snd.fst] ∧ ∀ (y : Nat), z.snd.fst y = none → (VV.one (V1.c (C.slc 4 0 z.snd.snd.length none)) = VV.one (V1.c
 (C.slc 4 0 z.snd.snd.length none)) ∧ True) ∧ (VV.one (V1.c (C.slc 4 0 z.snd.snd.length none)) = VV.one (V1.c (C.slc 4 0 z.snd.snd.length none)) ∧ True) ∧ z.snd.snd.length = z.snd.snd.length ∧ (1 ≤ 1 ∧
 True) ∧ (z.snd.snd.length + 1) * 32 ≤ 140737488355328 ∧ True ∧ True ∧ i64ok ((↑z.fst : Int) + (1 : Int)) ∧ Enter 3 (inv_mirror φ xs) (fun (z' : Nat × Bag KK × List Ln) => (LL xs).length - z'.fst < (LL
 xs).length - z.fst) ([VV.one (V1.c (C.ptr 1 0 0)), VV.any, VV.any, VV.one (V1.c (C.ptr 3 0 0)), VV.any, VV.one (V1.c (C.ptr 6 0 0)), VV.any, VV.any, VV.one (V1.c (C.slc 5 0 (LL xs).length none)), i64 (↑(LL
 xs).length : Int), i64 ((↑z.fst : Int) + (1 : Int))] ++ anys 24) [Atom.bag (bput z.snd.fst y (ruleI (rd (LL xs) (↑z.fst : Int).toNat (KK.dflt Kd.rule)).fst (rd (LL xs) (↑z.fst : Int).toNat (KK.dflt Kd.rule)).snd)),
 Atom.cells 67 [C.slc 2 0 xs.length none], Atom.arr Kd.line xs, Atom.cells 67 [C.slc 8 0 (z.snd.snd.length + 1) none], Atom.gone, Atom.arr Kd.rule (LL xs), Atom.cells 50 [C.int .i64 (rd (LL xs) (↑z.fst
 : Int).toNat (KK.dflt Kd.rule)).fst, C.str (rd (LL xs) (↑z.fst : Int).toNat (KK.dflt Kd.rule)).snd], Atom.arr Kd.line [((rd (LL xs) (↑z.fst : Int).toNat (KK.dflt Kd.rule)).fst, (rd (LL xs) (↑z.fst : Int).toNat
 (KK.dflt Kd.rule)).snd, y)], Atom.arr Kd.line (z.snd.snd ++ [((rd (LL xs) (↑z.fst : Int).toNat (KK.dflt Kd.rule)).fst, (rd (LL xs) (↑z.fst : Int).toNat (KK.dflt Kd.rule)).snd, y)])]))) (EndsAs 3 (ct_mirror
 φ xs) (VV.one (V1.c (C.ptr 3 0 0))) [Atom.bag z.snd.fst, Atom.cells 67 [C.slc 2 0 xs.length none], Atom.arr Kd.line xs, Atom.cells 67 [C.slc 4 0 z.snd.snd.length none], Atom.arr Kd.line z.snd.snd, Atom.arr
 Kd.rule (LL xs)])) := by kernel_rfl
theorem LL_snoc (ys : List Ln) (x : Ln) : LL (ys ++ [x]) = LL ys ++ [rl x] := by unfold LL; rw [List.map_append]; rfl
theorem GoodL.put {ψ : Bag KK} {ys : List Ln} {b : Nat} {w : Int} {q : ByteArray} (h : GoodL ψ ys) (hb : ψ b = none) : GoodL (bput ψ b (ruleI w q)) (ys ++ [(w, q, b)]) := fun x hx => by
  rcases List.mem_append.1 hx with hx | hx
  · exact Ext.put hb _ _ (h x hx)
  · simp at hx
    subst hx
    exact bput_same
theorem GoodL.ext {φ ψ : Bag KK} {ys : List Ln} (h : GoodL φ ys) (e : Ext φ ψ) : GoodL ψ ys := fun x hx => e _ _ (h x hx)
theorem HasT.ext {t : Tb} {φ ψ : Bag KK} (h : HasT t φ) (e : Ext φ ψ) : HasT t ψ := ⟨e _ _ h.1, e _ _ h.2.1, e _ _ h.2.2⟩
theorem bt0 {x : ByteArray} : E.bt x 0 = 35 ↔ x.data.toList.head? = some 35 ∨ (x.size = 0 ∧ E.bt x 0 = 35) := by
  constructor
  · intro h
    by_cases h0 : x.size = 0
    · exact .inr ⟨h0, h⟩
    · left
      unfold E.bt at h
      have hl : 0 < x.data.size := by have : x.data.size = x.size := rfl; omega
      rw [Array.getD_eq_getD_getElem?, Array.getElem?_eq_getElem hl, Option.getD_some] at h
      have h2 : x.data[0] = 35 := UInt8.toNat_inj.1 (by show _ = 35; omega)
      rw [List.head?_eq_getElem?, Array.getElem?_toList, Array.getElem?_eq_getElem hl, h2]
  · rintro (h | ⟨_, h⟩)
    · rw [List.head?_eq_getElem?, Array.getElem?_toList] at h
      unfold E.bt
      rw [Array.getD_eq_getD_getElem?, h]
      rfl
    · exact h
theorem parse_ok (s : ByteArray) (t : Tb) (φ : Bag KK) (g : Bool) : CtOk Tryd.prog 12 (ct_parse s t φ g) := CtOk_of KK_ok (tab4 t) (ann_parse s φ) (fn := Tryd.f12) rfl (fun _ _ => rfl) fun hn => by
  obtain ⟨hs, ht, hgd⟩ := hn
  have bad : ∀ (k e : Int) (ψ : Bag KK) (A : VH KK), Ext φ ψ → parseB s = .bad k e → EndsAs 1 (ct_parse s t φ g) (.tup [.c .nilp, .c (.int .i64 k), .c (.int .i64 e)]) (.bag ψ :: A) := fun k e ψ A hE h => by
    have hg : g = false := by rw [← hgd, h]; rfl
    have hq1 : k = (badOf (parseB s)).1 := by rw [h]; rfl
    have hq2 : e = (badOf (parseB s)).2 := by rw [h]; rfl
    subst hg
    exact ⟨(ψ, []), [], [0], ⟨hE, fun h => by cases h⟩, by (repeat' first | exact trivial | exact rfl | exact hq1 | exact hq2 | apply And.intro)⟩
  rw [vc_parse]
  simp only [Int.toNat_natCast]
  refine ite2_decide (fun hl => bad _ _ _ _ (Ext.refl _) ?_) (fun hl => ?_)
  · unfold parseB; rw [if_pos (by omega)]
  have hpl : parseB s = parseL 0 [] (linesB s) := by unfold parseB; rw [if_neg (by omega)]
  refine ⟨trivial, into_mk (by kernel_rfl) (by (repeat' first | exact trivial | exact rfl | apply And.intro)) (by (repeat' first | exact trivial | exact rfl | apply And.intro)), fun _ _ => ⟨⟨by omega, ht⟩, into_mk (by kernel_rfl) (by (repeat' first | exact trivial | exact rfl | apply And.intro)) (by (repeat' first | exact trivial | exact rfl | apply And.intro)), fun _ _ => ⟨⟨((0 : Nat), φ, []), [.line], [0, 1, 3, 2], ⟨Nat.zero_le _, Ext.refl _, fun x hx => (by simp at hx), Nat.zero_le _, by rw [hpl]; rfl⟩, trivial, into_mk (by kernel_rfl) (by (repeat' first | exact trivial | exact rfl | apply And.intro)) (by (repeat' first | exact trivial | exact rfl | apply And.intro))⟩, ?_⟩⟩⟩
  rintro ⟨i, ψ, ys⟩ ⟨hi, hE, hG, h64, hp⟩
  dsimp only at hi hE hG h64 hp ⊢
  refine ite2_decide (fun hl1 => ?_) (fun hl1 => ?_)
  · have hl2 : i < (linesB s).length := by omega
    have hfew : (linesB s).length ≤ 4001 := by
      have h1 := linesB_sum s
      have h2 : ∀ l : List ByteArray, l.length ≤ (l.map fun x => x.size + 1).sum := fun l => by
        induction l with
        | nil => simp
        | cons a b ih => simp only [List.length_cons, List.map_cons, List.sum_cons]; omega
      have h3 := h2 (linesB s)
      omega
    rw [drop_rd hl2 (ByteArray.mk #[])] at hp
    rw [parseL] at hp
    have io : i64ok ((i : Int) + 1) := by unfold i64ok; omega
    have skip : ((rd (linesB s) i (ByteArray.mk #[])).data.toList = [] ∨ (rd (linesB s) i (ByteArray.mk #[])).data.toList.head? = some 35) → parseOk s φ (i + 1) ψ ys := fun h => ⟨hl2, hE, hG, h64, by rw [if_pos h] at hp; exact hp⟩
    have me : (linesB s).length - (i + 1) < (linesB s).length - i := by omega
    refine ⟨⟨by omega, hl1⟩, hl2, trivial, hl2, ite2_decide (fun h0 => ?_) (fun h0 => ?_)⟩
    · rw [toList_data, toList_data] at h0
      exact ⟨io, (i + 1, ψ, ys), [], [0, 1, 2, 3], skip (.inl h0), me, into_mk (by kernel_rfl) (by (repeat' first | exact trivial | exact rfl | apply And.intro)) (by (repeat' first | exact trivial | exact rfl | apply And.intro))⟩
    · have hsz := size_of_toList h0
      rw [toList_data, toList_data] at h0
      refine ⟨⟨Int.le_refl _, by omega⟩, ite2_decide (fun h1 => ?_) (fun h1 => ?_)⟩
      · have h1' := (bt0 (x := (rd (linesB s) i (ByteArray.mk #[]))).1 h1).resolve_right (fun e => hsz e.1)
        exact ⟨io, (i + 1, ψ, ys), [], [0, 1, 2, 3], skip (.inr h1'), me, into_mk (by kernel_rfl) (by (repeat' first | exact trivial | exact rfl | apply And.intro)) (by (repeat' first | exact trivial | exact rfl | apply And.intro))⟩
      · rw [if_neg (by rintro (e | e); exact h0 e; exact h1 (bt0 (x := (rd (linesB s) i (ByteArray.mk #[]))).2 (.inl e)))] at hp
        refine ⟨ht.ext hE, into_mk (by kernel_rfl) (by (repeat' first | exact trivial | exact rfl | apply And.intro)) (by (repeat' first | exact trivial | exact rfl | apply And.intro)), fun _ _ => ite2_mk (fun h2 => ?_) (fun h2 => ⟨io, bad _ _ _ _ hE ?_⟩)⟩
        · obtain ⟨r, hr⟩ : ∃ r, R.readL (rd (linesB s) i (ByteArray.mk #[])) = some r := by
            cases hr : R.readL (rd (linesB s) i (ByteArray.mk #[])) with
            | none => unfold readR at h2; rw [hr] at h2; cases h2
            | some r => exact ⟨r, rfl⟩
          have hR : readR (rd (linesB s) i (ByteArray.mk #[])) = (r.1, r.2, true) := by unfold readR; rw [hr]
          rw [hr] at hp
          dsimp only at hp
          refine ite2_decide (fun h3 => ⟨io, bad _ _ _ _ hE ?_⟩) (fun h3 => ⟨by decide, into_mk (by kernel_rfl) (by (repeat' first | exact trivial | exact rfl | apply And.intro)) (by (repeat' first | exact trivial | exact rfl | apply And.intro)), fun _ _ => ite2_decide (fun h4 => ⟨trivial, trivial, into_mk (by kernel_rfl) (by (repeat' first | exact trivial | exact rfl | apply And.intro)) (by (repeat' first | exact trivial | exact rfl | apply And.intro)), fun b hb => ?_⟩) (fun h4 => ⟨io, bad _ _ _ _ hE ?_⟩)⟩)
          · rw [if_pos (by rw [LL_len]; omega)] at hp; exact hp.symm
          · have h3' : ¬ (LL ys).length = 64 := by rw [LL_len]; omega
            have h4' : ¬ (patE r.2 ≠ 0) := fun e => e (by rw [hR] at h4; exact h4)
            rw [if_neg h3', if_neg h4'] at hp
            have hq1 : ys.length + 1 = (ys ++ [((readR (rd (linesB s) i (ByteArray.mk #[]))).1, (readR (rd (linesB s) i (ByteArray.mk #[]))).2.1, b)]).length := by simp
            refine ⟨by (repeat' first | exact trivial | exact rfl | exact Nat.le_refl _ | apply And.intro), by (repeat' first | exact trivial | exact rfl | exact Nat.le_refl _ | apply And.intro), by (repeat' first | exact trivial | exact rfl | exact Nat.le_refl _ | apply And.intro), by (repeat' first | exact trivial | exact rfl | exact Nat.le_refl _ | apply And.intro), by omega, trivial, trivial, io, (i + 1, bput ψ b (ruleI (readR (rd (linesB s) i (ByteArray.mk #[]))).1 (readR (rd (linesB s) i (ByteArray.mk #[]))).2.1), ys ++ [((readR (rd (linesB s) i (ByteArray.mk #[]))).1, (readR (rd (linesB s) i (ByteArray.mk #[]))).2.1, b)]), [], [0, 1, 6, 3], ⟨hl2, hE.trans (Ext.put hb), hG.put hb, by simp; omega, ?_⟩, me, into_mk (by kernel_rfl) (by (repeat' first | exact trivial | exact rfl | exact hq1 | apply And.intro)) (by (repeat' first | exact trivial | exact rfl | exact hq1 | apply And.intro))⟩
            rw [LL_snoc]
            show parseL (i + 1) (LL ys ++ [((readR (rd (linesB s) i (ByteArray.mk #[]))).1, (readR (rd (linesB s) i (ByteArray.mk #[]))).2.1)]) _ = _
            rw [hR]
            exact hp
          · have h3' : ¬ (LL ys).length = 64 := by rw [LL_len]; omega
            have h4' : patE r.2 ≠ 0 := fun e => h4 (by rw [hR]; exact e)
            rw [if_neg h3', if_pos h4'] at hp
            exact hp.symm
        · have hr : R.readL (rd (linesB s) i (ByteArray.mk #[])) = none := by
            cases hr : R.readL (rd (linesB s) i (ByteArray.mk #[])) with
            | none => rfl
            | some r => unfold readR at h2; rw [hr] at h2; cases h2
          rw [hr] at hp
          exact hp.symm
  · have hp : PR.good (LL ys) = parseB s := by
      rw [List.drop_of_length_le (by omega)] at hp
      exact hp
    have hg : g = true := by rw [← hgd, ← hp]; rfl
    subst hg
    refine ⟨(ψ, ys), [], [0, 1, 2], ⟨hE, fun _ => ⟨hG, by rw [← hp]; rfl⟩⟩, by (repeat' first | exact trivial | exact rfl | apply And.intro)⟩
theorem rdR_get {l : List Rl} {i : Nat} (d : Rl) (h : i < l.length) : l.take (i + 1) = l.take i ++ [rd l i d] := by
  have := map_succ id l i d h
  simpa using this
theorem mirror_ok (t : Tb) (φ : Bag KK) (xs : List Ln) : CtOk Tryd.prog 14 (ct_mirror φ xs) := CtOk_of KK_ok (tab4 t) (ann_mirror φ xs) (fn := Tryd.f14) rfl (fun _ _ => rfl) fun hn => by
  have hn : xs.length ≤ 1000 := hn
  rw [vc_mirror]
  simp only [Int.toNat_natCast]
  refine ⟨trivial, into_mk (by kernel_rfl) (by (repeat' first | exact trivial | exact rfl | apply And.intro)) (by (repeat' first | exact trivial | exact rfl | apply And.intro)), fun _ _ => ⟨hn, into_mk (by kernel_rfl) (by (repeat' first | exact trivial | exact rfl | apply And.intro)) (by (repeat' first | exact trivial | exact rfl | apply And.intro)), fun _ _ => ⟨⟨((0 : Nat), φ, []), [.line], [0, 1, 2, 3, 5, 4], ⟨Nat.zero_le _, Ext.refl _, fun x hx => (by simp at hx), rfl⟩, trivial, into_mk (by kernel_rfl) (by (repeat' first | exact trivial | exact rfl | apply And.intro)) (by (repeat' first | exact trivial | exact rfl | apply And.intro))⟩, ?_⟩⟩⟩
  rintro ⟨i, ψ, ys⟩ ⟨hi, hE, hG, hy⟩
  dsimp only at hi hE hG hy ⊢
  have hxl := LL_len xs
  have hyl : ys.length ≤ xs.length := by
    have := congrArg List.length hy
    rw [LL_len] at this
    unfold mirB at this
    rw [List.length_map, List.length_take] at this
    omega
  refine ite2_decide (fun hl => ?_) (fun hl => ?_)
  · have hl1 : i < (LL xs).length := by omega
    have me : (LL xs).length - (i + 1) < (LL xs).length - i := by omega
    have io : i64ok ((i : Int) + 1) := by unfold i64ok; omega
    have next : ∀ (w : Int) (b : Nat), ψ b = none → ∀ v : Int, (rd (α := Rl) (LL xs) i (KK.dflt Kd.rule)).1 = v → w = mirW v → mirOk φ xs (i + 1) (bput ψ b (ruleI w (rd (α := Rl) (LL xs) i (KK.dflt Kd.rule)).2)) (ys ++ [(w, (rd (α := Rl) (LL xs) i (KK.dflt Kd.rule)).2, b)]) := fun w b hb v hv hw => by
      refine ⟨hl1, hE.trans (Ext.put hb), hG.put hb, ?_⟩
      rw [LL_snoc, hy, rdR_get (KK.dflt Kd.rule) hl1]
      unfold mirB
      rw [List.map_append]
      subst hw hv
      rfl
    have hq1 : ∀ x : Ln, ys.length + 1 = (ys ++ [x]).length := fun x => by simp
    refine ⟨⟨by omega, hl⟩, hl1, trivial, hl1, ite2_decide (fun h2 => ?_) (fun h2 => ite2_decide (fun h3 => ?_) (fun h3 => ?_))⟩
    · refine ⟨trivial, trivial, into_mk (by kernel_rfl) (by (repeat' first | exact trivial | exact rfl | apply And.intro)) (by (repeat' first | exact trivial | exact rfl | apply And.intro)), fun b hb => ⟨by (repeat' first | exact trivial | exact rfl | exact Nat.le_refl _ | apply And.intro), by (repeat' first | exact trivial | exact rfl | exact Nat.le_refl _ | apply And.intro), by (repeat' first | exact trivial | exact rfl | exact Nat.le_refl _ | apply And.intro), by (repeat' first | exact trivial | exact rfl | exact Nat.le_refl _ | apply And.intro), by omega, trivial, trivial, io, (i + 1, _, _), [], [0, 1, 2, 3, 8, 5], next 3 b hb 2 h2 rfl, me, into_mk (by kernel_rfl) (by (repeat' first | exact trivial | exact rfl | exact hq1 _ | apply And.intro)) (by (repeat' first | exact trivial | exact rfl | exact hq1 _ | apply And.intro))⟩⟩
    · refine ⟨trivial, trivial, into_mk (by kernel_rfl) (by (repeat' first | exact trivial | exact rfl | apply And.intro)) (by (repeat' first | exact trivial | exact rfl | apply And.intro)), fun b hb => ⟨by (repeat' first | exact trivial | exact rfl | exact Nat.le_refl _ | apply And.intro), by (repeat' first | exact trivial | exact rfl | exact Nat.le_refl _ | apply And.intro), by (repeat' first | exact trivial | exact rfl | exact Nat.le_refl _ | apply And.intro), by (repeat' first | exact trivial | exact rfl | exact Nat.le_refl _ | apply And.intro), by omega, trivial, trivial, io, (i + 1, _, _), [], [0, 1, 2, 3, 8, 5], next 2 b hb 3 h3 rfl, me, into_mk (by kernel_rfl) (by (repeat' first | exact trivial | exact rfl | exact hq1 _ | apply And.intro)) (by (repeat' first | exact trivial | exact rfl | exact hq1 _ | apply And.intro))⟩⟩
    · refine ⟨trivial, trivial, into_mk (by kernel_rfl) (by (repeat' first | exact trivial | exact rfl | apply And.intro)) (by (repeat' first | exact trivial | exact rfl | apply And.intro)), fun b hb => ⟨by (repeat' first | exact trivial | exact rfl | exact Nat.le_refl _ | apply And.intro), by (repeat' first | exact trivial | exact rfl | exact Nat.le_refl _ | apply And.intro), by (repeat' first | exact trivial | exact rfl | exact Nat.le_refl _ | apply And.intro), by (repeat' first | exact trivial | exact rfl | exact Nat.le_refl _ | apply And.intro), by omega, trivial, trivial, io, (i + 1, _, _), [], [0, 1, 2, 3, 8, 5], next _ b hb _ rfl (by unfold mirW; rw [if_neg h2, if_neg h3]), me, into_mk (by kernel_rfl) (by (repeat' first | exact trivial | exact rfl | exact hq1 _ | apply And.intro)) (by (repeat' first | exact trivial | exact rfl | exact hq1 _ | apply And.intro))⟩⟩
  · refine ⟨(ψ, ys), [], [0, 1, 2, 3, 4], ⟨hE, hG, ?_⟩, by (repeat' first | exact trivial | exact rfl | apply And.intro)⟩
    rw [hy, List.take_of_length_le (by omega)]
end Go.Proofs.YtoidibkcdkdneaaDoor.T
end
section
namespace Go.Proofs.YtoidibkcdkdneaaDoor.T
open Go.Proofs.YtoidibkcdkdneaaDoor.E Go.Proofs.YtoidibkcdkdneaaDoor.MStr Go.Proofs.YtoidibkcdkdneaaDoor.R
set_option maxRecDepth 100000
set_option linter.unusedVariables false
def slash : ByteArray := ⟨#[47]⟩
def ct_join (l : List ByteArray) : Ct KK := { need := l.length ≤ 1000000 ∧ (Lib.join (l.map (·.data.toList)) slash.data.toList).length ≤ 1000000000, pre := [.ro .str l], args := [.c (.slc 0 0 l.length none)], Y := Unit, ok := fun _ => True, ret := fun _ => strv (ljoin l slash), post := fun _ => [.gone] }
def leftOut (one up : Int) (i : Nat) : Bool := (decide (0 < one) && decide ((i : Int) + 1 ≠ one)) || (decide (one = 0) && decide (up < (i : Int) + 1))
def onlyN (l : List Rl) (one up : Int) : Nat → List Rl
  | 0 => []
  | i + 1 => if leftOut one up i = true then onlyN l one up i else onlyN l one up i ++ [l.getD i ((0 : Int), ByteArray.empty)]
def ct_only (l : List Rl) (one up : Int) (t : Tb) (φ : Bag KK) : Ct KK := { need := HasT t φ ∧ Wf l ∧ l.length ≤ 64 ∧ lsum l ≤ 4001 ∧ (0 ≤ one ∧ one ≤ 1000) ∧ (0 ≤ up ∧ up ≤ 1000), pre := [.bag φ, .ro .rule l], args := [.c (.slc 1 0 l.length none), i64 one, i64 up], Y := Bag KK × List Ln, ok := fun y => Ext φ y.1 ∧ GoodL y.1 y.2 ∧ LL y.2 = onlyN l one up l.length, ret := fun _ => .c (.ptr 2 0 0), post := fun y => [.bag y.1, .gone, .cells 67 [.slc 3 0 y.2.length none], .arr .line y.2] }
def inv_only (l : List Rl) (one up : Int) (φ : Bag KK) : Inv KK := { X := Nat, fr := fun i => [.c (.slc 1 0 l.length none), i64 one, i64 up, .any, .any, .any, .any, strv (textB (onlyN l one up i)), i64 i] ++ anys 54, H := fun _ => [.bag φ, .ro .rule l], ok := fun i => i ≤ l.length, meas := fun i : Nat => l.length - i }
def sepB (s : ByteArray) : ByteArray := if s.toList = (ByteArray.mk #[]).toList then s else s.append ⟨#[10]⟩
/-- One rule is taken: ahead of it, and behind the line's end that goes before it. -/
def inv_take (l : List Rl) (one up : Int) (φ : Bag KK) (i : Int) (s : ByteArray) : Inv KK := { X := Unit, fr := fun _ => [.c (.slc 1 0 l.length none), i64 one, i64 up, .any, .any, .any, .any, strv s, i64 i] ++ anys 54, H := fun _ => [.bag φ, .ro .rule l], ok := fun _ => leftOut one up i.toNat = false, meas := fun _ => 0 }
def cut_only (l : List Rl) (one up : Int) (φ : Bag KK) (id : Nat) (fr : List VV) (H : VH KK) : Option (Inv KK) := match id, fr.getD 7 .any, fr.getD 8 .any with
  | 6, .one (.c (.str s)), .one (.c (.int _ i)) => some (inv_take l one up φ i s)
  | 8, .one (.c (.str s)), .one (.c (.int _ i)) => some (inv_take l one up φ i (sepB s))
  | _, _, _ => none
def ann_only (l : List Rl) (one up : Int) (φ : Bag KK) : Ann KK := { loop := fun _ _ _ => some (inv_only l one up φ), cut := cut_only l one up φ, keep := some 9 }
def T1 : ByteArray := ⟨#[115, 107, 105, 112, 32, 42, 46, 111, 10, 10, 35, 32, 109, 105, 110, 101, 10, 112, 114, 101, 102, 101, 114, 32, 97, 32, 47, 100, 111, 99, 47, 42, 42, 10, 112, 114, 101, 102, 101, 114, 32, 98, 32, 42, 46, 109, 100]⟩
def ct_known (t : Tb) (φ : Bag KK) : Ct KK := { need := HasT t φ, pre := [.bag φ], args := [], Y := Bag KK, ok := fun ψ => Ext φ ψ, ret := fun _ => boolv true, post := fun ψ => [.bag ψ] }
/-- A table of what rules tell; g: which texts are known to be well. -/
def tabR (t : Tb) (g : ByteArray → Bool) : Tab Tryd.prog KK := ⟨base t, fun f args H => match f, args, at_ H 0 with
  | 12, [.one (.c (.str s))], .bag φ => some (ct_parse s t φ (g s), [], [0])
  | 23, [.one (.c (.ptr q _ _))], .bag φ => match getR q H with
    | some (xs, ks, a) => some (ct_text t φ xs, ks, [0, q, a])
    | none => none
  | 25, [.one (.c (.ptr q _ _))], .bag φ => match getR q H with
    | some (xs, ks, a) => some (ct_list φ xs, ks, [0, q, a])
    | none => none
  | 14, [.one (.c (.ptr q _ _))], .bag φ => match getR q H with
    | some (xs, ks, a) => some (ct_mirror φ xs, ks, [0, q, a])
    | none => none
  | 17, [.one (.c (.ptr q _ _)), .one (.c (.str p))], .bag φ => match getR q H with
    | some (xs, ks, a) => some (ct_skip φ xs p, ks, [0, q, a])
    | none => none
  | 19, [.one (.c (.ptr q _ _)), .one (.c (.str p))], .bag φ => match getR q H with
    | some (xs, ks, a) => some (ct_prefer φ xs p, ks, [0, q, a])
    | none => none
  | 15, [.one (.c (.ptr q _ _)), .one (.c (.str p))], .bag φ => match getR q H with
    | some (xs, ks, a) => some (ct_why φ xs p, ks, [0, q, a])
    | none => none
  | 24, [.one (.c (.slc a _ _ _)), .one (.c (.slc b _ _ _))], _ => match at_ H a with
    | .arr .rule l => some (ct_sameR l, [], [a, b])
    | _ => none
  | 41, [.one (.c (.slc n 0 _ none)), .one (.c (.str s))], _ => match at_ H n with
    | .ro .str l => some (ct_sjoin l s, [], [n])
    | _ => none
  | 28, [.one (.c (.str s)), .one (.c (.int _ n))], _ => some (ct_psplit s n, [], [])
  | _, _, _ => none, fun f args H ct ks τ h => by
    split at h
    · cases h; exact parse_ok _ _ _ _
    · split at h
      · cases h; exact text_ok _ _ _
      · cases h
    · split at h
      · cases h; exact list_ok t _ _
      · cases h
    · split at h
      · cases h; exact mirror_ok t _ _
      · cases h
    · split at h
      · cases h; exact skip_ok _ _ _
      · cases h
    · split at h
      · cases h; exact prefer_ok _ _ _
      · cases h
    · split at h
      · cases h; exact why_ok t _ _ _
      · cases h
    · split at h
      · cases h; exact sameR_ok _
      · cases h
    · split at h
      · cases h; exact sjoin_ok _ _
      · cases h
    · cases h; exact psplit_ok _ _
    · cases h⟩
def gK (s : ByteArray) : Bool := match s.size with | 11 => false | _ => true
theorem vc_join (t : Tb) (l : List ByteArray) : evFn (tabR t fun _ => true) ann0 Tryd.f27 (ct_join l) = ( (l.length ≤ 140737488355328 ∧ (Lib.join (List.map (fun (x : ByteArray) => x.data.toList) l) [(47 : UInt8)]).length ≤ 140737488355328) ∧ Into (K := KK) 0 [] [0] [VV.one (V1.c (C.slc 0 0 l.length none)),
 VV.one (V1.c (C.str (ByteArray.mk (#[(47 : UInt8)]))))] [Atom.ro Kd.str l] [VV.one (V1.c (C.slc 0 0 l.length none)), VV.one (V1.c (C.str (ByteArray.mk (#[(47 : UInt8)]))))] [Atom.ro Kd.str l] ∧ ∀ (y :
 Unit), True → EndsAs 1 (ct_join l) (VV.one (V1.c (C.str (ljoin l (ByteArray.mk (#[(47 : UInt8)])))))) [Atom.ro Kd.str l]) := by kernel_rfl
theorem vc_only (l : List Rl) (one up : Int) (t : Tb) (φ : Bag KK) : evFn (tabR t fun _ => true) (ann_only l one up φ) Tryd.f26 (ct_only l one up t φ) = ( Enter 2 (inv_only l one up φ) (fun (x : Nat) => True) ([VV.one (V1.c (C.slc 1 0 l.length none)), i64 one, i64 up, VV.any, VV.any, VV.any, VV.one (V1.c C.nilp), VV.one (V1.c (C.str (ByteArray.mk (#[])))),
 i64 (0 : Int)] ++ anys 54) [Atom.bag φ, Atom.ro Kd.rule l] ∧ ∀ (z : Nat), z ≤ l.length → ite2 (decide ((↑z : Int) < (↑l.length : Int))) (ite2 (decide ((0 : Int) < one)) (i64ok ((↑z : Int) + (1 : Int))
 ∧ ite2 (decide ((↑z : Int) + (1 : Int) = one)) (ite2 (decide (one = (0 : Int))) (i64ok ((↑z : Int) + (1 : Int)) ∧ ite2 (decide (up < (↑z : Int) + (1 : Int))) (i64ok ((↑z : Int) + (1 : Int)) ∧ Enter 2 (inv_only
 l one up φ) (fun (z' : Nat) => l.length - z' < l.length - z) ([VV.one (V1.c (C.slc 1 0 l.length none)), i64 one, i64 up, VV.any, VV.any, VV.any, VV.any, VV.one (V1.c (C.str (textB (onlyN l one up z)))),
 i64 ((↑z : Int) + (1 : Int))] ++ anys 54) [Atom.bag φ, Atom.ro Kd.rule l]) (Enter 2 (inv_take l one up φ (↑z : Int) (textB (onlyN l one up z))) (fun (x : Unit) => True) ([VV.one (V1.c (C.slc 1 0 l.length
 none)), i64 one, i64 up, VV.any, VV.any, VV.any, VV.any, VV.one (V1.c (C.str (textB (onlyN l one up z)))), i64 (↑z : Int)] ++ anys 54) [Atom.bag φ, Atom.ro Kd.rule l])) (Enter 2 (inv_take l one up φ (↑z
 : Int) (textB (onlyN l one up z))) (fun (x : Unit) => True) ([VV.one (V1.c (C.slc 1 0 l.length none)), i64 one, i64 up, VV.any, VV.any, VV.any, VV.any, VV.one (V1.c (C.str (textB (onlyN l one up z)))),
 i64 (↑z : Int)] ++ anys 54) [Atom.bag φ, Atom.ro Kd.rule l])) (i64ok ((↑z : Int) + (1 : Int)) ∧ Enter 2 (inv_only l one up φ) (fun (z' : Nat) => l.length - z' < l.length - z) ([VV.one (V1.c (C.slc 1 0
 l.length none)), i64 one, i64 up, VV.any, VV.any, VV.any, VV.any, VV.one (V1.c (C.str (textB (onlyN l one up z)))), i64 ((↑z : Int) + (1 : Int))] ++ anys 54) [Atom.bag φ, Atom.ro Kd.rule l])) (ite2 (decide
 (one = (0 : Int))) (i64ok ((↑z : Int) + (1 : Int)) ∧ ite2 (decide (up < (↑z : Int) + (1 : Int))) (i64ok ((↑z : Int) + (1 : Int)) ∧ Enter 2 (inv_only l one up φ) (fun (z' : Nat) => l.length - z' < l.length
 - z) ([VV.one (V1.c (C.slc 1 0 l.length none)), i64 one, i64 up, VV.any, VV.any, VV.any, VV.any, VV.one (V1.c (C.str (textB (onlyN l one up z)))), i64 ((↑z : Int) + (1 : Int))] ++ anys 54) [Atom.bag φ,
 Atom.ro Kd.rule l]) (Enter 2 (inv_take l one up φ (↑z : Int) (textB (onlyN l one up z))) (fun (x : Unit) => True) ([VV.one (V1.c (C.slc 1 0 l.length none)), i64 one, i64 up, VV.any, VV.any, VV.any, VV.any,
 VV.one (V1.c (C.str (textB (onlyN l one up z)))), i64 (↑z : Int)] ++ anys 54) [Atom.bag φ, Atom.ro Kd.rule l])) (Enter 2 (inv_take l one up φ (↑z : Int) (textB (onlyN l one up z))) (fun (x : Unit) => True)
 ([VV.one (V1.c (C.slc 1 0 l.length none)), i64 one, i64 up, VV.any, VV.any, VV.any, VV.any, VV.one (V1.c (C.str (textB (onlyN l one up z)))), i64 (↑z : Int)] ++ anys 54) [Atom.bag φ, Atom.ro Kd.rule l]))
 ∧ ∀ (z_1 : Unit), leftOut one up (↑z : Int).toNat = false → ite2 (decide ((textB (onlyN l one up z)).toList = (ByteArray.mk (#[])).toList)) (Enter 2 (inv_take l one up φ (↑z : Int) (sepB (textB (onlyN
 l one up z)))) (fun (x : Unit) => True) ([VV.one (V1.c (C.slc 1 0 l.length none)), i64 one, i64 up, VV.any, VV.any, VV.any, VV.any, VV.one (V1.c (C.str (textB (onlyN l one up z)))), i64 (↑z : Int)] ++
 anys 54) [Atom.bag φ, Atom.ro Kd.rule l]) ((textB (onlyN l one up z)).size + 1 ≤ 9223372036854775807 ∧ Enter 2 (inv_take l one up φ (↑z : Int) (sepB (textB (onlyN l one up z)))) (fun (x : Unit) => True)
 ([VV.one (V1.c (C.slc 1 0 l.length none)), i64 one, i64 up, VV.any, VV.any, VV.any, VV.any, VV.one (V1.c (C.str ((textB (onlyN l one up z)).append (ByteArray.mk (#[(10 : UInt8)]))))), i64 (↑z : Int)] ++
 anys 54) [Atom.bag φ, Atom.ro Kd.rule l]) ∧ ∀ (z_2 : Unit), leftOut one up (↑z : Int).toNat = false → ((0 : Int) ≤ (↑z : Int) ∧ (↑z : Int) < (↑l.length : Int)) ∧ (↑z : Int).toNat < l.length ∧ True ∧ (↑z
 : Int).toNat < l.length ∧ ((0 : Int) ≤ (↑z : Int) ∧ (↑z : Int) < (↑l.length : Int)) ∧ (↑z : Int).toNat < l.length ∧ True ∧ (↑z : Int).toNat < l.length ∧ True ∧ ((0 : Int) ≤ (rd l (↑z : Int).toNat (KK.dflt
 Kd.rule)).fst ∧ (rd l (↑z : Int).toNat (KK.dflt Kd.rule)).fst < (4 : Int)) ∧ (rd l (↑z : Int).toNat (KK.dflt Kd.rule)).fst.toNat < 4 ∧ True ∧ (rd l (↑z : Int).toNat (KK.dflt Kd.rule)).fst.toNat < 4 ∧ (sepB
 (textB (onlyN l one up z))).size + ByteArray.size (rd [(ByteArray.mk (#[])), (ByteArray.mk (#[(115 : UInt8), (107 : UInt8), (105 : UInt8), (112 : UInt8), (32 : UInt8)])), (ByteArray.mk (#[(112 : UInt8),
 (114 : UInt8), (101 : UInt8), (102 : UInt8), (101 : UInt8), (114 : UInt8), (32 : UInt8), (97 : UInt8), (32 : UInt8)])), (ByteArray.mk (#[(112 : UInt8), (114 : UInt8), (101 : UInt8), (102 : UInt8), (101
 : UInt8), (114 : UInt8), (32 : UInt8), (98 : UInt8), (32 : UInt8)]))] (rd l (↑z : Int).toNat (KK.dflt Kd.rule)).fst.toNat (ByteArray.mk (#[]))) ≤ 9223372036854775807 ∧ ((sepB (textB (onlyN l one up z))).append
 (rd [(ByteArray.mk (#[])), (ByteArray.mk (#[(115 : UInt8), (107 : UInt8), (105 : UInt8), (112 : UInt8), (32 : UInt8)])), (ByteArray.mk (#[(112 : UInt8), (114 : UInt8), (101 : UInt8), (102 : UInt8), (101
 : UInt8), (114 : UInt8), (32 : UInt8), (97 : UInt8), (32 : UInt8)])), (ByteArray.mk (#[(112 : UInt8), (114 : UInt8), (101 : UInt8), (102 : UInt8), (101 : UInt8), (114 : UInt8), (32 : UInt8), (98 : UInt8),
 (32 : UInt8)]))] (rd l (↑z : Int).toNat (KK.dflt Kd.rule)).fst.toNat (ByteArray.mk (#[])))).size + (rd l (↑z : Int).toNat (KK.dflt Kd.rule)).snd.size ≤ 9223372036854775807 ∧ ((((0 : Int) ≤ (↑z : Int) ∧
 (↑z : Int) < (↑l.length : Int)) ∧ (↑z : Int).toNat < l.length ∧ True ∧ VV.one (V1.c (C.ptr 1 (↑z : Int).toNat 0)) = VV.one (V1.c (C.ptr 1 (↑z : Int).toNat 0))) ∧ ((↑z : Int).toNat < l.length ∧ i64 (rd
 l (↑z : Int).toNat (KK.dflt Kd.rule)).fst = i64 (rd l (↑z : Int).toNat (KK.dflt Kd.rule)).fst) ∧ (((0 : Int) ≤ (↑z : Int) ∧ (↑z : Int) < (↑l.length : Int)) ∧ (↑z : Int).toNat < l.length ∧ True ∧ VV.one
 (V1.c (C.ptr 1 (↑z : Int).toNat 0)) = VV.one (V1.c (C.ptr 1 (↑z : Int).toNat 0))) ∧ ((↑z : Int).toNat < l.length ∧ VV.one (V1.c (C.str (rd l (↑z : Int).toNat (KK.dflt Kd.rule)).snd)) = VV.one (V1.c (C.str
 (rd l (↑z : Int).toNat (KK.dflt Kd.rule)).snd))) ∧ True) ∧ True ∧ i64ok ((↑z : Int) + (1 : Int)) ∧ Enter 2 (inv_only l one up φ) (fun (z' : Nat) => l.length - z' < l.length - z) ([VV.one (V1.c (C.slc 1
 0 l.length none)), i64 one, i64 up, VV.any, VV.any, VV.any, VV.any, VV.one (V1.c (C.str (((sepB (textB (onlyN l one up z))).append (rd [(ByteArray.mk (#[])), (ByteArray.mk (#[(115 : UInt8), (107 : UInt8),
 (105 : UInt8), (112 : UInt8), (32 : UInt8)])), (ByteArray.mk (#[(112 : UInt8), (114 : UInt8), (101 : UInt8), (102 : UInt8), (101 : UInt8), (114 : UInt8), (32 : UInt8), (97 : UInt8), (32 : UInt8)])), (ByteArray.mk
 (#[(112 : UInt8), (114 : UInt8), (101 : UInt8), (102 : UInt8), (101 : UInt8), (114 : UInt8), (32 : UInt8), (98 : UInt8), (32 : UInt8)]))] (rd l (↑z : Int).toNat (KK.dflt Kd.rule)).fst.toNat (ByteArray.mk
 (#[])))).append (rd l (↑z : Int).toNat (KK.dflt Kd.rule)).snd))), i64 ((↑z : Int) + (1 : Int))] ++ anys 54) [Atom.bag φ, Atom.ro Kd.rule l, Atom.arr Kd.str [(ByteArray.mk (#[])), (ByteArray.mk (#[(115
 : UInt8), (107 : UInt8), (105 : UInt8), (112 : UInt8), (32 : UInt8)])), (ByteArray.mk (#[(112 : UInt8), (114 : UInt8), (101 : UInt8), (102 : UInt8), (101 : UInt8), (114 : UInt8), (32 : UInt8), (97 : UInt8),
 (32 : UInt8)])), (ByteArray.mk (#[(112 : UInt8), (114 : UInt8), (101 : UInt8), (102 : UInt8), (101 : UInt8), (114 : UInt8), (32 : UInt8), (98 : UInt8), (32 : UInt8)]))]]) (((textB (onlyN l one up z)).size
 ≤ 1000000 ∧ HasT t φ ∧ isGood (parseB (textB (onlyN l one up z))) = true) ∧ Into (K := KK) 0 [] [0] [VV.one (V1.c (C.str (textB (onlyN l one up z))))] [Atom.bag φ, Atom.ro Kd.rule l] [VV.one (V1.c (C.str
 (textB (onlyN l one up z))))] [Atom.bag φ] ∧ ∀ (y : Bag KK × List Ln), Ext φ y.fst ∧ (true = true → GoodL y.fst y.snd ∧ LL y.snd = goodOf (parseB (textB (onlyN l one up z)))) → EndsAs 2 (ct_only l one
 up t φ) (VV.one (V1.c (C.ptr 2 0 0))) [Atom.bag y.fst, Atom.ro Kd.rule l, Atom.cells 67 [C.slc 3 0 y.snd.length none], Atom.arr Kd.line y.snd])) := by kernel_rfl
theorem vc_known (t : Tb) (φ : Bag KK) : evFn (tabR t gK) ann0 Tryd.f22 (ct_known t φ) = ( (47 ≤ 1000000 ∧ HasT t φ ∧ true = true) ∧ Into (K := KK) 0 [] [0] [VV.one (V1.c (C.str (ByteArray.mk (#[(115 : UInt8), (107 : UInt8), (105 : UInt8), (112 : UInt8), (32 : UInt8), (42 : UInt8), (46 : UInt8),
 (111 : UInt8), (10 : UInt8), (10 : UInt8), (35 : UInt8), (32 : UInt8), (109 : UInt8), (105 : UInt8), (110 : UInt8), (101 : UInt8), (10 : UInt8), (112 : UInt8), (114 : UInt8), (101 : UInt8), (102 : UInt8),
 (101 : UInt8), (114 : UInt8), (32 : UInt8), (97 : UInt8), (32 : UInt8), (47 : UInt8), (100 : UInt8), (111 : UInt8), (99 : UInt8), (47 : UInt8), (42 : UInt8), (42 : UInt8), (10 : UInt8), (112 : UInt8),
 (114 : UInt8), (101 : UInt8), (102 : UInt8), (101 : UInt8), (114 : UInt8), (32 : UInt8), (98 : UInt8), (32 : UInt8), (42 : UInt8), (46 : UInt8), (109 : UInt8), (100 : UInt8)]))))] [Atom.bag φ] [VV.one
 (V1.c (C.str (ByteArray.mk (#[(115 : UInt8), (107 : UInt8), (105 : UInt8), (112 : UInt8), (32 : UInt8), (42 : UInt8), (46 : UInt8), (111 : UInt8), (10 : UInt8), (10 : UInt8), (35 : UInt8), (32 : UInt8),
 (109 : UInt8), (105 : UInt8), (110 : UInt8), (101 : UInt8), (10 : UInt8), (112 : UInt8), (114 : UInt8), (101 : UInt8), (102 : UInt8), (101 : UInt8), (114 : UInt8), (32 : UInt8), (97 : UInt8), (32 : UInt8),
 (47 : UInt8), (100 : UInt8), (111 : UInt8), (99 : UInt8), (47 : UInt8), (42 : UInt8), (42 : UInt8), (10 : UInt8), (112 : UInt8), (114 : UInt8), (101 : UInt8), (102 : UInt8), (101 : UInt8), (114 : UInt8),
 (32 : UInt8), (98 : UInt8), (32 : UInt8), (42 : UInt8), (46 : UInt8), (109 : UInt8), (100 : UInt8)]))))] [Atom.bag φ] ∧ ∀ (y : Bag KK × List Ln), Ext φ y.fst ∧ (true = true → GoodL y.fst y.snd ∧ LL y.snd
 = goodOf (parseB (ByteArray.mk (#[(115 : UInt8), (107 : UInt8), (105 : UInt8), (112 : UInt8), (32 : UInt8), (42 : UInt8), (46 : UInt8), (111 : UInt8), (10 : UInt8), (10 : UInt8), (35 : UInt8), (32 : UInt8),
 (109 : UInt8), (105 : UInt8), (110 : UInt8), (101 : UInt8), (10 : UInt8), (112 : UInt8), (114 : UInt8), (101 : UInt8), (102 : UInt8), (101 : UInt8), (114 : UInt8), (32 : UInt8), (97 : UInt8), (32 : UInt8),
 (47 : UInt8), (100 : UInt8), (111 : UInt8), (99 : UInt8), (47 : UInt8), (42 : UInt8), (42 : UInt8), (10 : UInt8), (112 : UInt8), (114 : UInt8), (101 : UInt8), (102 : UInt8), (101 : UInt8), (114 : UInt8),
 (32 : UInt8), (98 : UInt8), (32 : UInt8), (42 : UInt8), (46 : UInt8), (109 : UInt8), (100 : UInt8)])))) → y.snd.length ≤ 1000 ∧ Into (K := KK) 0 [] [0, 1, 2] [VV.one (V1.c (C.ptr 1 0 0))] [Atom.bag y.fst,
 Atom.cells 67 [C.slc 2 0 y.snd.length none], Atom.arr Kd.line y.snd] [VV.one (V1.c (C.ptr 1 0 0))] [Atom.bag y.fst, Atom.cells 67 [C.slc 2 0 y.snd.length none], Atom.arr Kd.line y.snd] ∧ ∀ (y_1 : Unit),
 True → ite2 (decide ((↑(LL y.snd).length : Int) = (3 : Int))) ((HasT t y.fst ∧ (∀ (x : Int × ByteArray × Nat), List.Mem x y.snd → (1 : Int) ≤ x.fst ∧ x.fst ≤ (3 : Int)) ∧ y.snd.length ≤ 1000 ∧ lsum (LL
 y.snd) ≤ 1000000) ∧ Into (K := KK) 0 [] [0, 1, 2] [VV.one (V1.c (C.ptr 1 0 0))] [Atom.bag y.fst, Atom.cells 67 [C.slc 2 0 y.snd.length none], Atom.arr Kd.line y.snd, Atom.arr Kd.rule (LL y.snd)] [VV.one
 (V1.c (C.ptr 1 0 0))] [Atom.bag y.fst, Atom.cells 67 [C.slc 2 0 y.snd.length none], Atom.arr Kd.line y.snd] ∧ ∀ (y_2 : Unit), True → ite2 (decide ((textB (LL y.snd)).toList = (ByteArray.mk (#[(115 : UInt8),
 (107 : UInt8), (105 : UInt8), (112 : UInt8), (32 : UInt8), (42 : UInt8), (46 : UInt8), (111 : UInt8), (10 : UInt8), (112 : UInt8), (114 : UInt8), (101 : UInt8), (102 : UInt8), (101 : UInt8), (114 : UInt8),
 (32 : UInt8), (97 : UInt8), (32 : UInt8), (47 : UInt8), (100 : UInt8), (111 : UInt8), (99 : UInt8), (47 : UInt8), (42 : UInt8), (42 : UInt8), (10 : UInt8), (112 : UInt8), (114 : UInt8), (101 : UInt8),
 (102 : UInt8), (101 : UInt8), (114 : UInt8), (32 : UInt8), (98 : UInt8), (32 : UInt8), (42 : UInt8), (46 : UInt8), (109 : UInt8), (100 : UInt8)])).toList)) ((11 ≤ 1000000 ∧ HasT t y.fst ∧ false = false)
 ∧ Into (K := KK) 0 [] [0] [VV.one (V1.c (C.str (ByteArray.mk (#[(10 : UInt8), (112 : UInt8), (114 : UInt8), (101 : UInt8), (102 : UInt8), (101 : UInt8), (114 : UInt8), (32 : UInt8), (99 : UInt8), (32 :
 UInt8), (120 : UInt8)]))))] [Atom.bag y.fst, Atom.cells 67 [C.slc 2 0 y.snd.length none], Atom.arr Kd.line y.snd, Atom.arr Kd.rule (LL y.snd)] [VV.one (V1.c (C.str (ByteArray.mk (#[(10 : UInt8), (112 :
 UInt8), (114 : UInt8), (101 : UInt8), (102 : UInt8), (101 : UInt8), (114 : UInt8), (32 : UInt8), (99 : UInt8), (32 : UInt8), (120 : UInt8)]))))] [Atom.bag y.fst] ∧ ∀ (y_3 : Bag KK × List Ln), Ext y.fst
 y_3.fst ∧ (false = true → GoodL y_3.fst y_3.snd ∧ LL y_3.snd = goodOf (parseB (ByteArray.mk (#[(10 : UInt8), (112 : UInt8), (114 : UInt8), (101 : UInt8), (102 : UInt8), (101 : UInt8), (114 : UInt8), (32
 : UInt8), (99 : UInt8), (32 : UInt8), (120 : UInt8)])))) → (GoodL y_3.fst y.snd ∧ 5 ≤ 1000000000 ∧ y.snd.length ≤ 1000) ∧ Into (K := KK) 0 [] [0, 1, 2] [VV.one (V1.c (C.ptr 1 0 0)), VV.one (V1.c (C.str
 (ByteArray.mk (#[(120 : UInt8), (47 : UInt8), (121 : UInt8), (46 : UInt8), (111 : UInt8)]))))] [Atom.bag y_3.fst, Atom.cells 67 [C.slc 2 0 y.snd.length none], Atom.arr Kd.line y.snd, Atom.arr Kd.rule (LL
 y.snd)] [VV.one (V1.c (C.ptr 1 0 0)), VV.one (V1.c (C.str (ByteArray.mk (#[(120 : UInt8), (47 : UInt8), (121 : UInt8), (46 : UInt8), (111 : UInt8)]))))] [Atom.bag y_3.fst, Atom.cells 67 [C.slc 2 0 y.snd.length
 none], Atom.arr Kd.line y.snd] ∧ ∀ (y_4 : Unit), True → ite2 (skipB (LL y.snd) (ByteArray.mk (#[(120 : UInt8), (47 : UInt8), (121 : UInt8), (46 : UInt8), (111 : UInt8)]))) ((GoodL y_3.fst y.snd ∧ 7 ≤ 1000000000
 ∧ y.snd.length ≤ 1000) ∧ Into (K := KK) 0 [] [0, 1, 2] [VV.one (V1.c (C.ptr 1 0 0)), VV.one (V1.c (C.str (ByteArray.mk (#[(120 : UInt8), (47 : UInt8), (121 : UInt8), (46 : UInt8), (111 : UInt8), (47 :
 UInt8), (122 : UInt8)]))))] [Atom.bag y_3.fst, Atom.cells 67 [C.slc 2 0 y.snd.length none], Atom.arr Kd.line y.snd, Atom.arr Kd.rule (LL y.snd)] [VV.one (V1.c (C.ptr 1 0 0)), VV.one (V1.c (C.str (ByteArray.mk
 (#[(120 : UInt8), (47 : UInt8), (121 : UInt8), (46 : UInt8), (111 : UInt8), (47 : UInt8), (122 : UInt8)]))))] [Atom.bag y_3.fst, Atom.cells 67 [C.slc 2 0 y.snd.length none], Atom.arr Kd.line y.snd] ∧ ∀
 (y_5 : Unit), True → ite2 (skipB (LL y.snd) (ByteArray.mk (#[(120 : UInt8), (47 : UInt8), (121 : UInt8), (46 : UInt8), (111 : UInt8), (47 : UInt8), (122 : UInt8)]))) ((GoodL y_3.fst y.snd ∧ 1 ≤ 1000000000
 ∧ y.snd.length ≤ 1000) ∧ Into (K := KK) 0 [] [0, 1, 2] [VV.one (V1.c (C.ptr 1 0 0)), VV.one (V1.c (C.str (ByteArray.mk (#[(120 : UInt8)]))))] [Atom.bag y_3.fst, Atom.cells 67 [C.slc 2 0 y.snd.length none],
 Atom.arr Kd.line y.snd, Atom.arr Kd.rule (LL y.snd)] [VV.one (V1.c (C.ptr 1 0 0)), VV.one (V1.c (C.str (ByteArray.mk (#[(120 : UInt8)]))))] [Atom.bag y_3.fst, Atom.cells 67 [C.slc 2 0 y.snd.length none],
 Atom.arr Kd.line y.snd] ∧ ∀ (y_6 : Unit), True → ite2 (skipB (LL y.snd) (ByteArray.mk (#[(120 : UInt8)]))) (EndsAs 1 (ct_known t φ) (boolv false) [Atom.bag y_3.fst, Atom.cells 67 [C.slc 2 0 y.snd.length
 none], Atom.arr Kd.line y.snd, Atom.arr Kd.rule (LL y.snd)]) ((GoodL y_3.fst y.snd ∧ 0 ≤ 1000000000 ∧ y.snd.length ≤ 1000) ∧ Into (K := KK) 0 [] [0, 1, 2] [VV.one (V1.c (C.ptr 1 0 0)), VV.one (V1.c (C.str
 (ByteArray.mk (#[]))))] [Atom.bag y_3.fst, Atom.cells 67 [C.slc 2 0 y.snd.length none], Atom.arr Kd.line y.snd, Atom.arr Kd.rule (LL y.snd)] [VV.one (V1.c (C.ptr 1 0 0)), VV.one (V1.c (C.str (ByteArray.mk
 (#[]))))] [Atom.bag y_3.fst, Atom.cells 67 [C.slc 2 0 y.snd.length none], Atom.arr Kd.line y.snd] ∧ ∀ (y_7 : Unit), True → (GoodL y_3.fst y.snd ∧ 7 ≤ 1000000000 ∧ y.snd.length ≤ 1000) ∧ Into (K := KK)
 0 [] [0, 1, 2] [VV.one (V1.c (C.ptr 1 0 0)), VV.one (V1.c (C.str (ByteArray.mk (#[(120 : UInt8), (47 : UInt8), (121 : UInt8), (46 : UInt8), (111 : UInt8), (47 : UInt8), (122 : UInt8)]))))] [Atom.bag y_3.fst,
 Atom.cells 67 [C.slc 2 0 y.snd.length none], Atom.arr Kd.line y.snd, Atom.arr Kd.rule (LL y.snd)] [VV.one (V1.c (C.ptr 1 0 0)), VV.one (V1.c (C.str (ByteArray.mk (#[(120 : UInt8), (47 : UInt8), (121 :
 UInt8), (46 : UInt8), (111 : UInt8), (47 : UInt8), (122 : UInt8)]))))] [Atom.bag y_3.fst, Atom.cells 67 [C.slc 2 0 y.snd.length none], Atom.arr Kd.line y.snd] ∧ ∀ (y_8 : Unit), True → (GoodL y_3.fst y.snd
 ∧ 8 ≤ 1000000000 ∧ y.snd.length ≤ 1000) ∧ Into (K := KK) 0 [] [0, 1, 2] [VV.one (V1.c (C.ptr 1 0 0)), VV.one (V1.c (C.str (ByteArray.mk (#[(100 : UInt8), (111 : UInt8), (99 : UInt8), (47 : UInt8), (97
 : UInt8), (46 : UInt8), (109 : UInt8), (100 : UInt8)]))))] [Atom.bag y_3.fst, Atom.cells 67 [C.slc 2 0 y.snd.length none], Atom.arr Kd.line y.snd, Atom.arr Kd.rule (LL y.snd)] [VV.one (V1.c (C.ptr 1 0
 0)), VV.one (V1.c (C.str (ByteArray.mk (#[(100 : UInt8), (111 : UInt8), (99 : UInt8), (47 : UInt8), (97 : UInt8), (46 : UInt8), (109 : UInt8), (100 : UInt8)]))))] [Atom.bag y_3.fst, Atom.cells 67 [C.slc
 2 0 y.snd.length none], Atom.arr Kd.line y.snd] ∧ ∀ (y_9 : Unit), True → ite2 (decide ((whyB (LL y.snd) (ByteArray.mk (#[(120 : UInt8), (47 : UInt8), (121 : UInt8), (46 : UInt8), (111 : UInt8), (47 : UInt8),
 (122 : UInt8)]))).fst = (1 : Int))) (ite2 (decide ((whyB (LL y.snd) (ByteArray.mk (#[(120 : UInt8), (47 : UInt8), (121 : UInt8), (46 : UInt8), (111 : UInt8), (47 : UInt8), (122 : UInt8)]))).snd = (0 :
 Int))) (ite2 (decide ((whyB (LL y.snd) (ByteArray.mk (#[(100 : UInt8), (111 : UInt8), (99 : UInt8), (47 : UInt8), (97 : UInt8), (46 : UInt8), (109 : UInt8), (100 : UInt8)]))).fst = (0 : Int))) (ite2 (decide
 ((whyB (LL y.snd) (ByteArray.mk (#[(100 : UInt8), (111 : UInt8), (99 : UInt8), (47 : UInt8), (97 : UInt8), (46 : UInt8), (109 : UInt8), (100 : UInt8)]))).snd = (3 : Int))) ((GoodL y_3.fst y.snd ∧ 9 ≤ 1000000000
 ∧ y.snd.length ≤ 1000) ∧ Into (K := KK) 0 [] [0, 1, 2] [VV.one (V1.c (C.ptr 1 0 0)), VV.one (V1.c (C.str (ByteArray.mk (#[(100 : UInt8), (111 : UInt8), (99 : UInt8), (47 : UInt8), (97 : UInt8), (46 : UInt8),
 (116 : UInt8), (120 : UInt8), (116 : UInt8)]))))] [Atom.bag y_3.fst, Atom.cells 67 [C.slc 2 0 y.snd.length none], Atom.arr Kd.line y.snd, Atom.arr Kd.rule (LL y.snd)] [VV.one (V1.c (C.ptr 1 0 0)), VV.one
 (V1.c (C.str (ByteArray.mk (#[(100 : UInt8), (111 : UInt8), (99 : UInt8), (47 : UInt8), (97 : UInt8), (46 : UInt8), (116 : UInt8), (120 : UInt8), (116 : UInt8)]))))] [Atom.bag y_3.fst, Atom.cells 67 [C.slc
 2 0 y.snd.length none], Atom.arr Kd.line y.snd] ∧ ∀ (y_10 : Unit), True → ite2 (decide (preferB (LL y.snd) (ByteArray.mk (#[(100 : UInt8), (111 : UInt8), (99 : UInt8), (47 : UInt8), (97 : UInt8), (46 :
 UInt8), (116 : UInt8), (120 : UInt8), (116 : UInt8)])) = (1 : Int))) ((GoodL y_3.fst y.snd ∧ 8 ≤ 1000000000 ∧ y.snd.length ≤ 1000) ∧ Into (K := KK) 0 [] [0, 1, 2] [VV.one (V1.c (C.ptr 1 0 0)), VV.one (V1.c
 (C.str (ByteArray.mk (#[(100 : UInt8), (111 : UInt8), (99 : UInt8), (47 : UInt8), (97 : UInt8), (46 : UInt8), (109 : UInt8), (100 : UInt8)]))))] [Atom.bag y_3.fst, Atom.cells 67 [C.slc 2 0 y.snd.length
 none], Atom.arr Kd.line y.snd, Atom.arr Kd.rule (LL y.snd)] [VV.one (V1.c (C.ptr 1 0 0)), VV.one (V1.c (C.str (ByteArray.mk (#[(100 : UInt8), (111 : UInt8), (99 : UInt8), (47 : UInt8), (97 : UInt8), (46
 : UInt8), (109 : UInt8), (100 : UInt8)]))))] [Atom.bag y_3.fst, Atom.cells 67 [C.slc 2 0 y.snd.length none], Atom.arr Kd.line y.snd] ∧ ∀ (y_11 : Unit), True → ite2 (decide (preferB (LL y.snd) (ByteArray.mk
 (#[(100 : UInt8), (111 : UInt8), (99 : UInt8), (47 : UInt8), (97 : UInt8), (46 : UInt8), (109 : UInt8), (100 : UInt8)])) = (2 : Int))) ((GoodL y_3.fst y.snd ∧ 6 ≤ 1000000000 ∧ y.snd.length ≤ 1000) ∧ Into
 (K := KK) 0 [] [0, 1, 2] [VV.one (V1.c (C.ptr 1 0 0)), VV.one (V1.c (C.str (ByteArray.mk (#[(120 : UInt8), (47 : UInt8), (97 : UInt8), (46 : UInt8), (109 : UInt8), (100 : UInt8)]))))] [Atom.bag y_3.fst,
 Atom.cells 67 [C.slc 2 0 y.snd.length none], Atom.arr Kd.line y.snd, Atom.arr Kd.rule (LL y.snd)] [VV.one (V1.c (C.ptr 1 0 0)), VV.one (V1.c (C.str (ByteArray.mk (#[(120 : UInt8), (47 : UInt8), (97 : UInt8),
 (46 : UInt8), (109 : UInt8), (100 : UInt8)]))))] [Atom.bag y_3.fst, Atom.cells 67 [C.slc 2 0 y.snd.length none], Atom.arr Kd.line y.snd] ∧ ∀ (y_12 : Unit), True → ite2 (decide (preferB (LL y.snd) (ByteArray.mk
 (#[(120 : UInt8), (47 : UInt8), (97 : UInt8), (46 : UInt8), (109 : UInt8), (100 : UInt8)])) = (2 : Int))) ((GoodL y_3.fst y.snd ∧ 1 ≤ 1000000000 ∧ y.snd.length ≤ 1000) ∧ Into (K := KK) 0 [] [0, 1, 2] [VV.one
 (V1.c (C.ptr 1 0 0)), VV.one (V1.c (C.str (ByteArray.mk (#[(120 : UInt8)]))))] [Atom.bag y_3.fst, Atom.cells 67 [C.slc 2 0 y.snd.length none], Atom.arr Kd.line y.snd, Atom.arr Kd.rule (LL y.snd)] [VV.one
 (V1.c (C.ptr 1 0 0)), VV.one (V1.c (C.str (ByteArray.mk (#[(120 : UInt8)]))))] [Atom.bag y_3.fst, Atom.cells 67 [C.slc 2 0 y.snd.length none], Atom.arr Kd.line y.snd] ∧ ∀ (y_13 : Unit), True → ite2 (decide
 (preferB (LL y.snd) (ByteArray.mk (#[(120 : UInt8)])) = (0 : Int))) (EndsAs 1 (ct_known t φ) (VV.one (V1.c (C.bool true))) [Atom.bag y_3.fst, Atom.cells 67 [C.slc 2 0 y.snd.length none], Atom.arr Kd.line
 y.snd, Atom.arr Kd.rule (LL y.snd)]) (EndsAs 1 (ct_known t φ) (VV.one (V1.c (C.bool false))) [Atom.bag y_3.fst, Atom.cells 67 [C.slc 2 0 y.snd.length none], Atom.arr Kd.line y.snd, Atom.arr Kd.rule (LL
 y.snd)])) (EndsAs 1 (ct_known t φ) (VV.one (V1.c (C.bool false))) [Atom.bag y_3.fst, Atom.cells 67 [C.slc 2 0 y.snd.length none], Atom.arr Kd.line y.snd, Atom.arr Kd.rule (LL y.snd)])) (EndsAs 1 (ct_known
 t φ) (boolv false) [Atom.bag y_3.fst, Atom.cells 67 [C.slc 2 0 y.snd.length none], Atom.arr Kd.line y.snd, Atom.arr Kd.rule (LL y.snd)])) (EndsAs 1 (ct_known t φ) (boolv false) [Atom.bag y_3.fst, Atom.cells
 67 [C.slc 2 0 y.snd.length none], Atom.arr Kd.line y.snd, Atom.arr Kd.rule (LL y.snd)])) (EndsAs 1 (ct_known t φ) (boolv false) [Atom.bag y_3.fst, Atom.cells 67 [C.slc 2 0 y.snd.length none], Atom.arr
 Kd.line y.snd, Atom.arr Kd.rule (LL y.snd)])) (EndsAs 1 (ct_known t φ) (boolv false) [Atom.bag y_3.fst, Atom.cells 67 [C.slc 2 0 y.snd.length none], Atom.arr Kd.line y.snd, Atom.arr Kd.rule (LL y.snd)]))
 (EndsAs 1 (ct_known t φ) (boolv false) [Atom.bag y_3.fst, Atom.cells 67 [C.slc 2 0 y.snd.length none], Atom.arr Kd.line y.snd, Atom.arr Kd.rule (LL y.snd)])) (EndsAs 1 (ct_known t φ) (boolv false) [Atom.bag
 y_3.fst, Atom.cells 67 [C.slc 2 0 y.snd.length none], Atom.arr Kd.line y.snd, Atom.arr Kd.rule (LL y.snd)]))) (EndsAs 1 (ct_known t φ) (boolv false) [Atom.bag y_3.fst, Atom.cells 67 [C.slc 2 0 y.snd.length
 none], Atom.arr Kd.line y.snd, Atom.arr Kd.rule (LL y.snd)])) (EndsAs 1 (ct_known t φ) (boolv false) [Atom.bag y_3.fst, Atom.cells 67 [C.slc 2 0 y.snd.length none], Atom.arr Kd.line y.snd, Atom.arr Kd.rule
 (LL y.snd)])) (EndsAs 1 (ct_known t φ) (boolv false) [Atom.bag y.fst, Atom.cells 67 [C.slc 2 0 y.snd.length none], Atom.arr Kd.line y.snd, Atom.arr Kd.rule (LL y.snd)])) (EndsAs 1 (ct_known t φ) (boolv
 false) [Atom.bag y.fst, Atom.cells 67 [C.slc 2 0 y.snd.length none], Atom.arr Kd.line y.snd, Atom.arr Kd.rule (LL y.snd)])) := by kernel_rfl
theorem join_ok (t : Tb) (l : List ByteArray) : CtOk Tryd.prog 27 (ct_join l) := CtOk_of KK_ok (tabR t fun _ => true) ann0 (fn := Tryd.f27) rfl (fun _ _ => rfl) fun hn => by
  obtain ⟨h1, h2⟩ := hn
  rw [vc_join]
  exact ⟨⟨by omega, Nat.le_trans h2 (by decide)⟩, into_mk (by kernel_rfl) (by (repeat' first | exact trivial | exact rfl | apply And.intro)) (by (repeat' first | exact trivial | exact rfl | apply And.intro)), fun _ _ => ⟨(), [], [0], trivial, by (repeat' first | exact trivial | exact rfl | apply And.intro)⟩⟩
theorem kinds_of {xs : List Ln} (h : Wf (LL xs)) : ∀ x ∈ xs, 1 ≤ x.1 ∧ x.1 ≤ 3 := fun x hx => by
  have h1 := (h (rl x) (List.mem_map_of_mem hx)).1
  have h2 : (rl x).1 = x.1 := rfl
  rw [h2] at h1
  omega
theorem join_snoc : ∀ (xs : List (List UInt8)) (x : List UInt8), xs ≠ [] → Lib.join (xs ++ [x]) [10] = Lib.join xs [10] ++ 10 :: x
  | [], _, h => absurd rfl h
  | [a], x, _ => by
    show Lib.join (a :: x :: []) [10] = _
    rw [join_cons, Lib.join_one, Lib.join_one]
  | a :: b :: t, x, _ => by
    show Lib.join (a :: b :: (t ++ [x])) [10] = _
    rw [join_cons, join_cons]
    have := join_snoc (b :: t) x (by simp)
    rw [List.cons_append] at this
    rw [this]
    simp
theorem lsum_snoc (m : List Rl) (r : Rl) : lsum (m ++ [r]) = lsum m + ((lineL r).length + 1) := by
  unfold lsum
  simp
theorem text_empty (m : List Rl) : (textB m).toList = (ByteArray.mk #[]).toList ↔ m = [] := by
  constructor
  · intro h
    have h0 := size_of_toList0 h
    have h1 := text_size m
    cases m with
    | nil => rfl
    | cons r t =>
      exfalso
      have h2 : 0 < (lineL r).length := by
        have := (hd_head r.1 r.2.data.toList).1
        unfold lineL
        exact List.length_pos_iff.2 this
      have h3 : lsum (r :: t) = (lineL r).length + 1 + lsum t := by unfold lsum; simp
      omega
  · rintro rfl; rfl
theorem sep_text (m : List Rl) : sepB (textB m) = if m = [] then textB m else (textB m).append ⟨#[10]⟩ := by
  unfold sepB
  by_cases h : m = []
  · rw [if_pos h, if_pos ((text_empty m).2 h)]
  · rw [if_neg h, if_neg (fun e => h ((text_empty m).1 e))]
theorem text_snoc (m : List Rl) (r : Rl) : ((sepB (textB m)).append ⟨(R.hd r.1).toArray⟩).append r.2 = textB (m ++ [r]) := by
  rw [sep_text, app_tx, app_tx, tx_list]
  unfold textB
  rw [List.map_append, List.map_cons, List.map_nil]
  by_cases h : m = []
  · subst h
    rw [if_pos rfl]
    show tx ((tx []).data.toList ++ (R.hd r.1) ++ r.2.data.toList) = tx (Lib.join [lineL r] [10])
    rw [tx_list, Lib.join_one]
    rfl
  · rw [if_neg h, app_tx, tx_list, tx_list, join_snoc _ _ (fun e => h (List.map_eq_nil_iff.1 e))]
    unfold lineL
    simp
theorem app_size (a b : ByteArray) : (a.append b).size = a.size + b.size := by
  rw [app_tx, tx_size]
  simp
theorem only_mem {l : List Rl} {one up : Int} : ∀ {i : Nat}, i ≤ l.length → ∀ r ∈ onlyN l one up i, r ∈ l
  | 0, _, r, h => by simp [onlyN] at h
  | i + 1, hi, r, h => by
    rw [onlyN] at h
    split at h
    · exact only_mem (by omega) r h
    · rcases List.mem_append.1 h with h | h
      · exact only_mem (by omega) r h
      · simp only [List.mem_singleton] at h
        subst h
        exact rd_in l i _ (by omega)
theorem only_sum {l : List Rl} {one up : Int} : ∀ {i : Nat}, i ≤ l.length → lsum (onlyN l one up i) ≤ lsum (l.take i) ∧ (onlyN l one up i).length ≤ i
  | 0, _ => by simp [onlyN, lsum]
  | i + 1, hi => by
    obtain ⟨h1, h2⟩ := only_sum (l := l) (one := one) (up := up) (i := i) (by omega)
    have e := rdR_get (l := l) ((0 : Int), ByteArray.empty) (show i < l.length by omega)
    rw [onlyN, e, lsum_snoc]
    split
    · exact ⟨by omega, by omega⟩
    · rw [lsum_snoc]
      exact ⟨by have : l.getD i ((0 : Int), ByteArray.empty) = rd l i ((0 : Int), ByteArray.empty) := rfl
                rw [this]; omega, by simp; omega⟩
theorem lsum_take (l : List Rl) (i : Nat) : lsum (l.take i) ≤ lsum l := by
  conv => rhs; rw [← List.take_append_drop i l]
  unfold lsum
  rw [List.map_append, List.sum_append]
  omega
theorem only_ok (l : List Rl) (one up : Int) (t : Tb) (φ : Bag KK) : CtOk Tryd.prog 26 (ct_only l one up t φ) := CtOk_of KK_ok (tabR t fun _ => true) (ann_only l one up φ) (fn := Tryd.f26) rfl (fun _ _ => rfl) fun hn => by
  obtain ⟨ht, hw, hl, hsum, ⟨ho1, ho2⟩, hu1, hu2⟩ := hn
  rw [vc_only]
  simp only [Int.toNat_natCast]
  refine ⟨⟨(0 : Nat), [], [0, 1], Nat.zero_le _, trivial, into_mk (by kernel_rfl) (by (repeat' first | exact trivial | exact rfl | apply And.intro)) (by (repeat' first | exact trivial | exact rfl | apply And.intro))⟩, ?_⟩
  intro i hi
  have hi : i ≤ l.length := hi
  have hsm := (only_sum (one := one) (up := up) hi).1
  have hst := lsum_take l i
  have htz := text_size (onlyN l one up i)
  refine ite2_decide (fun hl1 => ?_) (fun hl1 => ?_)
  · have hl2 : i < l.length := by omega
    have io : i64ok ((i : Int) + 1) := by unfold i64ok; omega
    have me : l.length - (i + 1) < l.length - i := by omega
    have skip : leftOut one up i = true → i64ok ((i : Int) + 1) ∧ Enter 2 (inv_only l one up φ) (fun (z' : Nat) => l.length - z' < l.length - i) ((inv_only l one up φ).fr (i : Nat) |>.set 8 (i64 ((i : Int) + 1))) [.bag φ, .ro Kd.rule l] := fun h => by
      have hq1 : textB (onlyN l one up i) = textB (onlyN l one up (i + 1)) := by rw [onlyN, if_pos h]
      exact ⟨io, (i + 1 : Nat), [], [0, 1], hl2, me, into_mk (by kernel_rfl) (by (repeat' first | exact trivial | exact rfl | exact hq1 | apply And.intro)) (by (repeat' first | exact trivial | exact rfl | apply And.intro))⟩
    have skip2 : leftOut one up i = true → (i + 1 ≤ l.length) ∧ textB (onlyN l one up i) = textB (onlyN l one up (i + 1)) := fun h => ⟨hl2, by rw [onlyN, if_pos h]⟩
    refine ⟨?_, ?_⟩
    · refine ite2_decide (fun h1 => ⟨io, ite2_decide (fun h2 => ite2_decide (fun h3 => by omega) (fun h3 => ?_)) (fun h2 => ?_)⟩) (fun h1 => ite2_decide (fun h3 => ⟨io, ite2_decide (fun h4 => ?_) (fun h4 => ?_)⟩) (fun h3 => by omega))
      · exact ⟨(), [], [0, 1], by simp [inv_take, leftOut, h2, h3], trivial, into_mk (by kernel_rfl) (by (repeat' first | exact trivial | exact rfl | apply And.intro)) (by (repeat' first | exact trivial | exact rfl | apply And.intro))⟩
      · have hlo : leftOut one up i = true := by simp [leftOut, h1, h2]
        obtain ⟨_, hq1⟩ := skip2 hlo
        exact ⟨io, (i + 1 : Nat), [], [0, 1], hl2, me, into_mk (by kernel_rfl) (by (repeat' first | exact trivial | exact rfl | exact hq1 | apply And.intro)) (by (repeat' first | exact trivial | exact rfl | apply And.intro))⟩
      · have hlo : leftOut one up i = true := by simp [leftOut, h3, h4]
        obtain ⟨_, hq1⟩ := skip2 hlo
        exact ⟨io, (i + 1 : Nat), [], [0, 1], hl2, me, into_mk (by kernel_rfl) (by (repeat' first | exact trivial | exact rfl | exact hq1 | apply And.intro)) (by (repeat' first | exact trivial | exact rfl | apply And.intro))⟩
      · exact ⟨(), [], [0, 1], by simp [inv_take, leftOut, h1, h4], trivial, into_mk (by kernel_rfl) (by (repeat' first | exact trivial | exact rfl | apply And.intro)) (by (repeat' first | exact trivial | exact rfl | apply And.intro))⟩
    · intro _ hlo
      refine ⟨ite2_decide (fun h0 => ?_) (fun h0 => ⟨by omega, ?_⟩), ?_⟩
      · have hq1 : textB (onlyN l one up i) = sepB (textB (onlyN l one up i)) := by unfold sepB; rw [if_pos h0]
        exact ⟨(), [], [0, 1], hlo, trivial, into_mk (by kernel_rfl) (by (repeat' first | exact trivial | exact rfl | exact hq1 | apply And.intro)) (by (repeat' first | exact trivial | exact rfl | apply And.intro))⟩
      · have hq1 : (textB (onlyN l one up i)).append (ByteArray.mk #[10]) = sepB (textB (onlyN l one up i)) := by unfold sepB; rw [if_neg h0]
        exact ⟨(), [], [0, 1], hlo, trivial, into_mk (by kernel_rfl) (by (repeat' first | exact trivial | exact rfl | exact hq1 | apply And.intro)) (by (repeat' first | exact trivial | exact rfl | apply And.intro))⟩
      · intro _ _
        obtain ⟨r, hr⟩ : ∃ r : Rl, rd (α := Rl) l i (KK.dflt Kd.rule) = r := ⟨_, rfl⟩
        have hrm : r ∈ l := by rw [← hr]; exact rd_in (α := Rl) l i _ hl2
        have hw1 := (hw r hrm).1
        have hk : ∀ w : Int, (w = 1 ∨ w = 2 ∨ w = 3) → rd (α := KK.α Kd.str) [(ByteArray.mk #[]), (ByteArray.mk #[115, 107, 105, 112, 32]), (ByteArray.mk #[112, 114, 101, 102, 101, 114, 32, 97, 32]), (ByteArray.mk #[112, 114, 101, 102, 101, 114, 32, 98, 32])] w.toNat (KK.dflt Kd.str) = ⟨(R.hd w).toArray⟩ := fun w h => by
          rcases h with rfl | rfl | rfl <;> rfl
        have hk' := hk r.1 hw1
        have hsz := lsum_mem hrm
        have hszl : (lineL r).length = (R.hd r.1).length + r.2.size := by unfold lineL; rw [List.length_append]; simp
        have hse : (sepB (textB (onlyN l one up i))).size ≤ (textB (onlyN l one up i)).size + 1 := by
          unfold sepB
          split
          · omega
          · rw [app_tx, tx_size]; simp
        have hks : (rd (α := KK.α Kd.str) [(ByteArray.mk #[]), (ByteArray.mk #[115, 107, 105, 112, 32]), (ByteArray.mk #[112, 114, 101, 102, 101, 114, 32, 97, 32]), (ByteArray.mk #[112, 114, 101, 102, 101, 114, 32, 98, 32])] r.1.toNat (KK.dflt Kd.str)).size = (R.hd r.1).length := by rw [hk']; rfl
        have hq1 : ((sepB (textB (onlyN l one up i))).append (rd (α := KK.α Kd.str) [(ByteArray.mk #[]), (ByteArray.mk #[115, 107, 105, 112, 32]), (ByteArray.mk #[112, 114, 101, 102, 101, 114, 32, 97, 32]), (ByteArray.mk #[112, 114, 101, 102, 101, 114, 32, 98, 32])] r.1.toNat (KK.dflt Kd.str))).append r.2 = textB (onlyN l one up (i + 1)) := by
          rw [hk', text_snoc, onlyN, if_neg (by rw [show leftOut one up i = false from hlo]; simp)]
          rw [← hr]
          rfl
        have ha1 : (sepB (textB (onlyN l one up i))).size + (rd (α := KK.α Kd.str) [(ByteArray.mk #[]), (ByteArray.mk #[115, 107, 105, 112, 32]), (ByteArray.mk #[112, 114, 101, 102, 101, 114, 32, 97, 32]), (ByteArray.mk #[112, 114, 101, 102, 101, 114, 32, 98, 32])] r.1.toNat (KK.dflt Kd.str)).size ≤ 9223372036854775807 := by rw [hks]; omega
        have ha2 : ((sepB (textB (onlyN l one up i))).append (rd (α := KK.α Kd.str) [(ByteArray.mk #[]), (ByteArray.mk #[115, 107, 105, 112, 32]), (ByteArray.mk #[112, 114, 101, 102, 101, 114, 32, 97, 32]), (ByteArray.mk #[112, 114, 101, 102, 101, 114, 32, 98, 32])] r.1.toNat (KK.dflt Kd.str))).size + r.2.size ≤ 9223372036854775807 := by
          exact Nat.le_trans (Nat.le_of_eq (congrArg (· + r.2.size) (app_size _ _))) (by show _ + _ + r.2.size ≤ _; rw [hks]; omega)
        have hb : 0 ≤ r.1 ∧ r.1 < 4 := by omega
        have hb2 : r.1.toNat < 4 := by omega
        subst hr
        exact ⟨⟨by omega, hl1⟩, hl2, trivial, hl2, ⟨by omega, hl1⟩, hl2, trivial, hl2, trivial, hb, hb2, trivial, hb2, ha1, ha2, by (repeat' first | exact trivial | exact rfl | exact hl1 | exact hl2 | omega | apply And.intro), trivial, io, (i + 1 : Nat), [], [0, 1], hl2, me, into_mk (by kernel_rfl) (by (repeat' first | exact trivial | exact rfl | exact hq1 | apply And.intro)) (by (repeat' first | exact trivial | exact rfl | apply And.intro))⟩
  · have hil : i = l.length := by omega
    have hwm : Wf (onlyN l one up i) := fun r hr => hw r (only_mem hi r hr)
    have hlm := (only_sum (one := one) (up := up) hi).2
    have hpt : parseB (textB (onlyN l one up i)) = .good (onlyN l one up i) := parse_text hwm (by omega) (by omega)
    refine ⟨⟨by omega, ht, by rw [hpt]; rfl⟩, into_mk (by kernel_rfl) (by (repeat' first | exact trivial | exact rfl | apply And.intro)) (by (repeat' first | exact trivial | exact rfl | apply And.intro)), ?_⟩
    rintro ⟨ψ, ys⟩ ⟨hE, hG⟩
    obtain ⟨hG, hL⟩ := hG trivial
    refine ⟨(ψ, ys), [], [0, 1, 2, 3], ⟨hE, hG, ?_⟩, by (repeat' first | exact trivial | exact rfl | apply And.intro)⟩
    rw [hpt] at hL
    rw [← hil]
    exact hL
theorem known_ok (t : Tb) (φ : Bag KK) : CtOk Tryd.prog 22 (ct_known t φ) := CtOk_of KK_ok (tabR t gK) ann0 (fn := Tryd.f22) rfl (fun _ _ => rfl) fun hn => by
  have hn : HasT t φ := hn
  rw [vc_known]
  refine ⟨⟨by decide, hn, rfl⟩, into_mk (by kernel_rfl) (by (repeat' first | exact trivial | exact rfl | apply And.intro)) (by (repeat' first | exact trivial | exact rfl | apply And.intro)), ?_⟩
  rintro ⟨ψ, ys⟩ ⟨hE, hG⟩
  obtain ⟨hG, hL⟩ := hG rfl
  have hL : LL ys = goodOf (parseB T1) := hL
  have hlen : (goodOf (parseB T1)).length = 3 := by decide +kernel
  have hyl : ys.length = 3 := by rw [← LL_len, hL, hlen]
  have hT := hn.ext hE
  have hwf : Wf (LL ys) := by
    rw [hL]
    have h : isGood (parseB T1) = true := by decide +kernel
    cases hp : parseB T1 with
    | bad k e => rw [hp] at h; cases h
    | good l => exact (parse_good hp).1
  have hls : lsum (LL ys) ≤ 1000000 := by rw [hL]; decide +kernel
  dsimp only
  refine ⟨by omega, into_mk (by kernel_rfl) (by (repeat' first | exact trivial | exact rfl | apply And.intro)) (by (repeat' first | exact trivial | exact rfl | apply And.intro)), fun _ _ => ite2_decide (fun _ => ?_) (fun h => absurd (by rw [LL_len]; omega) h)⟩
  refine ⟨⟨hT, kinds_of hwf, by omega, hls⟩, into_mk (by kernel_rfl) (by (repeat' first | exact trivial | exact rfl | apply And.intro)) (by (repeat' first | exact trivial | exact rfl | apply And.intro)), fun _ _ => ite2_decide (fun _ => ?_) (fun h => absurd (by rw [hL]; decide +kernel) h)⟩
  refine ⟨⟨by decide, hT, rfl⟩, into_mk (by kernel_rfl) (by (repeat' first | exact trivial | exact rfl | apply And.intro)) (by (repeat' first | exact trivial | exact rfl | apply And.intro)), ?_⟩
  rintro ⟨χ, zs⟩ ⟨hE2, _⟩
  have hG2 : GoodL χ ys := hG.ext hE2
  dsimp only
  have hyl2 : ys.length ≤ 1000 := by omega
  have fin : ∀ (A : VH KK) (b : Bool), b = true → EndsAs 1 (ct_known t φ) (boolv b) (.bag χ :: A) := fun A b hb => by
    subst hb
    exact ⟨χ, [], [0], hE.trans hE2, by (repeat' first | exact trivial | exact rfl | apply And.intro)⟩
  simp only [hL]
  refine ⟨⟨hG2, by decide, hyl2⟩, into_mk (by kernel_rfl) (by (repeat' first | exact trivial | exact rfl | apply And.intro)) (by (repeat' first | exact trivial | exact rfl | apply And.intro)), fun _ _ => ite2_mk (fun _ => ?_) (fun h => absurd (show skipB (goodOf (parseB T1)) ⟨#[120, 47, 121, 46, 111]⟩ = true by decide +kernel) (by rw [show skipB (goodOf (parseB T1)) ⟨#[120, 47, 121, 46, 111]⟩ = false from h]; simp))⟩
  refine ⟨⟨hG2, by decide, hyl2⟩, into_mk (by kernel_rfl) (by (repeat' first | exact trivial | exact rfl | apply And.intro)) (by (repeat' first | exact trivial | exact rfl | apply And.intro)), fun _ _ => ite2_mk (fun _ => ?_) (fun h => absurd (show skipB (goodOf (parseB T1)) ⟨#[120, 47, 121, 46, 111, 47, 122]⟩ = true by decide +kernel) (by rw [show skipB (goodOf (parseB T1)) ⟨#[120, 47, 121, 46, 111, 47, 122]⟩ = false from h]; simp))⟩
  refine ⟨⟨hG2, by decide, hyl2⟩, into_mk (by kernel_rfl) (by (repeat' first | exact trivial | exact rfl | apply And.intro)) (by (repeat' first | exact trivial | exact rfl | apply And.intro)), fun _ _ => ite2_mk (fun h => absurd (show skipB (goodOf (parseB T1)) ⟨#[120]⟩ = false by decide +kernel) (by rw [show skipB (goodOf (parseB T1)) ⟨#[120]⟩ = true from h]; simp)) (fun _ => ?_)⟩
  refine ⟨⟨hG2, by decide, hyl2⟩, into_mk (by kernel_rfl) (by (repeat' first | exact trivial | exact rfl | apply And.intro)) (by (repeat' first | exact trivial | exact rfl | apply And.intro)), fun _ _ => ?_⟩
  refine ⟨⟨hG2, by decide, hyl2⟩, into_mk (by kernel_rfl) (by (repeat' first | exact trivial | exact rfl | apply And.intro)) (by (repeat' first | exact trivial | exact rfl | apply And.intro)), fun _ _ => ?_⟩
  refine ⟨⟨hG2, by decide, hyl2⟩, into_mk (by kernel_rfl) (by (repeat' first | exact trivial | exact rfl | apply And.intro)) (by (repeat' first | exact trivial | exact rfl | apply And.intro)), fun _ _ => ?_⟩
  refine ite2_decide (fun _ => ite2_decide (fun _ => ite2_decide (fun _ => ite2_decide (fun _ => ?_) (fun h => absurd (by decide +kernel) h)) (fun h => absurd (by decide +kernel) h)) (fun h => absurd (by decide +kernel) h)) (fun h => absurd (by decide +kernel) h)
  refine ⟨⟨hG2, by decide, hyl2⟩, into_mk (by kernel_rfl) (by (repeat' first | exact trivial | exact rfl | apply And.intro)) (by (repeat' first | exact trivial | exact rfl | apply And.intro)), fun _ _ => ite2_decide (fun _ => ?_) (fun h => absurd (by decide +kernel) h)⟩
  refine ⟨⟨hG2, by decide, hyl2⟩, into_mk (by kernel_rfl) (by (repeat' first | exact trivial | exact rfl | apply And.intro)) (by (repeat' first | exact trivial | exact rfl | apply And.intro)), fun _ _ => ite2_decide (fun _ => ?_) (fun h => absurd (by decide +kernel) h)⟩
  refine ⟨⟨hG2, by decide, hyl2⟩, into_mk (by kernel_rfl) (by (repeat' first | exact trivial | exact rfl | apply And.intro)) (by (repeat' first | exact trivial | exact rfl | apply And.intro)), fun _ _ => ite2_decide (fun _ => ?_) (fun h => absurd (by decide +kernel) h)⟩
  refine ⟨⟨hG2, by decide, hyl2⟩, into_mk (by kernel_rfl) (by (repeat' first | exact trivial | exact rfl | apply And.intro)) (by (repeat' first | exact trivial | exact rfl | apply And.intro)), fun _ _ => ite2_decide (fun _ => fin _ _ rfl) (fun h => absurd (by decide +kernel) h)⟩
end Go.Proofs.YtoidibkcdkdneaaDoor.T
end
section
namespace Go.Proofs.YtoidibkcdkdneaaDoor.T
open Go.Proofs.YtoidibkcdkdneaaDoor.E Go.Proofs.YtoidibkcdkdneaaDoor.MStr Go.Proofs.YtoidibkcdkdneaaDoor.R
set_option maxRecDepth 100000
set_option linter.unusedVariables false
def tabQ (t : Tb) (g : Bool) : Tab Tryd.prog KK := ⟨base t, fun f args H => match f, args, at_ H 0 with
  | 22, [], .bag φ => some (ct_known t φ, [], [0])
  | 26, [.one (.c (.slc a _ _ _)), .one (.c (.int _ one)), .one (.c (.int _ up))], .bag φ => match at_ H a with
    | .arr .rule l => some (ct_only l one up t φ, [], [0, a])
    | _ => none
  | 27, [.one (.c (.slc a _ _ _))], _ => match at_ H a with
    | .arr .str l => some (ct_join l, [], [a])
    | _ => none
  | _, _, _ => (tabR t fun _ => g).pick f args H, fun f args H ct ks τ h => by
    split at h
    · cases h; exact known_ok _ _
    · split at h
      · cases h; exact only_ok _ _ _ _ _
      · cases h
    · split at h
      · cases h; exact join_ok t _
      · cases h
    · exact (tabR t fun _ => g).ok _ _ _ _ _ _ h⟩
theorem parseL_bad : ∀ (ls : List ByteArray) (i : Nat) (acc : List Rl) (k e : Int), parseL i acc ls = .bad k e → e ≠ 0
  | [], i, acc, k, e, h => by simp [parseL] at h
  | s :: t, i, acc, k, e, h => by
    rw [parseL] at h
    split at h
    · exact parseL_bad t _ _ _ _ h
    · split at h
      · injection h with _ h; subst h; decide
      · split at h
        · injection h with _ h; subst h; decide
        · split at h
          · injection h with _ h; subst h; decide
          · exact parseL_bad t _ _ _ _ h
theorem bad_ne {s : ByteArray} (h : isGood (parseB s) = false) : (badOf (parseB s)).2 ≠ 0 := by
  cases hp : parseB s with
  | good l => rw [hp] at h; cases h
  | bad k e =>
    show e ≠ 0
    unfold parseB at hp
    split at hp
    · injection hp with _ hp; subst hp; decide
    · exact parseL_bad _ _ _ _ _ hp
theorem good_of {s : ByteArray} (h : isGood (parseB s) = true) : parseB s = .good (goodOf (parseB s)) := by
  cases hp : parseB s with
  | good l => rfl
  | bad k e => rw [hp] at h; cases h
end Go.Proofs.YtoidibkcdkdneaaDoor.T
end
section
namespace Go.Proofs.YtoidibkcdkdneaaDoor.T
open Go.Proofs.YtoidibkcdkdneaaDoor.E Go.Proofs.YtoidibkcdkdneaaDoor.MStr Go.Proofs.YtoidibkcdkdneaaDoor.R
set_option maxRecDepth 100000
set_option linter.unusedVariables false
def ct_whyL (s p : ByteArray) (t : Tb) (φ : Bag KK) : Ct KK := { need := HasT t φ, pre := [.bag φ], args := [strv s, strv p], Y := Bag KK, ok := fun ψ => Ext φ ψ, ret := fun _ => boolv true, post := fun ψ => [.bag ψ] }
/-- Where ways meet again that only asked: the slots and what there was stay; the bag may have grown. -/
def meetI (fr : List VV) (φ : Bag KK) (A : VH KK) : Inv KK := { X := Bag KK, fr := fun _ => fr, H := fun ψ => .bag ψ :: A, ok := fun ψ => Ext φ ψ, meas := fun _ => 0 }
def meet (k : Nat) (fr : List VV) (H : VH KK) : Option (Inv KK) := match H with
  | .bag φ :: A => some (meetI (cutAt k fr) φ A)
  | _ => none
def annM (ids : List Nat) (k : Nat) : Ann KK := { loop := fun _ _ _ => none, cut := fun id fr H => match ids.contains id with | true => meet k fr H | false => none, keep := some k }
theorem vc_whyB (s p : ByteArray) (t : Tb) (φ : Bag KK) : evFn (tabQ t false) (annM [13, 17, 21] 17) Tryd.f5 (ct_whyL s p t φ) = ( ite2 (decide ((16384 : Int) < (↑s.size : Int))) (EndsAs 1 (ct_whyL s p t φ) (boolv true) [Atom.bag φ]) (ite2 (decide ((16384 : Int) < (↑p.size : Int))) (EndsAs 1 (ct_whyL s p t φ) (boolv true) [Atom.bag
 φ]) (HasT t φ ∧ Into (K := KK) 0 [] [0] [] [Atom.bag φ] [] [Atom.bag φ] ∧ ∀ (y : Nat → Option (BI KK)), Ext φ y → (s.size ≤ 1000000 ∧ HasT t y ∧ isGood (parseB s) = false) ∧ Into (K := KK) 0 [] [0] [VV.one
 (V1.c (C.str s))] [Atom.bag y] [VV.one (V1.c (C.str s))] [Atom.bag y] ∧ ∀ (y_1 : Bag KK × List Ln), Ext y y_1.fst ∧ (false = true → GoodL y_1.fst y_1.snd ∧ LL y_1.snd = goodOf (parseB s)) → ite2 (decide
 ((badOf (parseB s)).snd = (0 : Int))) False (EndsAs 1 (ct_whyL s p t φ) (boolv true) [Atom.bag y_1.fst])))) := by kernel_rfl
theorem vc_whyG (s p : ByteArray) (t : Tb) (φ : Bag KK) : evFn (tabQ t true) (annM [13, 17, 21] 17) Tryd.f5 (ct_whyL s p t φ) = ( ite2 (decide ((16384 : Int) < (↑s.size : Int))) (EndsAs 1 (ct_whyL s p t φ) (boolv true) [Atom.bag φ]) (ite2 (decide ((16384 : Int) < (↑p.size : Int))) (EndsAs 1 (ct_whyL s p t φ) (boolv true) [Atom.bag
 φ]) (HasT t φ ∧ Into (K := KK) 0 [] [0] [] [Atom.bag φ] [] [Atom.bag φ] ∧ ∀ (y : Nat → Option (BI KK)), Ext φ y → (s.size ≤ 1000000 ∧ HasT t y ∧ isGood (parseB s) = true) ∧ Into (K := KK) 0 [] [0] [VV.one
 (V1.c (C.str s))] [Atom.bag y] [VV.one (V1.c (C.str s))] [Atom.bag y] ∧ ∀ (y_1 : Bag KK × List Ln), Ext y y_1.fst ∧ (true = true → GoodL y_1.fst y_1.snd ∧ LL y_1.snd = goodOf (parseB s)) → y_1.snd.length
 ≤ 1000 ∧ Into (K := KK) 0 [] [0, 1, 2] [VV.one (V1.c (C.ptr 1 0 0))] [Atom.bag y_1.fst, Atom.cells 67 [C.slc 2 0 y_1.snd.length none], Atom.arr Kd.line y_1.snd] [VV.one (V1.c (C.ptr 1 0 0))] [Atom.bag
 y_1.fst, Atom.cells 67 [C.slc 2 0 y_1.snd.length none], Atom.arr Kd.line y_1.snd] ∧ ∀ (y : Unit), True → (GoodL y_1.fst y_1.snd ∧ p.size ≤ 1000000000 ∧ y_1.snd.length ≤ 1000) ∧ Into (K := KK) 0 [] [0,
 1, 2] [VV.one (V1.c (C.ptr 1 0 0)), VV.one (V1.c (C.str p))] [Atom.bag y_1.fst, Atom.cells 67 [C.slc 2 0 y_1.snd.length none], Atom.arr Kd.line y_1.snd, Atom.arr Kd.rule (LL y_1.snd)] [VV.one (V1.c (C.ptr
 1 0 0)), VV.one (V1.c (C.str p))] [Atom.bag y_1.fst, Atom.cells 67 [C.slc 2 0 y_1.snd.length none], Atom.arr Kd.line y_1.snd] ∧ ∀ (y : Unit), True → y_1.snd.length ≤ 1000 ∧ Into (K := KK) 0 [] [0, 1, 2]
 [VV.one (V1.c (C.ptr 1 0 0))] [Atom.bag y_1.fst, Atom.cells 67 [C.slc 2 0 y_1.snd.length none], Atom.arr Kd.line y_1.snd, Atom.arr Kd.rule (LL y_1.snd)] [VV.one (V1.c (C.ptr 1 0 0))] [Atom.bag y_1.fst,
 Atom.cells 67 [C.slc 2 0 y_1.snd.length none], Atom.arr Kd.line y_1.snd] ∧ ∀ (y : Bag KK × List Ln), Ext y_1.fst y.fst ∧ GoodL y.fst y.snd ∧ LL y.snd = mirB (LL y_1.snd) → (GoodL y.fst y.snd ∧ p.size ≤
 1000000000 ∧ y.snd.length ≤ 1000) ∧ Into (K := KK) 0 [] [0, 4, 5] [VV.one (V1.c (C.ptr 4 0 0)), VV.one (V1.c (C.str p))] [Atom.bag y.fst, Atom.cells 67 [C.slc 2 0 y_1.snd.length none], Atom.arr Kd.line
 y_1.snd, Atom.arr Kd.rule (LL y_1.snd), Atom.cells 67 [C.slc 5 0 y.snd.length none], Atom.arr Kd.line y.snd] [VV.one (V1.c (C.ptr 1 0 0)), VV.one (V1.c (C.str p))] [Atom.bag y.fst, Atom.cells 67 [C.slc
 2 0 y.snd.length none], Atom.arr Kd.line y.snd] ∧ ∀ (y_2 : Unit), True → ite2 (decide ((whyB (LL y.snd) p).fst = (whyB (LL y_1.snd) p).fst)) (ite2 (decide ((whyB (LL y.snd) p).snd = (whyB (LL y_1.snd)
 p).snd)) (ite2 (decide ((0 : Int) < (whyB (LL y_1.snd) p).fst)) ((GoodL y.fst y_1.snd ∧ p.size ≤ 1000000000 ∧ y_1.snd.length ≤ 1000) ∧ Into (K := KK) 0 [] [0, 1, 2] [VV.one (V1.c (C.ptr 1 0 0)), VV.one
 (V1.c (C.str p))] [Atom.bag y.fst, Atom.cells 67 [C.slc 2 0 y_1.snd.length none], Atom.arr Kd.line y_1.snd, Atom.arr Kd.rule (LL y_1.snd), Atom.cells 67 [C.slc 5 0 y.snd.length none], Atom.arr Kd.line
 y.snd] [VV.one (V1.c (C.ptr 1 0 0)), VV.one (V1.c (C.str p))] [Atom.bag y.fst, Atom.cells 67 [C.slc 2 0 y_1.snd.length none], Atom.arr Kd.line y_1.snd] ∧ ∀ (y_3 : Unit), True → ite2 (decide (true = skipB
 (LL y_1.snd) p)) (ite2 (decide ((0 : Int) < (whyB (LL y_1.snd) p).snd)) ((GoodL y.fst y_1.snd ∧ p.size ≤ 1000000000 ∧ y_1.snd.length ≤ 1000) ∧ Into (K := KK) 0 [] [0, 1, 2] [VV.one (V1.c (C.ptr 1 0 0)),
 VV.one (V1.c (C.str p))] [Atom.bag y.fst, Atom.cells 67 [C.slc 2 0 y_1.snd.length none], Atom.arr Kd.line y_1.snd, Atom.arr Kd.rule (LL y_1.snd), Atom.cells 67 [C.slc 5 0 y.snd.length none], Atom.arr Kd.line
 y.snd] [VV.one (V1.c (C.ptr 1 0 0)), VV.one (V1.c (C.str p))] [Atom.bag y.fst, Atom.cells 67 [C.slc 2 0 y_1.snd.length none], Atom.arr Kd.line y_1.snd] ∧ ∀ (y_4 : Unit), True → ite2 (decide ((0 : Int)
 < preferB (LL y_1.snd) p)) (ite2 (decide ((whyB (LL y_1.snd) p).fst < (0 : Int))) (EndsAs 1 (ct_whyL s p t φ) (boolv false) [Atom.bag y.fst, Atom.cells 67 [C.slc 2 0 y_1.snd.length none], Atom.arr Kd.line
 y_1.snd, Atom.arr Kd.rule (LL y_1.snd), Atom.cells 67 [C.slc 5 0 y.snd.length none], Atom.arr Kd.line y.snd]) (ite2 (decide ((whyB (LL y_1.snd) p).snd < (0 : Int))) (EndsAs 1 (ct_whyL s p t φ) (boolv false)
 [Atom.bag y.fst, Atom.cells 67 [C.slc 2 0 y_1.snd.length none], Atom.arr Kd.line y_1.snd, Atom.arr Kd.rule (LL y_1.snd), Atom.cells 67 [C.slc 5 0 y.snd.length none], Atom.arr Kd.line y.snd]) (ite2 (decide
 ((↑(LL y_1.snd).length : Int) < (whyB (LL y_1.snd) p).fst)) (EndsAs 1 (ct_whyL s p t φ) (boolv false) [Atom.bag y.fst, Atom.cells 67 [C.slc 2 0 y_1.snd.length none], Atom.arr Kd.line y_1.snd, Atom.arr
 Kd.rule (LL y_1.snd), Atom.cells 67 [C.slc 5 0 y.snd.length none], Atom.arr Kd.line y.snd]) (ite2 (decide ((↑(LL y_1.snd).length : Int) < (whyB (LL y_1.snd) p).snd)) (EndsAs 1 (ct_whyL s p t φ) (boolv
 false) [Atom.bag y.fst, Atom.cells 67 [C.slc 2 0 y_1.snd.length none], Atom.arr Kd.line y_1.snd, Atom.arr Kd.rule (LL y_1.snd), Atom.cells 67 [C.slc 5 0 y.snd.length none], Atom.arr Kd.line y.snd]) (Enter
 1 (meetI (cutAt 17 ([VV.one (V1.c (C.str s)), VV.one (V1.c (C.str p)), VV.any, VV.any, boolv false, VV.one (V1.c (C.ptr 1 0 0)), i64 (0 : Int), i64 (0 : Int), VV.one (V1.c (C.slc 3 0 (LL y_1.snd).length
 none)), i64 (whyB (LL y_1.snd) p).fst, i64 (whyB (LL y_1.snd) p).snd, i64 (whyB (LL y.snd) p).fst, i64 (whyB (LL y.snd) p).snd, VV.any, VV.any, VV.any, VV.any, VV.one (V1.c (C.str s)), i64 (↑s.size : Int),
 boolv false, boolv false, VV.one (V1.c (C.str p)), i64 (↑p.size : Int), boolv false, boolv false, boolv true, boolv false, VV.tup [V1.c (C.ptr 1 0 0), V1.c (C.int .i64 (0 : Int)), V1.c (C.int .i64 (0 :
 Int))], VV.one (V1.c (C.str s)), VV.tup [V1.c (C.ptr 1 0 0), V1.c (C.int .i64 (0 : Int)), V1.c (C.int .i64 (0 : Int))], VV.one (V1.c (C.ptr 1 0 0)), i64 (0 : Int), i64 (0 : Int), i64 (0 : Int), boolv false,
 VV.any, VV.any, VV.one (V1.c (C.ptr 1 0 0)), VV.one (V1.c (C.slc 3 0 (LL y_1.snd).length none)), VV.tup [V1.c (C.int .i64 (whyB (LL y_1.snd) p).fst), V1.c (C.int .i64 (whyB (LL y_1.snd) p).snd)], VV.one
 (V1.c (C.ptr 1 0 0)), VV.one (V1.c (C.str p)), VV.tup [V1.c (C.int .i64 (whyB (LL y_1.snd) p).fst), V1.c (C.int .i64 (whyB (LL y_1.snd) p).snd)], i64 (whyB (LL y_1.snd) p).fst, i64 (whyB (LL y_1.snd) p).snd,
 VV.tup [V1.c (C.int .i64 (whyB (LL y.snd) p).fst), V1.c (C.int .i64 (whyB (LL y.snd) p).snd)], VV.one (V1.c (C.ptr 1 0 0)), VV.one (V1.c (C.ptr 4 0 0)), VV.one (V1.c (C.str p)), VV.tup [V1.c (C.int .i64
 (whyB (LL y.snd) p).fst), V1.c (C.int .i64 (whyB (LL y.snd) p).snd)], i64 (whyB (LL y.snd) p).fst, i64 (whyB (LL y.snd) p).snd] ++ anys 125)) y.fst [Atom.cells 67 [C.slc 2 0 y_1.snd.length none], Atom.arr
 Kd.line y_1.snd, Atom.arr Kd.rule (LL y_1.snd), Atom.cells 67 [C.slc 5 0 y.snd.length none], Atom.arr Kd.line y.snd]) (fun (x : Nat → Option (BI KK)) => True) ([VV.one (V1.c (C.str s)), VV.one (V1.c (C.str
 p)), VV.any, VV.any, boolv false, VV.one (V1.c (C.ptr 1 0 0)), i64 (0 : Int), i64 (0 : Int), VV.one (V1.c (C.slc 3 0 (LL y_1.snd).length none)), i64 (whyB (LL y_1.snd) p).fst, i64 (whyB (LL y_1.snd) p).snd,
 i64 (whyB (LL y.snd) p).fst, i64 (whyB (LL y.snd) p).snd] ++ anys 164) [Atom.bag y.fst, Atom.cells 67 [C.slc 2 0 y_1.snd.length none], Atom.arr Kd.line y_1.snd, Atom.arr Kd.rule (LL y_1.snd), Atom.cells
 67 [C.slc 5 0 y.snd.length none], Atom.arr Kd.line y.snd]))))) (EndsAs 1 (ct_whyL s p t φ) (boolv false) [Atom.bag y.fst, Atom.cells 67 [C.slc 2 0 y_1.snd.length none], Atom.arr Kd.line y_1.snd, Atom.arr
 Kd.rule (LL y_1.snd), Atom.cells 67 [C.slc 5 0 y.snd.length none], Atom.arr Kd.line y.snd])) ((GoodL y.fst y_1.snd ∧ p.size ≤ 1000000000 ∧ y_1.snd.length ≤ 1000) ∧ Into (K := KK) 0 [] [0, 1, 2] [VV.one
 (V1.c (C.ptr 1 0 0)), VV.one (V1.c (C.str p))] [Atom.bag y.fst, Atom.cells 67 [C.slc 2 0 y_1.snd.length none], Atom.arr Kd.line y_1.snd, Atom.arr Kd.rule (LL y_1.snd), Atom.cells 67 [C.slc 5 0 y.snd.length
 none], Atom.arr Kd.line y.snd] [VV.one (V1.c (C.ptr 1 0 0)), VV.one (V1.c (C.str p))] [Atom.bag y.fst, Atom.cells 67 [C.slc 2 0 y_1.snd.length none], Atom.arr Kd.line y_1.snd] ∧ ∀ (y_4 : Unit), True →
 ite2 (decide ((0 : Int) < preferB (LL y_1.snd) p)) (EndsAs 1 (ct_whyL s p t φ) (boolv false) [Atom.bag y.fst, Atom.cells 67 [C.slc 2 0 y_1.snd.length none], Atom.arr Kd.line y_1.snd, Atom.arr Kd.rule (LL
 y_1.snd), Atom.cells 67 [C.slc 5 0 y.snd.length none], Atom.arr Kd.line y.snd]) (ite2 (decide ((whyB (LL y_1.snd) p).fst < (0 : Int))) (EndsAs 1 (ct_whyL s p t φ) (boolv false) [Atom.bag y.fst, Atom.cells
 67 [C.slc 2 0 y_1.snd.length none], Atom.arr Kd.line y_1.snd, Atom.arr Kd.rule (LL y_1.snd), Atom.cells 67 [C.slc 5 0 y.snd.length none], Atom.arr Kd.line y.snd]) (ite2 (decide ((whyB (LL y_1.snd) p).snd
 < (0 : Int))) (EndsAs 1 (ct_whyL s p t φ) (boolv false) [Atom.bag y.fst, Atom.cells 67 [C.slc 2 0 y_1.snd.length none], Atom.arr Kd.line y_1.snd, Atom.arr Kd.rule (LL y_1.snd), Atom.cells 67 [C.slc 5 0
 y.snd.length none], Atom.arr Kd.line y.snd]) (ite2 (decide ((↑(LL y_1.snd).length : Int) < (whyB (LL y_1.snd) p).fst)) (EndsAs 1 (ct_whyL s p t φ) (boolv false) [Atom.bag y.fst, Atom.cells 67 [C.slc 2
 0 y_1.snd.length none], Atom.arr Kd.line y_1.snd, Atom.arr Kd.rule (LL y_1.snd), Atom.cells 67 [C.slc 5 0 y.snd.length none], Atom.arr Kd.line y.snd]) (ite2 (decide ((↑(LL y_1.snd).length : Int) < (whyB
 (LL y_1.snd) p).snd)) (EndsAs 1 (ct_whyL s p t φ) (boolv false) [Atom.bag y.fst, Atom.cells 67 [C.slc 2 0 y_1.snd.length none], Atom.arr Kd.line y_1.snd, Atom.arr Kd.rule (LL y_1.snd), Atom.cells 67 [C.slc
 5 0 y.snd.length none], Atom.arr Kd.line y.snd]) (Enter 1 (meetI (cutAt 17 ([VV.one (V1.c (C.str s)), VV.one (V1.c (C.str p)), VV.any, VV.any, boolv false, VV.one (V1.c (C.ptr 1 0 0)), i64 (0 : Int), i64
 (0 : Int), VV.one (V1.c (C.slc 3 0 (LL y_1.snd).length none)), i64 (whyB (LL y_1.snd) p).fst, i64 (whyB (LL y_1.snd) p).snd, i64 (whyB (LL y.snd) p).fst, i64 (whyB (LL y.snd) p).snd, VV.any, VV.any, VV.any,
 VV.any, VV.one (V1.c (C.str s)), i64 (↑s.size : Int), boolv false, boolv false, VV.one (V1.c (C.str p)), i64 (↑p.size : Int), boolv false, boolv false, boolv true, boolv false, VV.tup [V1.c (C.ptr 1 0
 0), V1.c (C.int .i64 (0 : Int)), V1.c (C.int .i64 (0 : Int))], VV.one (V1.c (C.str s)), VV.tup [V1.c (C.ptr 1 0 0), V1.c (C.int .i64 (0 : Int)), V1.c (C.int .i64 (0 : Int))], VV.one (V1.c (C.ptr 1 0 0)),
 i64 (0 : Int), i64 (0 : Int), i64 (0 : Int), boolv false, VV.any, VV.any, VV.one (V1.c (C.ptr 1 0 0)), VV.one (V1.c (C.slc 3 0 (LL y_1.snd).length none)), VV.tup [V1.c (C.int .i64 (whyB (LL y_1.snd) p).fst),
 V1.c (C.int .i64 (whyB (LL y_1.snd) p).snd)], VV.one (V1.c (C.ptr 1 0 0)), VV.one (V1.c (C.str p)), VV.tup [V1.c (C.int .i64 (whyB (LL y_1.snd) p).fst), V1.c (C.int .i64 (whyB (LL y_1.snd) p).snd)], i64
 (whyB (LL y_1.snd) p).fst, i64 (whyB (LL y_1.snd) p).snd, VV.tup [V1.c (C.int .i64 (whyB (LL y.snd) p).fst), V1.c (C.int .i64 (whyB (LL y.snd) p).snd)], VV.one (V1.c (C.ptr 1 0 0)), VV.one (V1.c (C.ptr
 4 0 0)), VV.one (V1.c (C.str p)), VV.tup [V1.c (C.int .i64 (whyB (LL y.snd) p).fst), V1.c (C.int .i64 (whyB (LL y.snd) p).snd)], i64 (whyB (LL y.snd) p).fst, i64 (whyB (LL y.snd) p).snd] ++ anys 125))
 y.fst [Atom.cells 67 [C.slc 2 0 y_1.snd.length none], Atom.arr Kd.line y_1.snd, Atom.arr Kd.rule (LL y_1.snd), Atom.cells 67 [C.slc 5 0 y.snd.length none], Atom.arr Kd.line y.snd]) (fun (x : Nat → Option
 (BI KK)) => True) ([VV.one (V1.c (C.str s)), VV.one (V1.c (C.str p)), VV.any, VV.any, boolv false, VV.one (V1.c (C.ptr 1 0 0)), i64 (0 : Int), i64 (0 : Int), VV.one (V1.c (C.slc 3 0 (LL y_1.snd).length
 none)), i64 (whyB (LL y_1.snd) p).fst, i64 (whyB (LL y_1.snd) p).snd, i64 (whyB (LL y.snd) p).fst, i64 (whyB (LL y.snd) p).snd] ++ anys 164) [Atom.bag y.fst, Atom.cells 67 [C.slc 2 0 y_1.snd.length none],
 Atom.arr Kd.line y_1.snd, Atom.arr Kd.rule (LL y_1.snd), Atom.cells 67 [C.slc 5 0 y.snd.length none], Atom.arr Kd.line y.snd]))))))) (EndsAs 1 (ct_whyL s p t φ) (boolv false) [Atom.bag y.fst, Atom.cells
 67 [C.slc 2 0 y_1.snd.length none], Atom.arr Kd.line y_1.snd, Atom.arr Kd.rule (LL y_1.snd), Atom.cells 67 [C.slc 5 0 y.snd.length none], Atom.arr Kd.line y.snd])) ((GoodL y.fst y_1.snd ∧ p.size ≤ 1000000000
 ∧ y_1.snd.length ≤ 1000) ∧ Into (K := KK) 0 [] [0, 1, 2] [VV.one (V1.c (C.ptr 1 0 0)), VV.one (V1.c (C.str p))] [Atom.bag y.fst, Atom.cells 67 [C.slc 2 0 y_1.snd.length none], Atom.arr Kd.line y_1.snd,
 Atom.arr Kd.rule (LL y_1.snd), Atom.cells 67 [C.slc 5 0 y.snd.length none], Atom.arr Kd.line y.snd] [VV.one (V1.c (C.ptr 1 0 0)), VV.one (V1.c (C.str p))] [Atom.bag y.fst, Atom.cells 67 [C.slc 2 0 y_1.snd.length
 none], Atom.arr Kd.line y_1.snd] ∧ ∀ (y_3 : Unit), True → ite2 (decide (false = skipB (LL y_1.snd) p)) (ite2 (decide ((0 : Int) < (whyB (LL y_1.snd) p).snd)) ((GoodL y.fst y_1.snd ∧ p.size ≤ 1000000000
 ∧ y_1.snd.length ≤ 1000) ∧ Into (K := KK) 0 [] [0, 1, 2] [VV.one (V1.c (C.ptr 1 0 0)), VV.one (V1.c (C.str p))] [Atom.bag y.fst, Atom.cells 67 [C.slc 2 0 y_1.snd.length none], Atom.arr Kd.line y_1.snd,
 Atom.arr Kd.rule (LL y_1.snd), Atom.cells 67 [C.slc 5 0 y.snd.length none], Atom.arr Kd.line y.snd] [VV.one (V1.c (C.ptr 1 0 0)), VV.one (V1.c (C.str p))] [Atom.bag y.fst, Atom.cells 67 [C.slc 2 0 y_1.snd.length
 none], Atom.arr Kd.line y_1.snd] ∧ ∀ (y_4 : Unit), True → ite2 (decide ((0 : Int) < preferB (LL y_1.snd) p)) (ite2 (decide ((whyB (LL y_1.snd) p).fst < (0 : Int))) (EndsAs 1 (ct_whyL s p t φ) (boolv false)
 [Atom.bag y.fst, Atom.cells 67 [C.slc 2 0 y_1.snd.length none], Atom.arr Kd.line y_1.snd, Atom.arr Kd.rule (LL y_1.snd), Atom.cells 67 [C.slc 5 0 y.snd.length none], Atom.arr Kd.line y.snd]) (ite2 (decide
 ((whyB (LL y_1.snd) p).snd < (0 : Int))) (EndsAs 1 (ct_whyL s p t φ) (boolv false) [Atom.bag y.fst, Atom.cells 67 [C.slc 2 0 y_1.snd.length none], Atom.arr Kd.line y_1.snd, Atom.arr Kd.rule (LL y_1.snd),
 Atom.cells 67 [C.slc 5 0 y.snd.length none], Atom.arr Kd.line y.snd]) (ite2 (decide ((↑(LL y_1.snd).length : Int) < (whyB (LL y_1.snd) p).fst)) (EndsAs 1 (ct_whyL s p t φ) (boolv false) [Atom.bag y.fst,
 Atom.cells 67 [C.slc 2 0 y_1.snd.length none], Atom.arr Kd.line y_1.snd, Atom.arr Kd.rule (LL y_1.snd), Atom.cells 67 [C.slc 5 0 y.snd.length none], Atom.arr Kd.line y.snd]) (ite2 (decide ((↑(LL y_1.snd).length
 : Int) < (whyB (LL y_1.snd) p).snd)) (EndsAs 1 (ct_whyL s p t φ) (boolv false) [Atom.bag y.fst, Atom.cells 67 [C.slc 2 0 y_1.snd.length none], Atom.arr Kd.line y_1.snd, Atom.arr Kd.rule (LL y_1.snd), Atom.cells
 67 [C.slc 5 0 y.snd.length none], Atom.arr Kd.line y.snd]) (Enter 1 (meetI (cutAt 17 ([VV.one (V1.c (C.str s)), VV.one (V1.c (C.str p)), VV.any, VV.any, boolv false, VV.one (V1.c (C.ptr 1 0 0)), i64 (0
 : Int), i64 (0 : Int), VV.one (V1.c (C.slc 3 0 (LL y_1.snd).length none)), i64 (whyB (LL y_1.snd) p).fst, i64 (whyB (LL y_1.snd) p).snd, i64 (whyB (LL y.snd) p).fst, i64 (whyB (LL y.snd) p).snd, VV.any,
 VV.any, VV.any, VV.any, VV.one (V1.c (C.str s)), i64 (↑s.size : Int), boolv false, boolv false, VV.one (V1.c (C.str p)), i64 (↑p.size : Int), boolv false, boolv false, boolv true, boolv false, VV.tup [V1.c
 (C.ptr 1 0 0), V1.c (C.int .i64 (0 : Int)), V1.c (C.int .i64 (0 : Int))], VV.one (V1.c (C.str s)), VV.tup [V1.c (C.ptr 1 0 0), V1.c (C.int .i64 (0 : Int)), V1.c (C.int .i64 (0 : Int))], VV.one (V1.c (C.ptr
 1 0 0)), i64 (0 : Int), i64 (0 : Int), i64 (0 : Int), boolv false, VV.any, VV.any, VV.one (V1.c (C.ptr 1 0 0)), VV.one (V1.c (C.slc 3 0 (LL y_1.snd).length none)), VV.tup [V1.c (C.int .i64 (whyB (LL y_1.snd)
 p).fst), V1.c (C.int .i64 (whyB (LL y_1.snd) p).snd)], VV.one (V1.c (C.ptr 1 0 0)), VV.one (V1.c (C.str p)), VV.tup [V1.c (C.int .i64 (whyB (LL y_1.snd) p).fst), V1.c (C.int .i64 (whyB (LL y_1.snd) p).snd)],
 i64 (whyB (LL y_1.snd) p).fst, i64 (whyB (LL y_1.snd) p).snd, VV.tup [V1.c (C.int .i64 (whyB (LL y.snd) p).fst), V1.c (C.int .i64 (whyB (LL y.snd) p).snd)], VV.one (V1.c (C.ptr 1 0 0)), VV.one (V1.c (C.ptr
 4 0 0)), VV.one (V1.c (C.str p)), VV.tup [V1.c (C.int .i64 (whyB (LL y.snd) p).fst), V1.c (C.int .i64 (whyB (LL y.snd) p).snd)], i64 (whyB (LL y.snd) p).fst, i64 (whyB (LL y.snd) p).snd] ++ anys 125))
 y.fst [Atom.cells 67 [C.slc 2 0 y_1.snd.length none], Atom.arr Kd.line y_1.snd, Atom.arr Kd.rule (LL y_1.snd), Atom.cells 67 [C.slc 5 0 y.snd.length none], Atom.arr Kd.line y.snd]) (fun (x : Nat → Option
 (BI KK)) => True) ([VV.one (V1.c (C.str s)), VV.one (V1.c (C.str p)), VV.any, VV.any, boolv false, VV.one (V1.c (C.ptr 1 0 0)), i64 (0 : Int), i64 (0 : Int), VV.one (V1.c (C.slc 3 0 (LL y_1.snd).length
 none)), i64 (whyB (LL y_1.snd) p).fst, i64 (whyB (LL y_1.snd) p).snd, i64 (whyB (LL y.snd) p).fst, i64 (whyB (LL y.snd) p).snd] ++ anys 164) [Atom.bag y.fst, Atom.cells 67 [C.slc 2 0 y_1.snd.length none],
 Atom.arr Kd.line y_1.snd, Atom.arr Kd.rule (LL y_1.snd), Atom.cells 67 [C.slc 5 0 y.snd.length none], Atom.arr Kd.line y.snd]))))) (EndsAs 1 (ct_whyL s p t φ) (boolv false) [Atom.bag y.fst, Atom.cells
 67 [C.slc 2 0 y_1.snd.length none], Atom.arr Kd.line y_1.snd, Atom.arr Kd.rule (LL y_1.snd), Atom.cells 67 [C.slc 5 0 y.snd.length none], Atom.arr Kd.line y.snd])) ((GoodL y.fst y_1.snd ∧ p.size ≤ 1000000000
 ∧ y_1.snd.length ≤ 1000) ∧ Into (K := KK) 0 [] [0, 1, 2] [VV.one (V1.c (C.ptr 1 0 0)), VV.one (V1.c (C.str p))] [Atom.bag y.fst, Atom.cells 67 [C.slc 2 0 y_1.snd.length none], Atom.arr Kd.line y_1.snd,
 Atom.arr Kd.rule (LL y_1.snd), Atom.cells 67 [C.slc 5 0 y.snd.length none], Atom.arr Kd.line y.snd] [VV.one (V1.c (C.ptr 1 0 0)), VV.one (V1.c (C.str p))] [Atom.bag y.fst, Atom.cells 67 [C.slc 2 0 y_1.snd.length
 none], Atom.arr Kd.line y_1.snd] ∧ ∀ (y_4 : Unit), True → ite2 (decide ((0 : Int) < preferB (LL y_1.snd) p)) (EndsAs 1 (ct_whyL s p t φ) (boolv false) [Atom.bag y.fst, Atom.cells 67 [C.slc 2 0 y_1.snd.length
 none], Atom.arr Kd.line y_1.snd, Atom.arr Kd.rule (LL y_1.snd), Atom.cells 67 [C.slc 5 0 y.snd.length none], Atom.arr Kd.line y.snd]) (ite2 (decide ((whyB (LL y_1.snd) p).fst < (0 : Int))) (EndsAs 1 (ct_whyL
 s p t φ) (boolv false) [Atom.bag y.fst, Atom.cells 67 [C.slc 2 0 y_1.snd.length none], Atom.arr Kd.line y_1.snd, Atom.arr Kd.rule (LL y_1.snd), Atom.cells 67 [C.slc 5 0 y.snd.length none], Atom.arr Kd.line
 y.snd]) (ite2 (decide ((whyB (LL y_1.snd) p).snd < (0 : Int))) (EndsAs 1 (ct_whyL s p t φ) (boolv false) [Atom.bag y.fst, Atom.cells 67 [C.slc 2 0 y_1.snd.length none], Atom.arr Kd.line y_1.snd, Atom.arr
 Kd.rule (LL y_1.snd), Atom.cells 67 [C.slc 5 0 y.snd.length none], Atom.arr Kd.line y.snd]) (ite2 (decide ((↑(LL y_1.snd).length : Int) < (whyB (LL y_1.snd) p).fst)) (EndsAs 1 (ct_whyL s p t φ) (boolv
 false) [Atom.bag y.fst, Atom.cells 67 [C.slc 2 0 y_1.snd.length none], Atom.arr Kd.line y_1.snd, Atom.arr Kd.rule (LL y_1.snd), Atom.cells 67 [C.slc 5 0 y.snd.length none], Atom.arr Kd.line y.snd]) (ite2
 (decide ((↑(LL y_1.snd).length : Int) < (whyB (LL y_1.snd) p).snd)) (EndsAs 1 (ct_whyL s p t φ) (boolv false) [Atom.bag y.fst, Atom.cells 67 [C.slc 2 0 y_1.snd.length none], Atom.arr Kd.line y_1.snd, Atom.arr
 Kd.rule (LL y_1.snd), Atom.cells 67 [C.slc 5 0 y.snd.length none], Atom.arr Kd.line y.snd]) (Enter 1 (meetI (cutAt 17 ([VV.one (V1.c (C.str s)), VV.one (V1.c (C.str p)), VV.any, VV.any, boolv false, VV.one
 (V1.c (C.ptr 1 0 0)), i64 (0 : Int), i64 (0 : Int), VV.one (V1.c (C.slc 3 0 (LL y_1.snd).length none)), i64 (whyB (LL y_1.snd) p).fst, i64 (whyB (LL y_1.snd) p).snd, i64 (whyB (LL y.snd) p).fst, i64 (whyB
 (LL y.snd) p).snd, VV.any, VV.any, VV.any, VV.any, VV.one (V1.c (C.str s)), i64 (↑s.size : Int), boolv false, boolv false, VV.one (V1.c (C.str p)), i64 (↑p.size : Int), boolv false, boolv false, boolv
 true, boolv false, VV.tup [V1.c (C.ptr 1 0 0), V1.c (C.int .i64 (0 : Int)), V1.c (C.int .i64 (0 : Int))], VV.one (V1.c (C.str s)), VV.tup [V1.c (C.ptr 1 0 0), V1.c (C.int .i64 (0 : Int)), V1.c (C.int .i64
 (0 : Int))], VV.one (V1.c (C.ptr 1 0 0)), i64 (0 : Int), i64 (0 : Int), i64 (0 : Int), boolv false, VV.any, VV.any, VV.one (V1.c (C.ptr 1 0 0)), VV.one (V1.c (C.slc 3 0 (LL y_1.snd).length none)), VV.tup
 [V1.c (C.int .i64 (whyB (LL y_1.snd) p).fst), V1.c (C.int .i64 (whyB (LL y_1.snd) p).snd)], VV.one (V1.c (C.ptr 1 0 0)), VV.one (V1.c (C.str p)), VV.tup [V1.c (C.int .i64 (whyB (LL y_1.snd) p).fst), V1.c
 (C.int .i64 (whyB (LL y_1.snd) p).snd)], i64 (whyB (LL y_1.snd) p).fst, i64 (whyB (LL y_1.snd) p).snd, VV.tup [V1.c (C.int .i64 (whyB (LL y.snd) p).fst), V1.c (C.int .i64 (whyB (LL y.snd) p).snd)], VV.one
 (V1.c (C.ptr 1 0 0)), VV.one (V1.c (C.ptr 4 0 0)), VV.one (V1.c (C.str p)), VV.tup [V1.c (C.int .i64 (whyB (LL y.snd) p).fst), V1.c (C.int .i64 (whyB (LL y.snd) p).snd)], i64 (whyB (LL y.snd) p).fst, i64
 (whyB (LL y.snd) p).snd] ++ anys 125)) y.fst [Atom.cells 67 [C.slc 2 0 y_1.snd.length none], Atom.arr Kd.line y_1.snd, Atom.arr Kd.rule (LL y_1.snd), Atom.cells 67 [C.slc 5 0 y.snd.length none], Atom.arr
 Kd.line y.snd]) (fun (x : Nat → Option (BI KK)) => True) ([VV.one (V1.c (C.str s)), VV.one (V1.c (C.str p)), VV.any, VV.any, boolv false, VV.one (V1.c (C.ptr 1 0 0)), i64 (0 : Int), i64 (0 : Int), VV.one
 (V1.c (C.slc 3 0 (LL y_1.snd).length none)), i64 (whyB (LL y_1.snd) p).fst, i64 (whyB (LL y_1.snd) p).snd, i64 (whyB (LL y.snd) p).fst, i64 (whyB (LL y.snd) p).snd] ++ anys 164) [Atom.bag y.fst, Atom.cells
 67 [C.slc 2 0 y_1.snd.length none], Atom.arr Kd.line y_1.snd, Atom.arr Kd.rule (LL y_1.snd), Atom.cells 67 [C.slc 5 0 y.snd.length none], Atom.arr Kd.line y.snd]))))))) (EndsAs 1 (ct_whyL s p t φ) (boolv
 false) [Atom.bag y.fst, Atom.cells 67 [C.slc 2 0 y_1.snd.length none], Atom.arr Kd.line y_1.snd, Atom.arr Kd.rule (LL y_1.snd), Atom.cells 67 [C.slc 5 0 y.snd.length none], Atom.arr Kd.line y.snd]))) (EndsAs
 1 (ct_whyL s p t φ) (boolv false) [Atom.bag y.fst, Atom.cells 67 [C.slc 2 0 y_1.snd.length none], Atom.arr Kd.line y_1.snd, Atom.arr Kd.rule (LL y_1.snd), Atom.cells 67 [C.slc 5 0 y.snd.length none], Atom.arr
 Kd.line y.snd])) (EndsAs 1 (ct_whyL s p t φ) (boolv false) [Atom.bag y.fst, Atom.cells 67 [C.slc 2 0 y_1.snd.length none], Atom.arr Kd.line y_1.snd, Atom.arr Kd.rule (LL y_1.snd), Atom.cells 67 [C.slc
 5 0 y.snd.length none], Atom.arr Kd.line y.snd]) ∧ ∀ (z : Nat → Option (BI KK)), Ext y.fst z → ite2 (decide ((0 : Int) < (whyB (LL y_1.snd) p).fst)) ((HasT t z ∧ Wf (LL y_1.snd) ∧ (LL y_1.snd).length ≤
 64 ∧ lsum (LL y_1.snd) ≤ 4001 ∧ ((0 : Int) ≤ (whyB (LL y_1.snd) p).fst ∧ (whyB (LL y_1.snd) p).fst ≤ (1000 : Int)) ∧ (0 : Int) ≤ (0 : Int) ∧ (0 : Int) ≤ (1000 : Int)) ∧ Into (K := KK) 0 [] [0, 3] [VV.one
 (V1.c (C.slc 3 0 (LL y_1.snd).length none)), i64 (whyB (LL y_1.snd) p).fst, i64 (0 : Int)] [Atom.bag z, Atom.cells 67 [C.slc 2 0 y_1.snd.length none], Atom.arr Kd.line y_1.snd, Atom.arr Kd.rule (LL y_1.snd),
 Atom.cells 67 [C.slc 5 0 y.snd.length none], Atom.arr Kd.line y.snd] [VV.one (V1.c (C.slc 1 0 (LL y_1.snd).length none)), i64 (whyB (LL y_1.snd) p).fst, i64 (0 : Int)] [Atom.bag z, Atom.ro Kd.rule (LL
 y_1.snd)] ∧ ∀ (y_3 : Bag KK × List Ln), Ext z y_3.fst ∧ GoodL y_3.fst y_3.snd ∧ LL y_3.snd = onlyN (LL y_1.snd) (whyB (LL y_1.snd) p).fst (0 : Int) (LL y_1.snd).length → i64ok ((whyB (LL y_1.snd) p).fst
 - (1 : Int)) ∧ (HasT t y_3.fst ∧ Wf (LL y_1.snd) ∧ (LL y_1.snd).length ≤ 64 ∧ lsum (LL y_1.snd) ≤ 4001 ∧ ((0 : Int) ≤ (0 : Int) ∧ (0 : Int) ≤ (1000 : Int)) ∧ (0 : Int) ≤ (whyB (LL y_1.snd) p).fst - (1
 : Int) ∧ (whyB (LL y_1.snd) p).fst - (1 : Int) ≤ (1000 : Int)) ∧ Into (K := KK) 0 [] [0, 3] [VV.one (V1.c (C.slc 3 0 (LL y_1.snd).length none)), i64 (0 : Int), i64 ((whyB (LL y_1.snd) p).fst - (1 : Int))]
 [Atom.bag y_3.fst, Atom.cells 67 [C.slc 2 0 y_1.snd.length none], Atom.arr Kd.line y_1.snd, Atom.arr Kd.rule (LL y_1.snd), Atom.cells 67 [C.slc 5 0 y.snd.length none], Atom.arr Kd.line y.snd, Atom.cells
 67 [C.slc 7 0 y_3.snd.length none], Atom.arr Kd.line y_3.snd] [VV.one (V1.c (C.slc 1 0 (LL y_1.snd).length none)), i64 (0 : Int), i64 ((whyB (LL y_1.snd) p).fst - (1 : Int))] [Atom.bag y_3.fst, Atom.ro
 Kd.rule (LL y_1.snd)] ∧ ∀ (y_4 : Bag KK × List Ln), Ext y_3.fst y_4.fst ∧ GoodL y_4.fst y_4.snd ∧ LL y_4.snd = onlyN (LL y_1.snd) (0 : Int) ((whyB (LL y_1.snd) p).fst - (1 : Int)) (LL y_1.snd).length →
 i64ok ((whyB (LL y_1.snd) p).fst - (1 : Int)) ∧ ((0 : Int) ≤ (whyB (LL y_1.snd) p).fst - (1 : Int) ∧ (whyB (LL y_1.snd) p).fst - (1 : Int) < (↑(LL y_1.snd).length : Int)) ∧ ((whyB (LL y_1.snd) p).fst -
 (1 : Int)).toNat < (LL y_1.snd).length ∧ True ∧ ((whyB (LL y_1.snd) p).fst - (1 : Int)).toNat < (LL y_1.snd).length ∧ ite2 (decide ((rd (LL y_1.snd) ((whyB (LL y_1.snd) p).fst - (1 : Int)).toNat (KK.dflt
 Kd.rule)).fst = (1 : Int))) ((GoodL y_4.fst y_3.snd ∧ p.size ≤ 1000000000 ∧ y_3.snd.length ≤ 1000) ∧ Into (K := KK) 0 [] [0, 6, 7] [VV.one (V1.c (C.ptr 6 0 0)), VV.one (V1.c (C.str p))] [Atom.bag y_4.fst,
 Atom.cells 67 [C.slc 2 0 y_1.snd.length none], Atom.arr Kd.line y_1.snd, Atom.arr Kd.rule (LL y_1.snd), Atom.cells 67 [C.slc 5 0 y.snd.length none], Atom.arr Kd.line y.snd, Atom.cells 67 [C.slc 7 0 y_3.snd.length
 none], Atom.arr Kd.line y_3.snd, Atom.cells 67 [C.slc 9 0 y_4.snd.length none], Atom.arr Kd.line y_4.snd] [VV.one (V1.c (C.ptr 1 0 0)), VV.one (V1.c (C.str p))] [Atom.bag y_4.fst, Atom.cells 67 [C.slc
 2 0 y_3.snd.length none], Atom.arr Kd.line y_3.snd] ∧ ∀ (y_5 : Unit), True → ite2 (skipB (LL y_3.snd) p) ((GoodL y_4.fst y_4.snd ∧ p.size ≤ 1000000000 ∧ y_4.snd.length ≤ 1000) ∧ Into (K := KK) 0 [] [0,
 8, 9] [VV.one (V1.c (C.ptr 8 0 0)), VV.one (V1.c (C.str p))] [Atom.bag y_4.fst, Atom.cells 67 [C.slc 2 0 y_1.snd.length none], Atom.arr Kd.line y_1.snd, Atom.arr Kd.rule (LL y_1.snd), Atom.cells 67 [C.slc
 5 0 y.snd.length none], Atom.arr Kd.line y.snd, Atom.cells 67 [C.slc 7 0 y_3.snd.length none], Atom.arr Kd.line y_3.snd, Atom.cells 67 [C.slc 9 0 y_4.snd.length none], Atom.arr Kd.line y_4.snd] [VV.one
 (V1.c (C.ptr 1 0 0)), VV.one (V1.c (C.str p))] [Atom.bag y_4.fst, Atom.cells 67 [C.slc 2 0 y_4.snd.length none], Atom.arr Kd.line y_4.snd] ∧ ∀ (y_6 : Unit), True → ite2 (skipB (LL y_4.snd) p) (EndsAs 1
 (ct_whyL s p t φ) (boolv false) [Atom.bag y_4.fst, Atom.cells 67 [C.slc 2 0 y_1.snd.length none], Atom.arr Kd.line y_1.snd, Atom.arr Kd.rule (LL y_1.snd), Atom.cells 67 [C.slc 5 0 y.snd.length none], Atom.arr
 Kd.line y.snd, Atom.cells 67 [C.slc 7 0 y_3.snd.length none], Atom.arr Kd.line y_3.snd, Atom.cells 67 [C.slc 9 0 y_4.snd.length none], Atom.arr Kd.line y_4.snd]) (Enter 1 (meetI (cutAt 17 ([VV.one (V1.c
 (C.str s)), VV.one (V1.c (C.str p)), VV.any, VV.any, boolv false, VV.one (V1.c (C.ptr 1 0 0)), VV.one (V1.c (C.int .i64 (0 : Int))), VV.one (V1.c (C.int .i64 (0 : Int))), VV.one (V1.c (C.slc 3 0 (LL y_1.snd).length
 none)), VV.one (V1.c (C.int .i64 (whyB (LL y_1.snd) p).fst)), VV.one (V1.c (C.int .i64 (whyB (LL y_1.snd) p).snd)), VV.one (V1.c (C.int .i64 (whyB (LL y.snd) p).fst)), VV.one (V1.c (C.int .i64 (whyB (LL
 y.snd) p).snd))] ++ anys 164)) z [Atom.cells 67 [C.slc 2 0 y_1.snd.length none], Atom.arr Kd.line y_1.snd, Atom.arr Kd.rule (LL y_1.snd), Atom.cells 67 [C.slc 5 0 y.snd.length none], Atom.arr Kd.line y.snd])
 (fun (x : Nat → Option (BI KK)) => True) ([VV.one (V1.c (C.str s)), VV.one (V1.c (C.str p)), VV.any, VV.any, boolv false, VV.one (V1.c (C.ptr 1 0 0)), VV.one (V1.c (C.int .i64 (0 : Int))), VV.one (V1.c
 (C.int .i64 (0 : Int))), VV.one (V1.c (C.slc 3 0 (LL y_1.snd).length none)), VV.one (V1.c (C.int .i64 (whyB (LL y_1.snd) p).fst)), VV.one (V1.c (C.int .i64 (whyB (LL y_1.snd) p).snd)), VV.one (V1.c (C.int
 .i64 (whyB (LL y.snd) p).fst)), VV.one (V1.c (C.int .i64 (whyB (LL y.snd) p).snd)), VV.one (V1.c (C.ptr 6 0 0)), VV.one (V1.c (C.ptr 8 0 0))] ++ anys 162) [Atom.bag y_4.fst, Atom.cells 67 [C.slc 2 0 y_1.snd.length
 none], Atom.arr Kd.line y_1.snd, Atom.arr Kd.rule (LL y_1.snd), Atom.cells 67 [C.slc 5 0 y.snd.length none], Atom.arr Kd.line y.snd, Atom.cells 67 [C.slc 7 0 y_3.snd.length none], Atom.arr Kd.line y_3.snd,
 Atom.cells 67 [C.slc 9 0 y_4.snd.length none], Atom.arr Kd.line y_4.snd])) (EndsAs 1 (ct_whyL s p t φ) (boolv false) [Atom.bag y_4.fst, Atom.cells 67 [C.slc 2 0 y_1.snd.length none], Atom.arr Kd.line y_1.snd,
 Atom.arr Kd.rule (LL y_1.snd), Atom.cells 67 [C.slc 5 0 y.snd.length none], Atom.arr Kd.line y.snd, Atom.cells 67 [C.slc 7 0 y_3.snd.length none], Atom.arr Kd.line y_3.snd, Atom.cells 67 [C.slc 9 0 y_4.snd.length
 none], Atom.arr Kd.line y_4.snd])) (EndsAs 1 (ct_whyL s p t φ) (boolv false) [Atom.bag y_4.fst, Atom.cells 67 [C.slc 2 0 y_1.snd.length none], Atom.arr Kd.line y_1.snd, Atom.arr Kd.rule (LL y_1.snd), Atom.cells
 67 [C.slc 5 0 y.snd.length none], Atom.arr Kd.line y.snd, Atom.cells 67 [C.slc 7 0 y_3.snd.length none], Atom.arr Kd.line y_3.snd, Atom.cells 67 [C.slc 9 0 y_4.snd.length none], Atom.arr Kd.line y_4.snd]))
 (Enter 1 (meetI (cutAt 17 ([VV.one (V1.c (C.str s)), VV.one (V1.c (C.str p)), VV.any, VV.any, boolv false, VV.one (V1.c (C.ptr 1 0 0)), i64 (0 : Int), i64 (0 : Int), VV.one (V1.c (C.slc 3 0 (LL y_1.snd).length
 none)), i64 (whyB (LL y_1.snd) p).fst, i64 (whyB (LL y_1.snd) p).snd, i64 (whyB (LL y.snd) p).fst, i64 (whyB (LL y.snd) p).snd] ++ anys 164)) z [Atom.cells 67 [C.slc 2 0 y_1.snd.length none], Atom.arr
 Kd.line y_1.snd, Atom.arr Kd.rule (LL y_1.snd), Atom.cells 67 [C.slc 5 0 y.snd.length none], Atom.arr Kd.line y.snd]) (fun (x : Nat → Option (BI KK)) => True) ([VV.one (V1.c (C.str s)), VV.one (V1.c (C.str
 p)), VV.any, VV.any, boolv false, VV.one (V1.c (C.ptr 1 0 0)), i64 (0 : Int), i64 (0 : Int), VV.one (V1.c (C.slc 3 0 (LL y_1.snd).length none)), i64 (whyB (LL y_1.snd) p).fst, i64 (whyB (LL y_1.snd) p).snd,
 i64 (whyB (LL y.snd) p).fst, i64 (whyB (LL y.snd) p).snd] ++ anys 164) [Atom.bag z, Atom.cells 67 [C.slc 2 0 y_1.snd.length none], Atom.arr Kd.line y_1.snd, Atom.arr Kd.rule (LL y_1.snd), Atom.cells 67
 [C.slc 5 0 y.snd.length none], Atom.arr Kd.line y.snd]) ∧ ∀ (z_1 : Nat → Option (BI KK)), Ext z z_1 → ite2 (decide ((0 : Int) < (whyB (LL y_1.snd) p).snd)) ((HasT t z_1 ∧ Wf (LL y_1.snd) ∧ (LL y_1.snd).length
 ≤ 64 ∧ lsum (LL y_1.snd) ≤ 4001 ∧ ((0 : Int) ≤ (whyB (LL y_1.snd) p).snd ∧ (whyB (LL y_1.snd) p).snd ≤ (1000 : Int)) ∧ (0 : Int) ≤ (0 : Int) ∧ (0 : Int) ≤ (1000 : Int)) ∧ Into (K := KK) 0 [] [0, 3] [VV.one
 (V1.c (C.slc 3 0 (LL y_1.snd).length none)), i64 (whyB (LL y_1.snd) p).snd, i64 (0 : Int)] [Atom.bag z_1, Atom.cells 67 [C.slc 2 0 y_1.snd.length none], Atom.arr Kd.line y_1.snd, Atom.arr Kd.rule (LL y_1.snd),
 Atom.cells 67 [C.slc 5 0 y.snd.length none], Atom.arr Kd.line y.snd] [VV.one (V1.c (C.slc 1 0 (LL y_1.snd).length none)), i64 (whyB (LL y_1.snd) p).snd, i64 (0 : Int)] [Atom.bag z_1, Atom.ro Kd.rule (LL
 y_1.snd)] ∧ ∀ (y_3 : Bag KK × List Ln), Ext z_1 y_3.fst ∧ GoodL y_3.fst y_3.snd ∧ LL y_3.snd = onlyN (LL y_1.snd) (whyB (LL y_1.snd) p).snd (0 : Int) (LL y_1.snd).length → (HasT t y_3.fst ∧ Wf (LL y_1.snd)
 ∧ (LL y_1.snd).length ≤ 64 ∧ lsum (LL y_1.snd) ≤ 4001 ∧ ((0 : Int) ≤ (0 : Int) ∧ (0 : Int) ≤ (1000 : Int)) ∧ (0 : Int) ≤ (whyB (LL y_1.snd) p).snd ∧ (whyB (LL y_1.snd) p).snd ≤ (1000 : Int)) ∧ Into (K
 := KK) 0 [] [0, 3] [VV.one (V1.c (C.slc 3 0 (LL y_1.snd).length none)), i64 (0 : Int), i64 (whyB (LL y_1.snd) p).snd] [Atom.bag y_3.fst, Atom.cells 67 [C.slc 2 0 y_1.snd.length none], Atom.arr Kd.line
 y_1.snd, Atom.arr Kd.rule (LL y_1.snd), Atom.cells 67 [C.slc 5 0 y.snd.length none], Atom.arr Kd.line y.snd, Atom.cells 67 [C.slc 7 0 y_3.snd.length none], Atom.arr Kd.line y_3.snd] [VV.one (V1.c (C.slc
 1 0 (LL y_1.snd).length none)), i64 (0 : Int), i64 (whyB (LL y_1.snd) p).snd] [Atom.bag y_3.fst, Atom.ro Kd.rule (LL y_1.snd)] ∧ ∀ (y_4 : Bag KK × List Ln), Ext y_3.fst y_4.fst ∧ GoodL y_4.fst y_4.snd
 ∧ LL y_4.snd = onlyN (LL y_1.snd) (0 : Int) (whyB (LL y_1.snd) p).snd (LL y_1.snd).length → i64ok ((whyB (LL y_1.snd) p).snd - (1 : Int)) ∧ ((0 : Int) ≤ (whyB (LL y_1.snd) p).snd - (1 : Int) ∧ (whyB (LL
 y_1.snd) p).snd - (1 : Int) < (↑(LL y_1.snd).length : Int)) ∧ ((whyB (LL y_1.snd) p).snd - (1 : Int)).toNat < (LL y_1.snd).length ∧ True ∧ ((whyB (LL y_1.snd) p).snd - (1 : Int)).toNat < (LL y_1.snd).length
 ∧ i64ok ((rd (LL y_1.snd) ((whyB (LL y_1.snd) p).snd - (1 : Int)).toNat (KK.dflt Kd.rule)).fst - (1 : Int)) ∧ True ∧ (GoodL y_4.fst y_1.snd ∧ p.size ≤ 1000000000 ∧ y_1.snd.length ≤ 1000) ∧ Into (K := KK)
 0 [] [0, 1, 2] [VV.one (V1.c (C.ptr 1 0 0)), VV.one (V1.c (C.str p))] [Atom.bag y_4.fst, Atom.cells 67 [C.slc 2 0 y_1.snd.length none], Atom.arr Kd.line y_1.snd, Atom.arr Kd.rule (LL y_1.snd), Atom.cells
 67 [C.slc 5 0 y.snd.length none], Atom.arr Kd.line y.snd, Atom.cells 67 [C.slc 7 0 y_3.snd.length none], Atom.arr Kd.line y_3.snd, Atom.cells 67 [C.slc 9 0 y_4.snd.length none], Atom.arr Kd.line y_4.snd]
 [VV.one (V1.c (C.ptr 1 0 0)), VV.one (V1.c (C.str p))] [Atom.bag y_4.fst, Atom.cells 67 [C.slc 2 0 y_1.snd.length none], Atom.arr Kd.line y_1.snd] ∧ ∀ (y_5 : Unit), True → ite2 (decide ((rd (LL y_1.snd)
 ((whyB (LL y_1.snd) p).snd - (1 : Int)).toNat (KK.dflt Kd.rule)).fst - (1 : Int) = preferB (LL y_1.snd) p)) (((((0 : Int) ≤ (whyB (LL y_1.snd) p).snd - (1 : Int) ∧ (whyB (LL y_1.snd) p).snd - (1 : Int)
 < (↑(LL y_1.snd).length : Int)) ∧ ((whyB (LL y_1.snd) p).snd - (1 : Int)).toNat < (LL y_1.snd).length ∧ True ∧ VV.one (V1.c (C.ptr 3 ((whyB (LL y_1.snd) p).snd - (1 : Int)).toNat 0)) = VV.one (V1.c (C.ptr
 3 ((whyB (LL y_1.snd) p).snd - (1 : Int)).toNat 0))) ∧ (((whyB (LL y_1.snd) p).snd - (1 : Int)).toNat < (LL y_1.snd).length ∧ VV.one (V1.c (C.int .i64 (rd (LL y_1.snd) ((whyB (LL y_1.snd) p).snd - (1 :
 Int)).toNat (KK.dflt Kd.rule)).fst)) = VV.one (V1.c (C.int .i64 (rd (LL y_1.snd) ((whyB (LL y_1.snd) p).snd - (1 : Int)).toNat (KK.dflt Kd.rule)).fst))) ∧ True) ∧ (GoodL y_4.fst y_3.snd ∧ p.size ≤ 1000000000
 ∧ y_3.snd.length ≤ 1000) ∧ Into (K := KK) 0 [] [0, 6, 7] [VV.one (V1.c (C.ptr 6 0 0)), VV.one (V1.c (C.str p))] [Atom.bag y_4.fst, Atom.cells 67 [C.slc 2 0 y_1.snd.length none], Atom.arr Kd.line y_1.snd,
 Atom.arr Kd.rule (LL y_1.snd), Atom.cells 67 [C.slc 5 0 y.snd.length none], Atom.arr Kd.line y.snd, Atom.cells 67 [C.slc 7 0 y_3.snd.length none], Atom.arr Kd.line y_3.snd, Atom.cells 67 [C.slc 9 0 y_4.snd.length
 none], Atom.arr Kd.line y_4.snd] [VV.one (V1.c (C.ptr 1 0 0)), VV.one (V1.c (C.str p))] [Atom.bag y_4.fst, Atom.cells 67 [C.slc 2 0 y_3.snd.length none], Atom.arr Kd.line y_3.snd] ∧ ∀ (y_6 : Unit), True
 → True ∧ (GoodL y_4.fst y_1.snd ∧ p.size ≤ 1000000000 ∧ y_1.snd.length ≤ 1000) ∧ Into (K := KK) 0 [] [0, 1, 2] [VV.one (V1.c (C.ptr 1 0 0)), VV.one (V1.c (C.str p))] [Atom.bag y_4.fst, Atom.cells 67 [C.slc
 2 0 y_1.snd.length none], Atom.arr Kd.line y_1.snd, Atom.arr Kd.rule (LL y_1.snd), Atom.cells 67 [C.slc 5 0 y.snd.length none], Atom.arr Kd.line y.snd, Atom.cells 67 [C.slc 7 0 y_3.snd.length none], Atom.arr
 Kd.line y_3.snd, Atom.cells 67 [C.slc 9 0 y_4.snd.length none], Atom.arr Kd.line y_4.snd] [VV.one (V1.c (C.ptr 1 0 0)), VV.one (V1.c (C.str p))] [Atom.bag y_4.fst, Atom.cells 67 [C.slc 2 0 y_1.snd.length
 none], Atom.arr Kd.line y_1.snd] ∧ ∀ (y_7 : Unit), True → ite2 (decide (preferB (LL y_3.snd) p = preferB (LL y_1.snd) p)) (True ∧ (GoodL y_4.fst y_4.snd ∧ p.size ≤ (1000000000 : Nat) ∧ y_4.snd.length ≤
 1000) ∧ Into (K := KK) 0 [] [0, 8, 9] [VV.one (V1.c (C.ptr 8 0 0)), VV.one (V1.c (C.str p))] [Atom.bag y_4.fst, Atom.cells 67 [C.slc 2 0 y_1.snd.length none], Atom.arr Kd.line y_1.snd, Atom.arr Kd.rule
 (LL y_1.snd), Atom.cells 67 [C.slc 5 0 y.snd.length none], Atom.arr Kd.line y.snd, Atom.cells 67 [C.slc 7 0 y_3.snd.length none], Atom.arr Kd.line y_3.snd, Atom.cells 67 [C.slc 9 0 y_4.snd.length none],
 Atom.arr Kd.line y_4.snd] [VV.one (V1.c (C.ptr 1 0 0)), VV.one (V1.c (C.str p))] [Atom.bag y_4.fst, Atom.cells 67 [C.slc 2 0 y_4.snd.length none], Atom.arr Kd.line y_4.snd] ∧ ∀ (y_8 : Unit), True → True
 ∧ (GoodL y_4.fst y_1.snd ∧ p.size ≤ (1000000000 : Nat) ∧ y_1.snd.length ≤ (1000 : Nat)) ∧ Into (K := KK) 0 [] [(0 : Nat), (1 : Nat), (2 : Nat)] [VV.one (V1.c (C.ptr (1 : Nat) (0 : Nat) (0 : Nat))), VV.one
 (V1.c (C.str p))] [Atom.bag y_4.fst, Atom.cells 67 [C.slc (2 : Nat) (0 : Nat) y_1.snd.length none], Atom.arr Kd.line y_1.snd, Atom.arr Kd.rule (LL y_1.snd), Atom.cells 67 [C.slc (5 : Nat) (0 : Nat) y.snd.length
 none], Atom.arr Kd.line y.snd, Atom.cells 67 [C.slc (7 : Nat) (0 : Nat) y_3.snd.length none], Atom.arr Kd.line y_3.snd, Atom.cells 67 [C.slc (9 : Nat) (0 : Nat) y_4.snd.length none], Atom.arr Kd.line y_4.snd]
 [VV.one (V1.c (C.ptr (1 : Nat) (0 : Nat) (0 : Nat))), VV.one (V1.c (C.str p))] [Atom.bag y_4.fst, Atom.cells 67 [C.slc (2 : Nat) (0 : Nat) y_1.snd.length none], Atom.arr Kd.line y_1.snd] ∧ ∀ (y_9 : Unit),
 True → ite2 (decide (preferB (LL y_4.snd) p = preferB (LL y_1.snd) p)) (True ∧ Enter (1 : Nat) (meetI (cutAt (17 : Nat) ([VV.one (V1.c (C.str s)), VV.one (V1.c (C.str p)), VV.any, VV.any, VV.one (V1.c
 (C.bool false)), VV.one (V1.c (C.ptr (1 : Nat) (0 : Nat) (0 : Nat))), VV.one (V1.c (C.int .i64 (0 : Int))), VV.one (V1.c (C.int .i64 (0 : Int))), VV.one (V1.c (C.slc (3 : Nat) (0 : Nat) (LL y_1.snd).length
 none)), VV.one (V1.c (C.int .i64 (whyB (LL y_1.snd) p).fst)), VV.one (V1.c (C.int .i64 (whyB (LL y_1.snd) p).snd)), VV.one (V1.c (C.int .i64 (whyB (LL y.snd) p).fst)), VV.one (V1.c (C.int .i64 (whyB (LL
 y.snd) p).snd))] ++ anys 164)) z_1 [Atom.cells 67 [C.slc (2 : Nat) (0 : Nat) y_1.snd.length none], Atom.arr Kd.line y_1.snd, Atom.arr Kd.rule (LL y_1.snd), Atom.cells 67 [C.slc (5 : Nat) (0 : Nat) y.snd.length
 none], Atom.arr Kd.line y.snd]) (fun (x : Nat → Option (BI KK)) => True) ([VV.one (V1.c (C.str s)), VV.one (V1.c (C.str p)), VV.any, VV.any, VV.one (V1.c (C.bool false)), VV.one (V1.c (C.ptr (1 : Nat)
 (0 : Nat) (0 : Nat))), VV.one (V1.c (C.int .i64 (0 : Int))), VV.one (V1.c (C.int .i64 (0 : Int))), VV.one (V1.c (C.slc (3 : Nat) (0 : Nat) (LL y_1.snd).length none)), VV.one (V1.c (C.int .i64 (whyB (LL
 y_1.snd) p).fst)), VV.one (V1.c (C.int .i64 (whyB (LL y_1.snd) p).snd)), VV.one (V1.c (C.int .i64 (whyB (LL y.snd) p).fst)), VV.one (V1.c (C.int .i64 (whyB (LL y.snd) p).snd)), VV.any, VV.any, VV.one (V1.c
 (C.ptr (6 : Nat) (0 : Nat) (0 : Nat))), VV.one (V1.c (C.ptr (8 : Nat) (0 : Nat) (0 : Nat)))] ++ anys 160) [Atom.bag y_4.fst, Atom.cells 67 [C.slc (2 : Nat) (0 : Nat) y_1.snd.length none], Atom.arr Kd.line
 y_1.snd, Atom.arr Kd.rule (LL y_1.snd), Atom.cells 67 [C.slc (5 : Nat) (0 : Nat) y.snd.length none], Atom.arr Kd.line y.snd, Atom.cells 67 [C.slc (7 : Nat) (0 : Nat) y_3.snd.length none], Atom.arr Kd.line
 y_3.snd, Atom.cells 67 [C.slc (9 : Nat) (0 : Nat) y_4.snd.length none], Atom.arr Kd.line y_4.snd]) (True ∧ EndsAs (1 : Nat) (ct_whyL s p t φ) (VV.one (V1.c (C.bool false))) [Atom.bag y_4.fst, Atom.cells
 67 [C.slc (2 : Nat) (0 : Nat) y_1.snd.length none], Atom.arr Kd.line y_1.snd, Atom.arr Kd.rule (LL y_1.snd), Atom.cells 67 [C.slc (5 : Nat) (0 : Nat) y.snd.length none], Atom.arr Kd.line y.snd, Atom.cells
 67 [C.slc (7 : Nat) (0 : Nat) y_3.snd.length none], Atom.arr Kd.line y_3.snd, Atom.cells 67 [C.slc (9 : Nat) (0 : Nat) y_4.snd.length none], Atom.arr Kd.line y_4.snd])) (True ∧ True ∧ True ∧ EndsAs 1 (ct_whyL
 s p t φ) (VV.one (V1.c (C.bool false))) [Atom.bag y_4.fst, Atom.cells 67 [C.slc 2 0 y_1.snd.length none], Atom.arr Kd.line y_1.snd, Atom.arr Kd.rule (LL y_1.snd), Atom.cells 67 [C.slc 5 0 y.snd.length
 none], Atom.arr Kd.line y.snd, Atom.cells 67 [C.slc 7 0 y_3.snd.length none], Atom.arr Kd.line y_3.snd, Atom.cells 67 [C.slc 9 0 y_4.snd.length none], Atom.arr Kd.line y_4.snd])) (((((0 : Int) ≤ (whyB
 (LL y_1.snd) p).snd - (1 : Int) ∧ (whyB (LL y_1.snd) p).snd - (1 : Int) < (↑(LL y_1.snd).length : Int)) ∧ ((whyB (LL y_1.snd) p).snd - (1 : Int)).toNat < (LL y_1.snd).length ∧ True ∧ VV.one (V1.c (C.ptr
 3 ((whyB (LL y_1.snd) p).snd - (1 : Int)).toNat 0)) = VV.one (V1.c (C.ptr 3 ((whyB (LL y_1.snd) p).snd - (1 : Int)).toNat 0))) ∧ (((whyB (LL y_1.snd) p).snd - (1 : Int)).toNat < (LL y_1.snd).length ∧ VV.one
 (V1.c (C.int .i64 (rd (LL y_1.snd) ((whyB (LL y_1.snd) p).snd - (1 : Int)).toNat (KK.dflt Kd.rule)).fst)) = VV.one (V1.c (C.int .i64 (rd (LL y_1.snd) ((whyB (LL y_1.snd) p).snd - (1 : Int)).toNat (KK.dflt
 Kd.rule)).fst))) ∧ True) ∧ True ∧ True ∧ True ∧ True ∧ EndsAs 1 (ct_whyL s p t φ) (boolv false) [Atom.bag y_4.fst, Atom.cells 67 [C.slc 2 0 y_1.snd.length none], Atom.arr Kd.line y_1.snd, Atom.arr Kd.rule
 (LL y_1.snd), Atom.cells 67 [C.slc 5 0 y.snd.length none], Atom.arr Kd.line y.snd, Atom.cells 67 [C.slc 7 0 y_3.snd.length none], Atom.arr Kd.line y_3.snd, Atom.cells 67 [C.slc 9 0 y_4.snd.length none],
 Atom.arr Kd.line y_4.snd])) (Enter 1 (meetI (cutAt 17 ([VV.one (V1.c (C.str s)), VV.one (V1.c (C.str p)), VV.any, VV.any, boolv false, VV.one (V1.c (C.ptr 1 0 0)), i64 (0 : Int), i64 (0 : Int), VV.one
 (V1.c (C.slc 3 0 (LL y_1.snd).length none)), i64 (whyB (LL y_1.snd) p).fst, i64 (whyB (LL y_1.snd) p).snd, i64 (whyB (LL y.snd) p).fst, i64 (whyB (LL y.snd) p).snd] ++ anys 164)) z_1 [Atom.cells 67 [C.slc
 2 0 y_1.snd.length none], Atom.arr Kd.line y_1.snd, Atom.arr Kd.rule (LL y_1.snd), Atom.cells 67 [C.slc 5 0 y.snd.length none], Atom.arr Kd.line y.snd]) (fun (x : Nat → Option (BI KK)) => True) ([VV.one
 (V1.c (C.str s)), VV.one (V1.c (C.str p)), VV.any, VV.any, boolv false, VV.one (V1.c (C.ptr 1 0 0)), i64 (0 : Int), i64 (0 : Int), VV.one (V1.c (C.slc 3 0 (LL y_1.snd).length none)), i64 (whyB (LL y_1.snd)
 p).fst, i64 (whyB (LL y_1.snd) p).snd, i64 (whyB (LL y.snd) p).fst, i64 (whyB (LL y.snd) p).snd] ++ anys 164) [Atom.bag z_1, Atom.cells 67 [C.slc 2 0 y_1.snd.length none], Atom.arr Kd.line y_1.snd, Atom.arr
 Kd.rule (LL y_1.snd), Atom.cells 67 [C.slc 5 0 y.snd.length none], Atom.arr Kd.line y.snd]) ∧ ∀ (z : Nat → Option (BI KK)), Ext z_1 z → EndsAs 1 (ct_whyL s p t φ) (boolv true) [Atom.bag z, Atom.cells 67
 [C.slc 2 0 y_1.snd.length none], Atom.arr Kd.line y_1.snd, Atom.arr Kd.rule (LL y_1.snd), Atom.cells 67 [C.slc 5 0 y.snd.length none], Atom.arr Kd.line y.snd]))) := by kernel_rfl
theorem only_up {l : List Rl} {up : Int} (hu : 0 ≤ up) : ∀ {i : Nat}, i ≤ l.length → onlyN l 0 up i = (l.take i).take up.toNat
  | 0, _ => by simp [onlyN]
  | i + 1, hi => by
    have ih := only_up (l := l) hu (i := i) (by omega)
    have e := rdR_get (l := l) ((0 : Int), ByteArray.empty) (show i < l.length by omega)
    rw [onlyN]
    by_cases h : up < (i : Int) + 1
    · have hl : leftOut 0 up i = true := by simp [leftOut, h]
      rw [if_pos hl, ih, List.take_take, List.take_take, Nat.min_eq_left (by omega), Nat.min_eq_left (by omega)]
    · have hl : leftOut 0 up i = false := by simp [leftOut, h]
      rw [hl, if_neg (by simp), ih, List.take_take, List.take_take, Nat.min_eq_right (by omega), Nat.min_eq_right (by omega), e]
      rfl
theorem only_one {l : List Rl} {one up : Int} (ho : 0 < one) : ∀ {i : Nat}, i ≤ l.length → onlyN l one up i = if one.toNat ≤ i then [l.getD (one - 1).toNat ((0 : Int), ByteArray.empty)] else []
  | 0, _ => by rw [if_neg (by omega)]; rfl
  | i + 1, hi => by
    have ih := only_one (l := l) (up := up) ho (i := i) (by omega)
    rw [onlyN]
    by_cases h : (i : Int) + 1 = one
    · have hl : leftOut one up i = false := by
        unfold leftOut
        have h1 : ¬ one = 0 := by omega
        simp [h, h1]
      have e : (one - 1).toNat = i := by omega
      rw [hl, if_neg (by simp), ih, if_neg (by omega), if_pos (by omega), e]
      rfl
    · have hl : leftOut one up i = true := by simp [leftOut, h, ho]
      rw [if_pos hl, ih]
      by_cases h2 : one.toNat ≤ i
      · rw [if_pos h2, if_pos (by omega)]
      · rw [if_neg h2, if_neg (by omega)]
theorem rd_of {l : List Rl} {i : Nat} {r d : Rl} (h : l[i]? = some r) : rd l i d = r := by
  unfold rd
  rw [List.getD_eq_getElem?_getD, h]
  rfl
theorem only_this {l : List Rl} {one : Int} {r : Rl} (ho : 0 < one) (hi : one ≤ l.length) (h : l[(one - 1).toNat]? = some r) : onlyN l one 0 l.length = [r] := by
  rw [only_one ho (Nat.le_refl _), if_pos (by omega), List.getD_eq_getElem?_getD, h]
  rfl
theorem only_these {l : List Rl} {up : Int} (hu : 0 ≤ up) : onlyN l 0 up l.length = l.take up.toNat := by
  rw [only_up hu (Nat.le_refl _), List.take_length]
theorem whyL_ok (s p : ByteArray) (t : Tb) (φ : Bag KK) : CtOk Tryd.prog 5 (ct_whyL s p t φ) := by
  have fin : ∀ (ψ : Bag KK) (A : VH KK) (b : Bool), b = true → Ext φ ψ → EndsAs 1 (ct_whyL s p t φ) (boolv b) (.bag ψ :: A) := fun ψ A b hb hE => by
    subst hb
    exact ⟨ψ, [], [0], hE, by (repeat' first | exact trivial | exact rfl | apply And.intro)⟩
  cases hg : isGood (parseB s) with
  | false =>
    refine CtOk_of KK_ok (tabQ t false) (annM [13, 17, 21] 17) (fn := Tryd.f5) rfl (fun _ _ => rfl) fun hn => ?_
    have hn : HasT t φ := hn
    rw [vc_whyB]
    refine ite2_decide (fun _ => fin _ _ _ rfl (Ext.refl _)) (fun hl => ite2_decide (fun _ => fin _ _ _ rfl (Ext.refl _)) (fun hl2 => ⟨hn, into_mk (by kernel_rfl) (by (repeat' first | exact trivial | exact rfl | apply And.intro)) (by (repeat' first | exact trivial | exact rfl | apply And.intro)), fun ψ hE => ⟨⟨by omega, hn.ext hE, hg⟩, into_mk (by kernel_rfl) (by (repeat' first | exact trivial | exact rfl | apply And.intro)) (by (repeat' first | exact trivial | exact rfl | apply And.intro)), ?_⟩⟩))
    rintro ⟨χ, ys⟩ ⟨hE2, _⟩
    exact ite2_decide (fun h => absurd h (bad_ne hg)) (fun _ => fin _ _ _ rfl (hE.trans hE2))
  | true =>
    refine CtOk_of KK_ok (tabQ t true) (annM [13, 17, 21] 17) (fn := Tryd.f5) rfl (fun _ _ => rfl) fun hn => ?_
    have hn : HasT t φ := hn
    rw [vc_whyG]
    refine ite2_decide (fun _ => fin _ _ _ rfl (Ext.refl _)) (fun hl => ite2_decide (fun _ => fin _ _ _ rfl (Ext.refl _)) (fun hl2 => ⟨hn, into_mk (by kernel_rfl) (by (repeat' first | exact trivial | exact rfl | apply And.intro)) (by (repeat' first | exact trivial | exact rfl | apply And.intro)), fun ψ hE => ⟨⟨by omega, hn.ext hE, hg⟩, into_mk (by kernel_rfl) (by (repeat' first | exact trivial | exact rfl | apply And.intro)) (by (repeat' first | exact trivial | exact rfl | apply And.intro)), ?_⟩⟩))
    rintro ⟨χ, ys⟩ ⟨hE2, hG⟩
    obtain ⟨hG, hL⟩ := hG rfl
    dsimp only at hE2 hG hL ⊢
    have hp := good_of hg
    rw [← hL] at hp
    obtain ⟨hw, h64, hsum, h4⟩ := parse_good hp
    have hlen := LL_len ys
    have hwo := R.why_ok hw p
    have lo1 := hwo.lo1
    have lo2 := hwo.lo2
    have hi1 := hwo.hi1
    have hi2 := hwo.hi2
    refine ⟨by omega, into_mk (by kernel_rfl) (by (repeat' first | exact trivial | exact rfl | apply And.intro)) (by (repeat' first | exact trivial | exact rfl | apply And.intro)), fun _ _ => ⟨⟨hG, by omega, by omega⟩, into_mk (by kernel_rfl) (by (repeat' first | exact trivial | exact rfl | apply And.intro)) (by (repeat' first | exact trivial | exact rfl | apply And.intro)), fun _ _ => ⟨by omega, into_mk (by kernel_rfl) (by (repeat' first | exact trivial | exact rfl | apply And.intro)) (by (repeat' first | exact trivial | exact rfl | apply And.intro)), ?_⟩⟩⟩
    rintro ⟨χ2, ms⟩ ⟨hE3, hGm, hm⟩
    dsimp only at hE3 hGm hm ⊢
    have hml : ms.length = ys.length := by rw [← LL_len, hm]; unfold mirB; rw [List.length_map, LL_len]
    have hmw : whyB (LL ms) p = whyB (LL ys) p := by rw [hm, why_mir]
    have hG2 : GoodL χ2 ys := hG.ext hE3
    have n1 : (GoodL χ2 ys ∧ p.size ≤ 1000000000 ∧ ys.length ≤ 1000) := ⟨hG2, by omega, by omega⟩
    refine ⟨⟨hGm, by omega, by omega⟩, into_mk (by kernel_rfl) (by (repeat' first | exact trivial | exact rfl | apply And.intro)) (by (repeat' first | exact trivial | exact rfl | apply And.intro)), fun _ _ => ⟨?_, ?_⟩⟩
    · refine ite2_decide (fun _ => ite2_decide (fun _ => ?_) (fun h => absurd (by rw [hmw]) h)) (fun h => absurd (by rw [hmw]) h)
      refine ite2_decide (fun h1 => ⟨n1, into_mk (by kernel_rfl) (by (repeat' first | exact trivial | exact rfl | apply And.intro)) (by (repeat' first | exact trivial | exact rfl | apply And.intro)), fun _ _ => ite2_decide (fun _ => ?_) (fun h => absurd (by rw [← hwo.sk, decide_eq_true h1]) h)⟩) (fun h1 => ⟨n1, into_mk (by kernel_rfl) (by (repeat' first | exact trivial | exact rfl | apply And.intro)) (by (repeat' first | exact trivial | exact rfl | apply And.intro)), fun _ _ => ite2_decide (fun _ => ?_) (fun h => absurd (by rw [← hwo.sk, decide_eq_false h1]) h)⟩)
      all_goals
        refine ite2_decide (fun h2 => ⟨n1, into_mk (by kernel_rfl) (by (repeat' first | exact trivial | exact rfl | apply And.intro)) (by (repeat' first | exact trivial | exact rfl | apply And.intro)), fun _ _ => ite2_decide (fun _ => ?_) (fun h => absurd (of_decide_eq_true (by rw [← hwo.pf, decide_eq_true h2])) h)⟩) (fun h2 => ⟨n1, into_mk (by kernel_rfl) (by (repeat' first | exact trivial | exact rfl | apply And.intro)) (by (repeat' first | exact trivial | exact rfl | apply And.intro)), fun _ _ => ite2_decide (fun h => absurd h (of_decide_eq_false (by rw [← hwo.pf, decide_eq_false h2]))) (fun _ => ?_)⟩)
      all_goals
        refine ite2_decide (fun h => absurd h (by omega)) (fun _ => ite2_decide (fun h => absurd h (by omega)) (fun _ => ite2_decide (fun h => absurd h (by omega)) (fun _ => ite2_decide (fun h => absurd h (by omega)) (fun _ => ⟨χ2, [], [0, 1, 2, 3, 4, 5], Ext.refl _, trivial, into_mk (by kernel_rfl) (by (repeat' first | exact trivial | exact rfl | apply And.intro)) (by (repeat' first | exact trivial | exact rfl | apply And.intro))⟩))))
    · intro ω hEz
      have hE5 : Ext φ ω := ((hE.trans hE2).trans hE3).trans hEz
      have hT := hn.ext hE5
      have hGy : GoodL ω ys := hG2.ext hEz
      refine ⟨?_, ?_⟩
      · refine ite2_decide (fun h1 => ?_) (fun _ => ⟨ω, [], [0, 1, 2, 3, 4, 5], Ext.refl _, trivial, into_mk (by kernel_rfl) (by (repeat' first | exact trivial | exact rfl | apply And.intro)) (by (repeat' first | exact trivial | exact rfl | apply And.intro))⟩)
        obtain ⟨r, hr, hr1, hr2, hr3⟩ := hwo.f h1
        have er : rd (α := Rl) (LL ys) ((whyB (LL ys) p).1 - 1).toNat (KK.dflt Kd.rule) = r := rd_of hr
        refine ⟨⟨hT, hw, h64, by omega, ⟨by omega, by omega⟩, by omega, by omega⟩, into_mk (by kernel_rfl) (by (repeat' first | exact trivial | exact rfl | apply And.intro)) (by (repeat' first | exact trivial | exact rfl | apply And.intro)), ?_⟩
        rintro ⟨χ3, us⟩ ⟨hE6, hGa, hLa⟩
        dsimp only at hE6 hGa hLa ⊢
        rw [only_this h1 hi1 hr] at hLa
        have hal : us.length = 1 := by rw [← LL_len, hLa]; rfl
        refine ⟨by unfold i64ok; omega, ⟨hT.ext hE6, hw, h64, by omega, ⟨by omega, by omega⟩, by omega, by omega⟩, into_mk (by kernel_rfl) (by (repeat' first | exact trivial | exact rfl | apply And.intro)) (by (repeat' first | exact trivial | exact rfl | apply And.intro)), ?_⟩
        rintro ⟨χ4, bs⟩ ⟨hE7, hGb, hLb⟩
        dsimp only at hE7 hGb hLb ⊢
        rw [only_these (by omega)] at hLb
        have hbl : bs.length ≤ ys.length := by rw [← LL_len, hLb, List.length_take]; omega
        refine ⟨by unfold i64ok; omega, ⟨by omega, by omega⟩, by omega, trivial, by omega, ite2_decide (fun _ => ?_) (fun h => absurd ((congrArg Prod.fst er).trans hr1) h)⟩
        refine ⟨⟨hGa.ext hE7, by omega, by omega⟩, into_mk (by kernel_rfl) (by (repeat' first | exact trivial | exact rfl | apply And.intro)) (by (repeat' first | exact trivial | exact rfl | apply And.intro)), fun _ _ => ite2_mk (fun _ => ?_) (fun h => absurd hr2 (by rw [← hLa, h]; simp))⟩
        refine ⟨⟨hGb, by omega, by omega⟩, into_mk (by kernel_rfl) (by (repeat' first | exact trivial | exact rfl | apply And.intro)) (by (repeat' first | exact trivial | exact rfl | apply And.intro)), fun _ _ => ite2_mk (fun h => absurd hr3 (by rw [← hLb, h]; simp)) (fun _ => ?_)⟩
        exact ⟨χ4, [], [0, 1, 2, 3, 4, 5], hE6.trans hE7, trivial, into_mk (by kernel_rfl) (by (repeat' first | exact trivial | exact rfl | apply And.intro)) (by (repeat' first | exact trivial | exact rfl | apply And.intro))⟩
      · intro ω2 hEz2
        have hT2 := hT.ext hEz2
        have hGy2 : GoodL ω2 ys := hGy.ext hEz2
        refine ⟨?_, fun ω3 hEz3 => fin _ _ _ rfl ((hE5.trans hEz2).trans hEz3)⟩
        refine ite2_decide (fun h1 => ?_) (fun _ => ⟨ω2, [], [0, 1, 2, 3, 4, 5], Ext.refl _, trivial, into_mk (by kernel_rfl) (by (repeat' first | exact trivial | exact rfl | apply And.intro)) (by (repeat' first | exact trivial | exact rfl | apply And.intro))⟩)
        obtain ⟨r, hr, hr1, hr2, hr3⟩ := hwo.t h1
        have er : rd (α := Rl) (LL ys) ((whyB (LL ys) p).2 - 1).toNat (KK.dflt Kd.rule) = r := rd_of hr
        have hrw := (hw r (List.mem_of_getElem? hr)).1
        have hbr : ∀ v : Int, v = (rd (α := Rl) (LL ys) ((whyB (LL ys) p).2 - 1).toNat (KK.dflt Kd.rule)).1 → i64ok (v - 1) := fun v hv => by
          rw [er] at hv
          unfold i64ok
          omega
        refine ⟨⟨hT2, hw, h64, by omega, ⟨by omega, by omega⟩, by omega, by omega⟩, into_mk (by kernel_rfl) (by (repeat' first | exact trivial | exact rfl | apply And.intro)) (by (repeat' first | exact trivial | exact rfl | apply And.intro)), ?_⟩
        rintro ⟨χ3, us⟩ ⟨hE6, hGa, hLa⟩
        dsimp only at hE6 hGa hLa ⊢
        rw [only_this h1 hi2 hr] at hLa
        have hal : us.length = 1 := by rw [← LL_len, hLa]; rfl
        refine ⟨⟨hT2.ext hE6, hw, h64, by omega, ⟨by omega, by omega⟩, by omega, by omega⟩, into_mk (by kernel_rfl) (by (repeat' first | exact trivial | exact rfl | apply And.intro)) (by (repeat' first | exact trivial | exact rfl | apply And.intro)), ?_⟩
        rintro ⟨χ4, bs⟩ ⟨hE7, hGb, hLb⟩
        dsimp only at hE7 hGb hLb ⊢
        rw [only_these (by omega)] at hLb
        have hbl : bs.length ≤ ys.length := by rw [← LL_len, hLb, List.length_take]; omega
        have n4 : (GoodL χ4 ys ∧ p.size ≤ 1000000000 ∧ ys.length ≤ 1000) := ⟨(hGy2.ext hE6).ext hE7, by omega, by omega⟩
        have q1 : 0 ≤ (whyB (LL ys) p).2 - 1 := by omega
        have q2 : (whyB (LL ys) p).2 - 1 < (LL ys).length := by omega
        have q3 : ((whyB (LL ys) p).2 - 1).toNat < (LL ys).length := by omega
        refine ⟨by unfold i64ok; omega, ⟨q1, q2⟩, q3, trivial, q3, hbr _ rfl, trivial, n4, into_mk (by kernel_rfl) (by (repeat' first | exact trivial | exact rfl | apply And.intro)) (by (repeat' first | exact trivial | exact rfl | apply And.intro)), fun _ _ => ite2_decide (fun _ => ⟨by (repeat' first | exact trivial | exact rfl | exact q1 | exact q2 | exact q3 | apply And.intro), ?_⟩) (fun h => absurd ((congrArg (fun r : Rl => r.1 - 1) er).trans hr1) h)⟩
        refine ⟨⟨hGa.ext hE7, by omega, by omega⟩, into_mk (by kernel_rfl) (by (repeat' first | exact trivial | exact rfl | apply And.intro)) (by (repeat' first | exact trivial | exact rfl | apply And.intro)), fun _ _ => ⟨trivial, n4, into_mk (by kernel_rfl) (by (repeat' first | exact trivial | exact rfl | apply And.intro)) (by (repeat' first | exact trivial | exact rfl | apply And.intro)), fun _ _ => ite2_decide (fun _ => ⟨trivial, ?_⟩) (fun h => absurd (by rw [hLa]; exact hr2) h)⟩⟩
        refine ⟨⟨hGb, by omega, by omega⟩, into_mk (by kernel_rfl) (by (repeat' first | exact trivial | exact rfl | apply And.intro)) (by (repeat' first | exact trivial | exact rfl | apply And.intro)), fun _ _ => ⟨trivial, n4, into_mk (by kernel_rfl) (by (repeat' first | exact trivial | exact rfl | apply And.intro)) (by (repeat' first | exact trivial | exact rfl | apply And.intro)), fun _ _ => ite2_decide (fun _ => ⟨trivial, ?_⟩) (fun h => absurd (by rw [hLb]; exact hr3) h)⟩⟩
        exact ⟨χ4, [], [0, 1, 2, 3, 4, 5], hE6.trans hE7, trivial, into_mk (by kernel_rfl) (by (repeat' first | exact trivial | exact rfl | apply And.intro)) (by (repeat' first | exact trivial | exact rfl | apply And.intro))⟩
end Go.Proofs.YtoidibkcdkdneaaDoor.T
end
