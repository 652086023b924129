/- Text 22 of 26 texts that prove the statement of RowParses; it holds without conditions beyond the statement's own. -/
import Derived.Laws.AppendOwn
import Derived.Laws.OwnMore
import Derived.Deep.MidRow
import Derived.Calls
import Derived.Deep.AppendSrc
import Derived.Maps.AppendAt
import Derived.IntWalk
import Derived.Tactics
import Derived.Laws.StructEq
import Derived.Orders
import Derived.Scope
import Derived.Deep.LoopGhost
import GoSem.Core.Utf8
import Derived.Laws.RangeAny
import Derived.Below
import Derived.Deep.Draws
import Derived.Deep.AppendLies
import Derived.OwnWalk
import Derived.Laws.BytesArg
import Derived.Laws.MakeOwn
import Derived.Deep.OwnRows
import Derived.Lib.ConvBytes
import Derived.Laws.Slices
import Derived.WalkKit
import Derived.KernelRfl
import Derived.RowKit3
import Derived.Deep.QuietTactic
import Derived.BigQuiet
import Derived.WideLaws
import Derived.Deep.DeepCutAuto
import Derived.Deep.CutBlock
import Derived.Deep.RegionHeld3
import Derived.Laws.Rows
import Derived.Lib.AppendStr
import Derived.ArgAppend
import Derived.Laws.IdiomCopy
import Derived.RowKit
import Derived.OrdersHeld
import Derived.Laws.BitsLemmas
import Derived.Test.YtoidibkcdkdneaaGreatDoorProg
import Derived.Lib.OthersKept
import Derived.WalkSmall
import Derived.Shelf.Strings.Builder1
import Derived.Shelf.Strings.Builder2
import Derived.Shelf.Strings.OnBuilder
import Derived.Shelf.Small.Wraps
import Derived.Shelf.Strings.Search1
import Derived.Shelf.Strings.Search2
import Derived.Shelf.Strings.Search3
import Derived.Shelf.Strings.Count
import Derived.Shelf.LaysM
import Derived.Shelf.Strings.Shaped
import Derived.Shelf.Strings.Prefix
import Derived.Shelf.Strings.Split
import Derived.Shelf.Unicode.DecodeSlow
import Derived.WalkLawsBesides
import Derived.StillTailTactics
import Derived.Lib.Split
import Derived.Lib.LastIndexByte
import Derived.Lib.Join
import Derived.Test.YtoidibkcdkdneaaGreatDoorKP6
import Derived.Test.YtoidibkcdkdneaaGreatDoorKP12
import Derived.Test.YtoidibkcdkdneaaGreatDoorKP20
namespace Foot
end Foot
namespace Go.Proofs
end Go.Proofs
namespace Go.Proofs.YtoidibkcdkdneaaGreatDoor
end Go.Proofs.YtoidibkcdkdneaaGreatDoor
namespace Go.Proofs.YtoidibkcdkdneaaGreatDoor.E
end Go.Proofs.YtoidibkcdkdneaaGreatDoor.E
namespace Go.Proofs.YtoidibkcdkdneaaGreatDoor.Hand
end Go.Proofs.YtoidibkcdkdneaaGreatDoor.Hand
namespace Go.Proofs.YtoidibkcdkdneaaGreatDoor.MPat
end Go.Proofs.YtoidibkcdkdneaaGreatDoor.MPat
namespace Go.Proofs.YtoidibkcdkdneaaGreatDoor.MStr
end Go.Proofs.YtoidibkcdkdneaaGreatDoor.MStr
namespace Go.Proofs.YtoidibkcdkdneaaGreatDoor.PRead
end Go.Proofs.YtoidibkcdkdneaaGreatDoor.PRead
namespace Go.Proofs.YtoidibkcdkdneaaGreatDoor.PSplit
end Go.Proofs.YtoidibkcdkdneaaGreatDoor.PSplit
namespace Go.Proofs.YtoidibkcdkdneaaGreatDoor.R
end Go.Proofs.YtoidibkcdkdneaaGreatDoor.R
namespace Go.Proofs.YtoidibkcdkdneaaGreatDoor.T
end Go.Proofs.YtoidibkcdkdneaaGreatDoor.T
namespace Go.Proofs.YtoidibkcdkdneaaGreatDoor.TR
end Go.Proofs.YtoidibkcdkdneaaGreatDoor.TR
namespace Go.Proofs.YtoidibkcdkdneaaGreatDoor.TrulesParses
end Go.Proofs.YtoidibkcdkdneaaGreatDoor.TrulesParses
namespace Go.Proofs.YtoidibkcdkdneaaGreatDoorW.PrintLast
end Go.Proofs.YtoidibkcdkdneaaGreatDoorW.PrintLast
namespace Go.Proofs.YtoidibkcdkdneaaGreatDoorW.PrintMore
end Go.Proofs.YtoidibkcdkdneaaGreatDoorW.PrintMore
namespace Go.Proofs.YtoidibkcdkdneaaGreatDoorW.PrintWords
end Go.Proofs.YtoidibkcdkdneaaGreatDoorW.PrintWords
namespace Kd
end Kd
section
namespace Go.Proofs.YtoidibkcdkdneaaGreatDoor.T
open Go.Proofs.YtoidibkcdkdneaaGreatDoor.E
inductive Kd | str | rule | line | hd | bool | sgn | int | rrule
  deriving DecidableEq
@[reducible] def Kd.α : Kd → Type | .str => ByteArray | .rule => Int × ByteArray | .line => Int × ByteArray × Nat | .hd => Int × ByteArray | .bool => Bool | .sgn => Bool × Bool × Int | .int => Int | .rrule => RS
def KK : Kinds where
  Kd := Kd
  deq := inferInstance
  α := Kd.α
  size := fun | .str => 1 | .rule => 2 | .line => 3 | .hd => 2 | .bool => 1 | .sgn => 3 | .int => 1 | .rrule => 1
  elem := fun | .str => 9 | .rule => 57 | .line => 74 | .hd => 83 | .bool => 4 | .sgn => 130 | .int => 3 | .rrule => 22
  enc := fun
    | .str => fun x => [.str x]
    | .rule => fun x => [.int .i64 x.1, .str x.2]
    | .line => fun x => [.int .i64 x.1, .str x.2.1, .fn 54 [(57, x.2.2)]]
    | .hd => fun x => [.int .i64 x.1, .str x.2]
    | .bool => fun x => [.bool x]
    | .sgn => fun x => [.bool x.1, .bool x.2.1, .int .u8 x.2.2]
    | .int => fun x => [.int .i64 x]
    | .rrule => fun x => [.rs 57 2 x]
  dec := fun
    | .str => fun | [.str x] => some x | _ => none
    | .rule => fun | [.int .i64 x, .str y] => some (x, y) | _ => none
    | .line => fun | [.int .i64 x, .str y, .fn 54 [(57, b)]] => some (x, y, b) | _ => none
    | .hd => fun | [.int .i64 x, .str y] => some (x, y) | _ => none
    | .bool => fun | [.bool x] => some x | _ => none
    | .sgn => fun | [.bool x, .bool y, .int .u8 z] => some (x, y, z) | _ => none
    | .int => fun | [.int .i64 x] => some x | _ => none
    | .rrule => fun | [.rs 57 2 x] => some x | _ => none
  dflt := fun | .str => (ByteArray.empty : ByteArray) | .rule => ((0 : Int), ByteArray.empty) | .line => ((0 : Int), ByteArray.empty, (0 : Nat)) | .hd => ((0 : Int), ByteArray.empty) | .bool => false | .sgn => (false, false, (0 : Int)) | .int => (0 : Int) | .rrule => RS.nil
  ofType := fun | 9 => some .str | 57 => some .rule | 74 => some .line | 83 => some .hd | 4 => some .bool | 130 => some .sgn | 3 => some .int | 22 => some .rrule | _ => none
theorem KK_ok : KK.Ok where
  pos := fun k => by cases k <;> decide
  len := fun k x => by cases k <;> rfl
  one := fun k x => List.all_eq_true.1 (by cases k <;> rfl)
  nm := fun k x c hc => Option.isNone_iff_eq_none.1 (List.all_eq_true.1 (show (KK.enc k x).all (fun c => c.nm.isNone) = true by cases k <;> rfl) c hc)
  dec := fun k cs x h => by
    cases k <;> simp only [KK] at h ⊢ <;> split at h <;> first | (injection h with h; subst h; rfl) | cases h
/-- Where the tables lie. -/
structure Tb where
  hb : Nat
  ob : Obj
  ho : Nat
  m : Int
  T0 : TypeId
  T1 : TypeId
  p0 : Nat × Nat
  p1 : Nat × Nat
def headsL : List (Int × ByteArray) := [((1 : Int), ⟨#[115, 107, 105, 112, 32]⟩), ((2 : Int), ⟨#[112, 114, 101, 102, 101, 114, 32, 97, 32]⟩), ((3 : Int), ⟨#[112, 114, 101, 102, 101, 114, 32, 98, 32]⟩)]
def headsC (t : Tb) : C := .ls 83 t.hb t.ho 3 3
/-- The tables stand in the bag. -/
def HasT (t : Tb) (φ : Bag KK) : Prop := φ 0 = some (.tab t.T0 t.p0 [headsC t]) ∧ φ 1 = some (.tab t.T1 t.p1 [.int .i64 t.m]) ∧ HasV φ t.hb t.ho Kd.hd headsL t.ob
def base (t : Tb) : TabBase Tryz.prog := ⟨by kernel_rfl, fun | 0 => some (headsC t) | _ => none⟩
def mixed : TabBase Tryz.prog := ⟨by kernel_rfl, fun _ => none⟩
def tab0 : Tab Tryz.prog KK := ⟨mixed, fun _ _ _ => none, fun _ _ _ _ _ _ h => nomatch h⟩
def ann0 : Ann KK := { loop := fun _ _ _ => none, cut := fun _ _ _ => none }
def ann1 (inv : Inv KK) : Ann KK := { loop := fun _ _ _ => some inv, cut := fun _ _ _ => none }
abbrev anys (n : Nat) : List VV := List.replicate n .any
theorem into_mk {N0 : Nat} {ks : List KK.Kd} {τ : List Nat} {vs : List VV} {H : VH KK} {us : List VV} {H' : VH KK}
    (hg : (nodupB (live τ H') && (τ.all (fun n => Nat.blt n (H.length + ks.length)) && (prefB N0 τ && (Nat.ble N0 H'.length && (us.all (VV.ltB H'.length) && (H'.all (Atom.ltB H'.length))))))) = true)
    (h1 : EqVs H.length (fun n => τ.getD n 0) vs us) (h2 : EqH H.length (fun n => τ.getD n 0) (H ++ nilsOf ks) τ H') : Into N0 ks τ vs H us H' := guardP_iff.2 ⟨hg, h1, h2⟩
abbrev i64 (n : Int) : VV := .c (.int .i64 n)
abbrev boolv (b : Bool) : VV := .c (.bool b)
abbrev strv (s : ByteArray) : VV := .c (.str s)
end Go.Proofs.YtoidibkcdkdneaaGreatDoor.T
end
section
namespace Go.Proofs.YtoidibkcdkdneaaGreatDoor.T
open Go.Proofs.YtoidibkcdkdneaaGreatDoor.E Go.Proofs.YtoidibkcdkdneaaGreatDoor.MStr Go.Proofs.YtoidibkcdkdneaaGreatDoor.R
open Go.RowKit
set_option maxRecDepth 100000
set_option linter.unusedVariables false
theorem ite2_mk {b : Bool} {p q : Prop} (h1 : b = true → p) (h2 : b = false → q) : ite2 b p q := by
  cases b
  · exact h2 rfl
  · exact h1 rfl
theorem flat_strs (l : List ByteArray) : (flat (K := KK) Kd.str l).map C.plain = l.map Value.string := by
  induction l with
  | nil => rfl
  | cons x t ih =>
    show Value.string x :: (flat (K := KK) Kd.str t).map C.plain = Value.string x :: t.map Value.string
    exact congrArg _ ih
theorem empty_ok {r : Nat → Ref} {w w' : World} (st : HeapOK (K := KK) (Ours r ([] : VH KK)) w r [] w) (h : Below w.heap.size w w') : HeapOK (K := KK) (Ours r ([] : VH KK)) w r [] w' := by
  have off : ∀ n, at_ ([] : VH KK) n = .gone := fun n => at_ge (by simp)
  refine ⟨fun n => by rw [off]; trivial, fun n => by rw [off]; trivial, fun n m b _ h1 => ?_, fun n b h1 => ?_, fun n m b h1 => ?_, ⟨h.os, h.tape, h.output, h.size, fun b hb _ => h.block b hb⟩⟩
  · rw [blkOf, off] at h1; exact h1.elim
  · rw [blkOf, off] at h1; exact h1.elim
  · rw [rbOf, off] at h1; simp [Atom.rb] at h1
theorem reps_strs {M : ByteArray → List Value → Prop} {l : List ByteArray} {cs : List Value} (hM : ∀ x c, M x c → c = [Value.string x]) (h : Go.Proofs.YtoidibkcdkdneaaGreatDoorW.PrintWords.Reps M 1 l cs) : cs = l.map Value.string := by
  obtain ⟨h1, h2⟩ := h
  apply List.ext_getElem?
  intro j
  rw [List.getElem?_map]
  cases hj : l[j]? with
  | none =>
    have := List.getElem?_eq_none_iff.1 hj
    rw [List.getElem?_eq_none (by omega)]; rfl
  | some x =>
    have h3 := hM _ _ (h2 j x hj)
    have h4 : ((cs.drop (j * 1)).take 1)[0]? = some (Value.string x) := by rw [h3]; rfl
    rw [List.getElem?_take, if_pos (by decide), List.getElem?_drop] at h4
    simpa using h4
/-- A list of texts that a call made, as a list of one's own. -/
theorem own_texts {r : Nat → Ref} {w w' : World} {v : Value} {l : List ByteArray} (st : HeapOK (K := KK) (Ours r ([] : VH KK)) w r [] w) (hb : Go.RowKit.Below w.heap.size w w') (h : Go.Proofs.YtoidibkcdkdneaaGreatDoorW.PrintWords.Kd.R Go.Proofs.YtoidibkcdkdneaaGreatDoorW.PrintWords.Kd.string 9 w' w.heap.size (fun _ => True) v l) :
    ∃ r' : Nat → Ref, HeapOK (K := KK) (Ours r ([] : VH KK)) w r' [(.arr Kd.str l : Atom KK)] w' ∧ (C.slc 0 0 l.length none).is r' v := by
  obtain ⟨_, inner, ho, hr⟩ := h
  obtain rfl := reps_strs (fun x c hc => hc) hr
  have ho : w'.ownsRow w.heap.size 9 1 v l.length (l.map Value.string) := ho
  have hbase : ∀ b, v.ownBlock = some b → w.heap.size ≤ b := fun b hb => Go.Proofs.YtoidibkcdkdneaaGreatDoorW.PrintWords.own_base ho b hb
  have ho0 : w'.ownsRow 0 (KK.elem Kd.str) (KK.size Kd.str) v l.length ((flat (K := KK) Kd.str l).map C.plain) := by
    rw [flat_strs]; exact Go.Proofs.YtoidibkcdkdneaaGreatDoorW.PrintWords.own_weaken ho (Nat.zero_le _)
  obtain ⟨x, hx, hsz, st2⟩ := st.owned none (row := none) ⟨hb.os, hb.tape, hb.output, hb.size, fun b hb' _ => hb.block b hb'⟩ (fun b hb' => by cases hb') ho0 (fun b hb' => .inr (hbase b hb'))
  refine ⟨_, st2, ?_⟩
  rw [hx]
  exact val_is (N := 0) upd_new hsz.2
def ct_match (s p : ByteArray) : Ct KK := { need := p.size ≤ 1000000000, pre := [], args := [strv s, strv p], Y := Unit, ok := fun _ => True, ret := fun _ => .tup [.c (.bool (Hand.matchB s p).1), .c (.int .i64 (Hand.matchB s p).2)], post := fun _ => [] }
theorem match_ok (s p : ByteArray) : CtOk Tryz.prog 21 (ct_match s p) := by
  refine ⟨fun _ _ => rfl, fun hn r w vals st ha _ => ?_⟩
  match vals, ha with
  | [v0, v1], ⟨hv0, hv1, _⟩ =>
    have hv0 : v0 = .string s := hv0
    have hv1 : v1 = .string p := hv1
    subst hv0 hv1
    refine (Hand.match_calls s p hn w).mono ?_
    rintro e w' ⟨rfl, hb⟩
    exact ⟨_, rfl, r, _, _, ⟨(), trivial, rfl, rfl⟩, ⟨_, rfl, rfl, rfl, trivial⟩, (fun c hc => by
      simp only [List.mem_cons, List.not_mem_nil, or_false] at hc
      rcases hc with rfl | rfl <;> exact lt_of_nm rfl), Nat.le_refl _, fun _ _ => rfl, RoKeep.none rfl, empty_ok st hb⟩
/-- path.Split: its error, and a list. -/
def ct_psplit (s : ByteArray) (n : Int) : Ct KK := { need := s.size ≤ 1000000000, pre := [], args := [strv s, i64 n], Y := Unit, ok := fun _ => True, ret := fun _ => .tup [.c (.slc 0 0 (Hand.splitB s n).1.length none), .c (.int .i64 (Hand.splitB s n).2)], post := fun _ => [.arr .str (Hand.splitB s n).1] }
theorem psplit_ok (s : ByteArray) (n : Int) : CtOk Tryz.prog 49 (ct_psplit s n) := by
  refine ⟨fun _ _ => rfl, fun hn r w vals st ha _ => ?_⟩
  have hn : s.size ≤ 1000000000 := hn
  match vals, ha with
  | [v0, v1], ⟨hv0, hv1, _⟩ =>
    have hv0 : v0 = .string s := hv0
    have hv1 : v1 = .int .i64 n := hv1
    subst hv0 hv1
    refine (Hand.split_calls s n (by omega) w).mono ?_
    rintro e w' ⟨v, rfl, hR, hb⟩
    obtain ⟨r', st', hv⟩ := own_texts st hb hR
    exact ⟨_, rfl, r', _, _, ⟨(), trivial, rfl, rfl⟩, ⟨_, rfl, hv, rfl, trivial⟩, (fun c hc => by
      simp only [List.mem_cons, List.not_mem_nil, or_false] at hc
      rcases hc with rfl | rfl
      · intro n hn; simp [C.nm] at hn; subst hn; exact Nat.zero_lt_one
      · exact lt_of_nm rfl), Nat.zero_le _, fun n hn => absurd hn (Nat.not_lt_zero n), RoKeep.none rfl, st'⟩
def ct_cutp (s p : ByteArray) : Ct KK := { need := True, pre := [], args := [strv s, strv p], Y := Unit, ok := fun _ => True, ret := fun _ => .tup [.c (.str (tx (Lib.trimPrefix s.data.toList p.data.toList))), .c (.bool (Lib.hasPrefix s.data.toList p.data.toList))], post := fun _ => [] }
theorem cutp_ok (s p : ByteArray) : CtOk Tryz.prog 47 (ct_cutp s p) := by
  refine ⟨fun _ _ => rfl, fun hn r w vals st ha _ => ?_⟩
  match vals, ha with
  | [v0, v1], ⟨hv0, hv1, _⟩ =>
    have hv0 : v0 = .string s := hv0
    have hv1 : v1 = .string p := hv1
    subst hv0 hv1
    refine (Tryz.strings_CutPrefix s p w).mono ?_
    rintro e w' ⟨rfl, rfl⟩
    exact ⟨_, rfl, r, _, _, ⟨(), trivial, rfl, rfl⟩, ⟨_, rfl, rfl, rfl, trivial⟩, (fun c hc => by
      simp only [List.mem_cons, List.not_mem_nil, or_false] at hc
      rcases hc with rfl | rfl <;> exact lt_of_nm rfl), Nat.le_refl _, fun _ _ => rfl, RoKeep.none rfl, st⟩
def ct_ssplit (s : ByteArray) (t : Tb) (φ : Bag KK) : Ct KK := { need := s.size ≤ 1000000000 ∧ HasT t φ, pre := [.bag φ], args := [strv s, strv nl], Y := Unit, ok := fun _ => True, ret := fun _ => .c (.slc 1 0 (linesB s).length none), post := fun _ => [.bag φ, .arr .str (linesB s)] }
theorem ssplit_ok (s : ByteArray) (t : Tb) (φ : Bag KK) : CtOk Tryz.prog 19 (ct_ssplit s t φ) := by
  refine ⟨fun _ _ => rfl, fun hn r w vals st ha _ => ?_⟩
  obtain ⟨hs, _, ht, _⟩ := hn
  match vals, ha with
  | [v0, v1], ⟨hv0, hv1, _⟩ =>
    have hv0 : v0 = .string s := hv0
    have hv1 : v1 = .string nl := hv1
    subst hv0 hv1
    have hbag : ∀ c i, φ c = some i → i.ok c w := st.ok 0
    obtain ⟨_, hv⟩ := hbag _ _ ht
    have hm : w.cell? ⟨1, 0, none⟩ = some (.int .i64 t.m) := by
      simp only [World.cell?, hv]; rfl
    refine (Tryz.strings_Split s nl t.m w (by omega) hm (by decide)).mono ?_
    rintro e w' ⟨rfl, rfl⟩
    refine ⟨_, rfl, ?_⟩
    have hsl : Lib.splitB nl 0 (Lib.countB s nl) s = linesB s := split_lines s
    have hcl : Lib.countB s nl + 1 = (linesB s).length := count_lines s
    rw [hsl, hcl]
    have hlen : (linesB s).length ≤ maxLen := by
      have := Lib.countB_le nl (by decide) s.size s (Nat.le_refl _)
      have e : 8000000000 ≤ maxLen := by decide
      omega
    refine After.newArr KK_ok st (kd := Kd.str) (xs := linesB s) ⟨(), trivial, rfl, rfl⟩ rfl (by simp [KK]) (Nat.le_refl _) hlen ?_
    rw [flat_strs]
    simp [KK]
    exact List.take_of_length_le (by simp)
/-- Joined with lines' ends, or slashes, between them. -/
def ljoin (l : List ByteArray) (sep : ByteArray) : ByteArray := ⟨(Lib.join (l.map (·.data.toList)) sep.data.toList).toArray⟩
def ct_sjoin (l : List ByteArray) (sep : ByteArray) : Ct KK := { need := l.length ≤ 140737488355328 ∧ (Lib.join (l.map (·.data.toList)) sep.data.toList).length ≤ 140737488355328, pre := [.ro .str l], args := [.c (.slc 0 0 l.length none), strv sep], Y := Unit, ok := fun _ => True, ret := fun _ => strv (ljoin l sep), post := fun _ => [.gone] }
theorem gone_ok {r : Nat → Ref} {w w' : World} {l : List ByteArray} (h : Below w.heap.size w w') : HeapOK (K := KK) (Ours r [(.ro Kd.str l : Atom KK)]) w r [.gone] w' := by
  have off : ∀ n, at_ ([.gone] : VH KK) n = .gone := fun n => by
    by_cases e : n = 0
    · subst e; rfl
    · exact at_ge (by simp; omega)
  refine ⟨fun n => by rw [off]; trivial, fun n => by rw [off]; trivial, fun n m b _ h1 => ?_, fun n b h1 => ?_, fun n m b h1 => ?_, ⟨h.os, h.tape, h.output, h.size, fun b hb _ => h.block b hb⟩⟩
  · rw [blkOf, off] at h1; exact h1.elim
  · rw [blkOf, off] at h1; exact h1.elim
  · rw [rbOf, off] at h1; simp [Atom.rb] at h1
theorem sjoin_ok (l : List ByteArray) (sep : ByteArray) : CtOk Tryz.prog 43 (ct_sjoin l sep) := by
  refine ⟨fun _ _ => rfl, fun hn r w vals st ha _ => ?_⟩
  obtain ⟨h1, h2⟩ := hn
  obtain ⟨hsz, hcap, hnl, hc⟩ := st.ok 0
  match vals, ha with
  | [v0, v1], ⟨hv0, hv1, _⟩ =>
    have hv1 : v1 = .string sep := hv1
    subst hv1
    obtain ⟨a, rfl, haa⟩ := hv0
    have haa : a = if (r 0).nl then none else some ⟨(r 0).blk, (r 0).off + 0 * (r 0).sz, none⟩ := haa.resolve_left (fun h => h.1 rfl)
    have fin : ∀ w', Below w.heap.size w w' → After (Ours r (ct_sjoin l sep).pre) w r (ct_sjoin l sep).pre (ct_sjoin l sep).Post (.string (ljoin l sep)) w' := fun w' hb =>
      ⟨r, _, _, ⟨(), trivial, rfl, rfl⟩, rfl, lt_of_nm rfl, Nat.le_refl _, fun _ _ => rfl, RoKeep.none rfl, gone_ok hb⟩
    cases l with
    | nil =>
      refine (Tryz.strings_Join_none a _ sep w).mono ?_
      rintro e w' ⟨rfl, rfl⟩
      exact ⟨_, rfl, fin _ (Below.refl _ _)⟩
    | cons x t =>
      have hnf : (r 0).nl = false := by
        cases hx : (r 0).nl with
        | false => rfl
        | true => have h3 := hnl hx; have h4 : (x :: t).length ≤ (r 0).cap := hcap; rw [h3] at h4; simp at h4
      rw [hnf] at haa
      obtain ⟨hb, hcell⟩ := hc (List.cons_ne_nil _ _)
      have hcells : ∀ (j : Nat) y, (x :: t)[j]? = some y → w.cell? ⟨(r 0).blk, (r 0).off + j, none⟩ = some (.string y) := fun j y hj =>
        hcell j (.string y) (by rw [flat_strs, List.getElem?_map, hj]; rfl)
      have haa : a = some ⟨(r 0).blk, (r 0).off, none⟩ := by simpa using haa
      rw [haa]
      refine (Tryz.strings_Join (r 0).blk (r 0).off _ (x :: t) sep w hcells hb h1 hcap h2).mono ?_
      rintro e w' ⟨rfl, hbl⟩
      exact ⟨_, rfl, fin _ hbl⟩
end Go.Proofs.YtoidibkcdkdneaaGreatDoor.T
end
section
namespace Go.Proofs.YtoidibkcdkdneaaGreatDoor.T
open Go.Proofs.YtoidibkcdkdneaaGreatDoor.E Go.Proofs.YtoidibkcdkdneaaGreatDoor.MStr Go.Proofs.YtoidibkcdkdneaaGreatDoor.R
set_option maxRecDepth 100000
set_option linter.unusedVariables false
abbrev Sn := Bool × Bool × Int
def toSn (x : Hand.Sg) : Sn := (x.f0, x.f1, x.f2)
def rsigL (l : List UInt8) : Option (List Sn) := (Hand.signsL l).map (·.map toSn)
def rsig (s : ByteArray) : List Sn := (rsigL s.data.toList).getD []
def rok (s : ByteArray) : Bool := (rsigL s.data.toList).isSome
def ct_rsigns (s : ByteArray) : Ct KK := { need := s.size ≤ 1000000, pre := [], args := [strv s], Y := Unit, ok := fun _ => True, ret := fun _ => .tup [.c (.slc 0 0 (rsig s).length none), .c (.bool (rok s))], post := fun _ => [.arr .sgn (rsig s)] }
def sigTo (s : ByteArray) (i : Nat) (acc : List Sn) : Prop := i ≤ s.size ∧ acc.length ≤ i ∧ (rsigL (s.data.toList.drop i)).map (acc ++ ·) = rsigL s.data.toList
def inv_rsigns (s : ByteArray) : Inv KK := { X := Nat × List Sn, fr := fun z => [strv s, .any, .any, .any, .c (.slc 0 0 z.2.length none), i64 z.1] ++ anys 45, H := fun z => [.arr .sgn z.2], ok := fun z => sigTo s z.1 z.2, meas := fun z => s.size - z.1 }
def ann_rsigns (s : ByteArray) : Ann KK := { loop := fun _ _ _ => some (inv_rsigns s), cut := fun _ _ _ => none, keep := some 6 }
def z0 : Sn := (false, false, 0)
def snMany (l : List Sn) (i : Nat) : Bool := (l.getD i z0).1
def snOne (l : List Sn) (s : ByteArray) (i k : Nat) : Bool := (l.getD i z0).2.1 || ((l.getD i z0).2.2 == E.bt s k)
/-- Do the signs from i on fit the name from k on? -/
def fitA (l : List Sn) (s : ByteArray) (i k : Nat) : Bool := MPat.mt l.length s.size (snMany l) (snOne l s) i k
def fitT (l : List Sn) (s : ByteArray) (j : Nat) : List Bool := (List.range (s.size + 1)).map (MPat.mt l.length s.size (snMany l) (snOne l s) j)
def fitR (l : List Sn) (s : ByteArray) (j m : Nat) : List Bool := (List.range (s.size + 1)).map fun k => if m ≤ k then MPat.mt l.length s.size (snMany l) (snOne l s) (j - 1) k else false
def ct_rfits (l : List Sn) (s : ByteArray) : Ct KK := { need := l.length ≤ 1000000 ∧ s.size ≤ 1000000, pre := [.ro .sgn l], args := [.c (.slc 0 0 l.length none), strv s], Y := Unit, ok := fun _ => True, ret := fun _ => boolv (fitA l s 0 0), post := fun _ => [.gone] }
def inv_rfitsO (l : List Sn) (s : ByteArray) : Inv KK := { X := Nat, fr := fun j => [.c (.slc 0 0 l.length none), strv s, .any, .any, .any, .c (.slc 1 0 (s.size + 1) none), i64 ((j : Int) - 1), .any, .any] ++ anys 86, H := fun j => [.ro .sgn l, .arr .bool (fitT l s j)], ok := fun j => j ≤ l.length, meas := fun j : Nat => j }
def inv_rfitsI (l : List Sn) (s : ByteArray) (v : Int) : Inv KK := { X := Nat, fr := fun m => [.c (.slc 0 0 l.length none), strv s, .any, .any, .any, .c (.slc 1 0 (s.size + 1) none), i64 v, .c (.slc 2 0 (s.size + 1) none), i64 ((m : Int) - 1)] ++ anys 86, H := fun m => [.ro .sgn l, .arr .bool (fitT l s (v + 1).toNat), .arr .bool (fitR l s (v + 1).toNat m)], ok := fun m => m ≤ s.size + 1, meas := fun m : Nat => m }
def ann_rfits (l : List Sn) (s : ByteArray) : Ann KK := { loop := fun id fr _ => match id with | 4 => some (inv_rfitsO l s) | _ => match fr.getD 6 .any with | .one (.c (.int _ v)) => some (inv_rfitsI l s v) | _ => none, cut := fun _ _ _ => none, keep := some 9 }
theorem vc_rsigns (s : ByteArray) : evFn tab0 (ann_rsigns s) Tryz.f72 (ct_rsigns s) = ( Enter 0 (inv_rsigns s) (fun (x : Nat × List Sn) => True) ([VV.one (V1.c (C.str s)), VV.any, VV.one (V1.c C.nils), boolv false, VV.one (V1.c C.nils), i64 (0 : Int)] ++ anys 45) [] ∧ ∀ (z : Nat × List Sn),
 sigTo s z.fst z.snd → ite2 (decide ((↑z.fst : Int) < (↑s.size : Int))) (((0 : Int) ≤ (↑z.fst : Int) ∧ (↑z.fst : Int) < (↑s.size : Int)) ∧ ite2 (decide (bt s (↑z.fst : Int).toNat = (42 : Int))) (z.snd.length
 = z.snd.length ∧ (1 ≤ 1 ∧ True) ∧ (z.snd.length + 1) * 3 ≤ 140737488355328 ∧ i64ok ((↑z.fst : Int) + (1 : Int)) ∧ Enter 0 (inv_rsigns s) (fun (z' : Nat × List Sn) => s.size - z'.fst < s.size - z.fst) ([VV.one
 (V1.c (C.str s)), VV.any, VV.any, VV.any, VV.one (V1.c (C.slc 2 0 (z.snd.length + 1) none)), i64 ((↑z.fst : Int) + (1 : Int))] ++ anys 45) [Atom.gone, Atom.arr Kd.sgn [(true, false, (0 : Int))], Atom.arr
 Kd.sgn (z.snd ++ [(true, false, (0 : Int))])]) (ite2 (decide (bt s (↑z.fst : Int).toNat = (63 : Int))) (z.snd.length = z.snd.length ∧ (1 ≤ 1 ∧ True) ∧ (z.snd.length + 1) * 3 ≤ 140737488355328 ∧ i64ok ((↑z.fst
 : Int) + (1 : Int)) ∧ Enter 0 (inv_rsigns s) (fun (z' : Nat × List Sn) => s.size - z'.fst < s.size - z.fst) ([VV.one (V1.c (C.str s)), VV.any, VV.any, VV.any, VV.one (V1.c (C.slc 2 0 (z.snd.length + 1)
 none)), i64 ((↑z.fst : Int) + (1 : Int))] ++ anys 45) [Atom.gone, Atom.arr Kd.sgn [(false, true, (0 : Int))], Atom.arr Kd.sgn (z.snd ++ [(false, true, (0 : Int))])]) (ite2 (decide (bt s (↑z.fst : Int).toNat
 = (92 : Int))) (i64ok ((↑z.fst : Int) + (1 : Int)) ∧ ite2 (decide ((↑z.fst : Int) + (1 : Int) = (↑s.size : Int))) (EndsAs 0 (ct_rsigns s) (VV.tup [V1.c C.nils, V1.c (C.bool false)]) [Atom.arr Kd.sgn z.snd])
 (i64ok ((↑z.fst : Int) + (1 : Int)) ∧ ((0 : Int) ≤ (↑z.fst : Int) + (1 : Int) ∧ (↑z.fst : Int) + (1 : Int) < (↑s.size : Int)) ∧ z.snd.length = z.snd.length ∧ (1 ≤ 1 ∧ True) ∧ (z.snd.length + 1) * 3 ≤ 140737488355328
 ∧ i64ok ((↑z.fst : Int) + (1 : Int) + (1 : Int)) ∧ Enter 0 (inv_rsigns s) (fun (z' : Nat × List Sn) => s.size - z'.fst < s.size - z.fst) ([VV.one (V1.c (C.str s)), VV.any, VV.any, VV.any, VV.one (V1.c
 (C.slc 2 0 (z.snd.length + 1) none)), i64 ((↑z.fst : Int) + (1 : Int) + (1 : Int))] ++ anys 45) [Atom.gone, Atom.arr Kd.sgn [(false, false, bt s ((↑z.fst : Int) + (1 : Int)).toNat)], Atom.arr Kd.sgn (z.snd
 ++ [(false, false, bt s ((↑z.fst : Int) + (1 : Int)).toNat)])])) (((0 : Int) ≤ (↑z.fst : Int) ∧ (↑z.fst : Int) < (↑s.size : Int)) ∧ z.snd.length = z.snd.length ∧ (1 ≤ 1 ∧ True) ∧ (z.snd.length + 1) * 3
 ≤ 140737488355328 ∧ i64ok ((↑z.fst : Int) + (1 : Int)) ∧ Enter 0 (inv_rsigns s) (fun (z' : Nat × List Sn) => s.size - z'.fst < s.size - z.fst) ([VV.one (V1.c (C.str s)), VV.any, VV.any, VV.any, VV.one
 (V1.c (C.slc 2 0 (z.snd.length + 1) none)), i64 ((↑z.fst : Int) + (1 : Int))] ++ anys 45) [Atom.gone, Atom.arr Kd.sgn [(false, false, bt s (↑z.fst : Int).toNat)], Atom.arr Kd.sgn (z.snd ++ [(false, false,
 bt s (↑z.fst : Int).toNat)])])))) (EndsAs 0 (ct_rsigns s) (VV.tup [V1.c (C.slc 0 0 z.snd.length none), V1.c (C.bool true)]) [Atom.arr Kd.sgn z.snd])) := by kernel_rfl
theorem vc_rfits (l : List Sn) (s : ByteArray) : evFn tab0 (ann_rfits l s) Tryz.f74 (ct_rfits l s) = ( i64ok ((↑s.size : Int) + (1 : Int)) ∧ ((0 : Int) ≤ (↑s.size : Int) + (1 : Int) ∧ (↑s.size : Int) + (1 : Int) ≤ (↑s.size : Int) + (1 : Int)) ∧ ((↑s.size : Int) + (1 : Int) ≤ (4611686018427387904 : Int)
 ∧ (1 : Int) * ((↑s.size : Int) + (1 : Int)) ≤ (281474976710656 : Int)) ∧ ((0 : Int) ≤ (↑s.size : Int) ∧ (↑s.size : Int) < (↑((↑s.size : Int) + (1 : Int)).toNat : Int)) ∧ (↑s.size : Int).toNat < (List.replicate
 ((↑s.size : Int) + (1 : Int)).toNat false).length ∧ True ∧ (↑s.size : Int).toNat < (List.replicate ((↑s.size : Int) + (1 : Int)).toNat false).length ∧ i64ok ((↑l.length : Int) - (1 : Int)) ∧ Enter 1 (inv_rfitsO
 l s) (fun (x : Nat) => True) ([VV.one (V1.c (C.slc 0 0 l.length none)), VV.one (V1.c (C.str s)), VV.any, VV.any, boolv false, VV.one (V1.c (C.slc 1 0 ((↑s.size : Int) + (1 : Int)).toNat none)), i64 ((↑l.length
 : Int) - (1 : Int))] ++ anys 88) [Atom.ro Kd.sgn l, Atom.arr Kd.bool ((List.replicate ((↑s.size : Int) + (1 : Int)).toNat false).set (↑s.size : Int).toNat true)] ∧ ∀ (z : Nat), z ≤ l.length → ite2 (decide
 ((0 : Int) ≤ (↑z : Int) - (1 : Int))) (i64ok ((↑s.size : Int) + (1 : Int)) ∧ ((0 : Int) ≤ (↑s.size : Int) + (1 : Int) ∧ (↑s.size : Int) + (1 : Int) ≤ (↑s.size : Int) + (1 : Int)) ∧ ((↑s.size : Int) + (1
 : Int) ≤ (4611686018427387904 : Int) ∧ (1 : Int) * ((↑s.size : Int) + (1 : Int)) ≤ (281474976710656 : Int)) ∧ Enter 1 (inv_rfitsI l s ((↑z : Int) - (1 : Int))) (fun (x : Nat) => True) ([VV.one (V1.c (C.slc
 0 0 l.length none)), VV.one (V1.c (C.str s)), VV.any, VV.any, VV.any, VV.one (V1.c (C.slc 1 0 (s.size + 1) none)), i64 ((↑z : Int) - (1 : Int)), VV.one (V1.c (C.slc 2 0 ((↑s.size : Int) + (1 : Int)).toNat
 none)), i64 (↑s.size : Int)] ++ anys 86) [Atom.ro Kd.sgn l, Atom.arr Kd.bool (fitT l s z), Atom.arr Kd.bool (List.replicate ((↑s.size : Int) + (1 : Int)).toNat false)] ∧ ∀ (z_1 : Nat), z_1 ≤ s.size + 1
 → ite2 (decide ((0 : Int) ≤ (↑z_1 : Int) - (1 : Int))) (((0 : Int) ≤ (↑z : Int) - (1 : Int) ∧ (↑z : Int) - (1 : Int) < (↑l.length : Int)) ∧ ((↑z : Int) - (1 : Int)).toNat < l.length ∧ True ∧ ((↑z : Int)
 - (1 : Int)).toNat < l.length ∧ ite2 (rd l ((↑z : Int) - (1 : Int)).toNat (KK.dflt Kd.sgn)).fst (((0 : Int) ≤ (↑z_1 : Int) - (1 : Int) ∧ (↑z_1 : Int) - (1 : Int) < (↑(s.size + 1) : Int)) ∧ ((↑z_1 : Int)
 - (1 : Int)).toNat < (fitT l s ((↑z : Int) - (1 : Int) + (1 : Int)).toNat).length ∧ True ∧ ((↑z_1 : Int) - (1 : Int)).toNat < (fitT l s ((↑z : Int) - (1 : Int) + (1 : Int)).toNat).length ∧ ite2 (rd (fitT
 l s ((↑z : Int) - (1 : Int) + (1 : Int)).toNat) ((↑z_1 : Int) - (1 : Int)).toNat false) (((0 : Int) ≤ (↑z_1 : Int) - (1 : Int) ∧ (↑z_1 : Int) - (1 : Int) < (↑(s.size + 1) : Int)) ∧ ((↑z_1 : Int) - (1 :
 Int)).toNat < (fitR l s ((↑z : Int) - (1 : Int) + (1 : Int)).toNat z_1).length ∧ True ∧ ((↑z_1 : Int) - (1 : Int)).toNat < (fitR l s ((↑z : Int) - (1 : Int) + (1 : Int)).toNat z_1).length ∧ i64ok ((↑z_1
 : Int) - (1 : Int) - (1 : Int)) ∧ Enter 1 (inv_rfitsI l s ((↑z : Int) - (1 : Int))) (fun (z' : Nat) => z' < z_1) ([VV.one (V1.c (C.slc 0 0 l.length none)), VV.one (V1.c (C.str s)), VV.any, VV.any, VV.any,
 VV.one (V1.c (C.slc 1 0 (s.size + 1) none)), i64 ((↑z : Int) - (1 : Int)), VV.one (V1.c (C.slc 2 0 (s.size + 1) none)), i64 ((↑z_1 : Int) - (1 : Int) - (1 : Int))] ++ anys 86) [Atom.ro Kd.sgn l, Atom.arr
 Kd.bool (fitT l s ((↑z : Int) - (1 : Int) + (1 : Int)).toNat), Atom.arr Kd.bool ((fitR l s ((↑z : Int) - (1 : Int) + (1 : Int)).toNat z_1).set ((↑z_1 : Int) - (1 : Int)).toNat true)]) (ite2 (decide ((↑z_1
 : Int) - (1 : Int) < (↑s.size : Int))) (i64ok ((↑z_1 : Int) - (1 : Int) + (1 : Int)) ∧ ((0 : Int) ≤ (↑z_1 : Int) - (1 : Int) + (1 : Int) ∧ (↑z_1 : Int) - (1 : Int) + (1 : Int) < (↑(s.size + 1) : Int))
 ∧ ((↑z_1 : Int) - (1 : Int) + (1 : Int)).toNat < (fitR l s ((↑z : Int) - (1 : Int) + (1 : Int)).toNat z_1).length ∧ True ∧ ((↑z_1 : Int) - (1 : Int) + (1 : Int)).toNat < (fitR l s ((↑z : Int) - (1 : Int)
 + (1 : Int)).toNat z_1).length ∧ ((0 : Int) ≤ (↑z_1 : Int) - (1 : Int) ∧ (↑z_1 : Int) - (1 : Int) < (↑(s.size + 1) : Int)) ∧ ((↑z_1 : Int) - (1 : Int)).toNat < (fitR l s ((↑z : Int) - (1 : Int) + (1 :
 Int)).toNat z_1).length ∧ True ∧ ((↑z_1 : Int) - (1 : Int)).toNat < (fitR l s ((↑z : Int) - (1 : Int) + (1 : Int)).toNat z_1).length ∧ i64ok ((↑z_1 : Int) - (1 : Int) - (1 : Int)) ∧ Enter 1 (inv_rfitsI
 l s ((↑z : Int) - (1 : Int))) (fun (z' : Nat) => z' < z_1) ([VV.one (V1.c (C.slc 0 0 l.length none)), VV.one (V1.c (C.str s)), VV.any, VV.any, VV.any, VV.one (V1.c (C.slc 1 0 (s.size + 1) none)), i64 ((↑z
 : Int) - (1 : Int)), VV.one (V1.c (C.slc 2 0 (s.size + 1) none)), i64 ((↑z_1 : Int) - (1 : Int) - (1 : Int))] ++ anys 86) [Atom.ro Kd.sgn l, Atom.arr Kd.bool (fitT l s ((↑z : Int) - (1 : Int) + (1 : Int)).toNat),
 Atom.arr Kd.bool ((fitR l s ((↑z : Int) - (1 : Int) + (1 : Int)).toNat z_1).set ((↑z_1 : Int) - (1 : Int)).toNat (rd (fitR l s ((↑z : Int) - (1 : Int) + (1 : Int)).toNat z_1) ((↑z_1 : Int) - (1 : Int)
 + (1 : Int)).toNat false))]) (((0 : Int) ≤ (↑z_1 : Int) - (1 : Int) ∧ (↑z_1 : Int) - (1 : Int) < (↑(s.size + 1) : Int)) ∧ ((↑z_1 : Int) - (1 : Int)).toNat < (fitR l s ((↑z : Int) - (1 : Int) + (1 : Int)).toNat
 z_1).length ∧ True ∧ ((↑z_1 : Int) - (1 : Int)).toNat < (fitR l s ((↑z : Int) - (1 : Int) + (1 : Int)).toNat z_1).length ∧ i64ok ((↑z_1 : Int) - (1 : Int) - (1 : Int)) ∧ Enter 1 (inv_rfitsI l s ((↑z :
 Int) - (1 : Int))) (fun (z' : Nat) => z' < z_1) ([VV.one (V1.c (C.slc 0 0 l.length none)), VV.one (V1.c (C.str s)), VV.any, VV.any, VV.any, VV.one (V1.c (C.slc 1 0 (s.size + 1) none)), i64 ((↑z : Int)
 - (1 : Int)), VV.one (V1.c (C.slc 2 0 (s.size + 1) none)), i64 ((↑z_1 : Int) - (1 : Int) - (1 : Int))] ++ anys 86) [Atom.ro Kd.sgn l, Atom.arr Kd.bool (fitT l s ((↑z : Int) - (1 : Int) + (1 : Int)).toNat),
 Atom.arr Kd.bool ((fitR l s ((↑z : Int) - (1 : Int) + (1 : Int)).toNat z_1).set ((↑z_1 : Int) - (1 : Int)).toNat false)]))) (ite2 (decide ((↑z_1 : Int) - (1 : Int) < (↑s.size : Int))) (i64ok ((↑z_1 : Int)
 - (1 : Int) + (1 : Int)) ∧ ((0 : Int) ≤ (↑z_1 : Int) - (1 : Int) + (1 : Int) ∧ (↑z_1 : Int) - (1 : Int) + (1 : Int) < (↑(s.size + 1) : Int)) ∧ ((↑z_1 : Int) - (1 : Int) + (1 : Int)).toNat < (fitT l s ((↑z
 : Int) - (1 : Int) + (1 : Int)).toNat).length ∧ True ∧ ((↑z_1 : Int) - (1 : Int) + (1 : Int)).toNat < (fitT l s ((↑z : Int) - (1 : Int) + (1 : Int)).toNat).length ∧ ite2 (rd (fitT l s ((↑z : Int) - (1
 : Int) + (1 : Int)).toNat) ((↑z_1 : Int) - (1 : Int) + (1 : Int)).toNat false) (((0 : Int) ≤ (↑z : Int) - (1 : Int) ∧ (↑z : Int) - (1 : Int) < (↑l.length : Int)) ∧ ((↑z : Int) - (1 : Int)).toNat < l.length
 ∧ True ∧ ((↑z : Int) - (1 : Int)).toNat < l.length ∧ ite2 (rd l ((↑z : Int) - (1 : Int)).toNat (KK.dflt Kd.sgn)).snd.fst (((0 : Int) ≤ (↑z_1 : Int) - (1 : Int) ∧ (↑z_1 : Int) - (1 : Int) < (↑(s.size +
 1) : Int)) ∧ ((↑z_1 : Int) - (1 : Int)).toNat < (fitR l s ((↑z : Int) - (1 : Int) + (1 : Int)).toNat z_1).length ∧ True ∧ True ∧ ((↑z_1 : Int) - (1 : Int)).toNat < (fitR l s ((↑z : Int) - (1 : Int) + (1
 : Int)).toNat z_1).length ∧ True ∧ i64ok ((↑z_1 : Int) - (1 : Int) - (1 : Int)) ∧ Enter 1 (inv_rfitsI l s ((↑z : Int) - (1 : Int))) (fun (z' : Nat) => z' < z_1) ([VV.one (V1.c (C.slc 0 0 l.length none)),
 VV.one (V1.c (C.str s)), VV.any, VV.any, VV.any, VV.one (V1.c (C.slc 1 0 (s.size + 1) none)), i64 ((↑z : Int) - (1 : Int)), VV.one (V1.c (C.slc 2 0 (s.size + 1) none)), VV.one (V1.c (C.int .i64 ((↑z_1
 : Int) - (1 : Int) - (1 : Int))))] ++ anys 86) [Atom.ro Kd.sgn l, Atom.arr Kd.bool (fitT l s ((↑z : Int) - (1 : Int) + (1 : Int)).toNat), Atom.arr Kd.bool ((fitR l s ((↑z : Int) - (1 : Int) + (1 : Int)).toNat
 z_1).set ((↑z_1 : Int) - (1 : Int)).toNat true)]) (((0 : Int) ≤ (↑z : Int) - (1 : Int) ∧ (↑z : Int) - (1 : Int) < (↑l.length : Int)) ∧ ((↑z : Int) - (1 : Int)).toNat < l.length ∧ True ∧ ((↑z : Int) - (1
 : Int)).toNat < l.length ∧ ((0 : Int) ≤ (↑z_1 : Int) - (1 : Int) ∧ (↑z_1 : Int) - (1 : Int) < (↑s.size : Int)) ∧ ite2 (decide ((rd l ((↑z : Int) - (1 : Int)).toNat (KK.dflt Kd.sgn)).snd.snd = bt s ((↑z_1
 : Int) - (1 : Int)).toNat)) (((0 : Int) ≤ (↑z_1 : Int) - (1 : Int) ∧ (↑z_1 : Int) - (1 : Int) < (↑(s.size + 1) : Int)) ∧ ((↑z_1 : Int) - (1 : Int)).toNat < (fitR l s ((↑z : Int) - (1 : Int) + (1 : Int)).toNat
 z_1).length ∧ True ∧ True ∧ ((↑z_1 : Int) - (1 : Int)).toNat < (fitR l s ((↑z : Int) - (1 : Int) + (1 : Int)).toNat z_1).length ∧ True ∧ i64ok ((↑z_1 : Int) - (1 : Int) - (1 : Int)) ∧ Enter 1 (inv_rfitsI
 l s ((↑z : Int) - (1 : Int))) (fun (z' : Nat) => z' < z_1) ([VV.one (V1.c (C.slc 0 0 l.length none)), VV.one (V1.c (C.str s)), VV.any, VV.any, VV.any, VV.one (V1.c (C.slc 1 0 (s.size + 1) none)), VV.one
 (V1.c (C.int .i64 ((↑z : Int) - (1 : Int)))), VV.one (V1.c (C.slc 2 0 (s.size + 1) none)), VV.one (V1.c (C.int .i64 ((↑z_1 : Int) - (1 : Int) - (1 : Int))))] ++ anys 86) [Atom.ro Kd.sgn l, Atom.arr Kd.bool
 (fitT l s ((↑z : Int) - (1 : Int) + (1 : Int)).toNat), Atom.arr Kd.bool ((fitR l s ((↑z : Int) - (1 : Int) + (1 : Int)).toNat z_1).set ((↑z_1 : Int) - (1 : Int)).toNat true)]) (((0 : Int) ≤ (↑z_1 : Int)
 - (1 : Int) ∧ (↑z_1 : Int) - (1 : Int) < (↑(s.size + 1) : Int)) ∧ ((↑z_1 : Int) - (1 : Int)).toNat < (fitR l s ((↑z : Int) - (1 : Int) + (1 : Int)).toNat z_1).length ∧ True ∧ True ∧ ((↑z_1 : Int) - (1
 : Int)).toNat < (fitR l s ((↑z : Int) - (1 : Int) + (1 : Int)).toNat z_1).length ∧ True ∧ i64ok ((↑z_1 : Int) - (1 : Int) - (1 : Int)) ∧ Enter 1 (inv_rfitsI l s ((↑z : Int) - (1 : Int))) (fun (z' : Nat)
 => z' < z_1) ([VV.one (V1.c (C.slc 0 0 l.length none)), VV.one (V1.c (C.str s)), VV.any, VV.any, VV.any, VV.one (V1.c (C.slc 1 0 (s.size + 1) none)), VV.one (V1.c (C.int .i64 ((↑z : Int) - (1 : Int)))),
 VV.one (V1.c (C.slc 2 0 (s.size + 1) none)), VV.one (V1.c (C.int .i64 ((↑z_1 : Int) - (1 : Int) - (1 : Int))))] ++ anys 86) [Atom.ro Kd.sgn l, Atom.arr Kd.bool (fitT l s ((↑z : Int) - (1 : Int) + (1 :
 Int)).toNat), Atom.arr Kd.bool ((fitR l s ((↑z : Int) - (1 : Int) + (1 : Int)).toNat z_1).set ((↑z_1 : Int) - (1 : Int)).toNat false)]))) (((0 : Int) ≤ (↑z_1 : Int) - (1 : Int) ∧ (↑z_1 : Int) - (1 : Int)
 < (↑(s.size + 1) : Int)) ∧ ((↑z_1 : Int) - (1 : Int)).toNat < (fitR l s ((↑z : Int) - (1 : Int) + (1 : Int)).toNat z_1).length ∧ True ∧ True ∧ ((↑z_1 : Int) - (1 : Int)).toNat < (fitR l s ((↑z : Int) -
 (1 : Int) + (1 : Int)).toNat z_1).length ∧ True ∧ i64ok ((↑z_1 : Int) - (1 : Int) - (1 : Int)) ∧ Enter 1 (inv_rfitsI l s ((↑z : Int) - (1 : Int))) (fun (z' : Nat) => z' < z_1) ([VV.one (V1.c (C.slc 0 0
 l.length none)), VV.one (V1.c (C.str s)), VV.any, VV.any, VV.any, VV.one (V1.c (C.slc 1 0 (s.size + 1) none)), i64 ((↑z : Int) - (1 : Int)), VV.one (V1.c (C.slc 2 0 (s.size + 1) none)), i64 ((↑z_1 : Int)
 - (1 : Int) - (1 : Int))] ++ anys 86) [Atom.ro Kd.sgn l, Atom.arr Kd.bool (fitT l s ((↑z : Int) - (1 : Int) + (1 : Int)).toNat), Atom.arr Kd.bool ((fitR l s ((↑z : Int) - (1 : Int) + (1 : Int)).toNat z_1).set
 ((↑z_1 : Int) - (1 : Int)).toNat false)])) (((0 : Int) ≤ (↑z_1 : Int) - (1 : Int) ∧ (↑z_1 : Int) - (1 : Int) < (↑(s.size + 1) : Int)) ∧ ((↑z_1 : Int) - (1 : Int)).toNat < (fitR l s ((↑z : Int) - (1 : Int)
 + (1 : Int)).toNat z_1).length ∧ True ∧ True ∧ ((↑z_1 : Int) - (1 : Int)).toNat < (fitR l s ((↑z : Int) - (1 : Int) + (1 : Int)).toNat z_1).length ∧ True ∧ i64ok ((↑z_1 : Int) - (1 : Int) - (1 : Int))
 ∧ Enter 1 (inv_rfitsI l s ((↑z : Int) - (1 : Int))) (fun (z' : Nat) => z' < z_1) ([VV.one (V1.c (C.slc 0 0 l.length none)), VV.one (V1.c (C.str s)), VV.any, VV.any, VV.any, VV.one (V1.c (C.slc 1 0 (s.size
 + 1) none)), i64 ((↑z : Int) - (1 : Int)), VV.one (V1.c (C.slc 2 0 (s.size + 1) none)), i64 ((↑z_1 : Int) - (1 : Int) - (1 : Int))] ++ anys 86) [Atom.ro Kd.sgn l, Atom.arr Kd.bool (fitT l s ((↑z : Int)
 - (1 : Int) + (1 : Int)).toNat), Atom.arr Kd.bool ((fitR l s ((↑z : Int) - (1 : Int) + (1 : Int)).toNat z_1).set ((↑z_1 : Int) - (1 : Int)).toNat false)]))) (i64ok ((↑z : Int) - (1 : Int) - (1 : Int))
 ∧ Enter 1 (inv_rfitsO l s) (fun (z' : Nat) => z' < z) ([VV.one (V1.c (C.slc 0 0 l.length none)), VV.one (V1.c (C.str s)), VV.any, VV.any, VV.any, VV.one (V1.c (C.slc 2 0 (s.size + 1) none)), i64 ((↑z :
 Int) - (1 : Int) - (1 : Int)), VV.one (V1.c (C.slc 2 0 (s.size + 1) none)), i64 ((↑z_1 : Int) - (1 : Int))] ++ anys 86) [Atom.ro Kd.sgn l, Atom.arr Kd.bool (fitT l s ((↑z : Int) - (1 : Int) + (1 : Int)).toNat),
 Atom.arr Kd.bool (fitR l s ((↑z : Int) - (1 : Int) + (1 : Int)).toNat z_1)])) (((0 : Int) ≤ (0 : Int) ∧ (0 : Int) < (↑(s.size + 1) : Int)) ∧ 0 < (fitT l s z).length ∧ True ∧ 0 < (fitT l s z).length ∧ EndsAs
 1 (ct_rfits l s) (boolv (rd (fitT l s z) 0 false)) [Atom.ro Kd.sgn l, Atom.arr Kd.bool (fitT l s z)])) := by kernel_rfl
theorem bt_nat (s : ByteArray) (i : Nat) (h : i < s.size) : E.bt s i = ((s.get! i).toNat : Int) := by
  unfold E.bt ByteArray.get!
  simp [Array.getElem!_eq_getD]
  rfl
theorem rsig_cons (c : UInt8) (t : List UInt8) (h : c ≠ 92) : rsigL (c :: t) = (rsigL t).map (toSn (Hand.one c) :: ·) := by
  unfold rsigL
  cases t with
  | nil => simp [Hand.signsL, h]
  | cons d t =>
    rw [Hand.signsL, if_neg h, Option.map_map, Option.map_map]
    rfl
theorem rsig_esc (d : UInt8) (t : List UInt8) : rsigL (92 :: d :: t) = (rsigL t).map (toSn (Hand.lit d) :: ·) := by
  unfold rsigL
  rw [Hand.signsL, if_pos rfl, Option.map_map, Option.map_map]
  rfl
theorem sigTo.next {s : ByteArray} {i : Nat} {acc : List Sn} (h : sigTo s i acc) (hi : i < s.size) (hc : s.get! i ≠ 92) (x : Sn) (hx : x = toSn (Hand.one (s.get! i))) : sigTo s (i + 1) (acc ++ [x]) := by
  obtain ⟨h1, h2, h3⟩ := h
  refine ⟨hi, by simp; omega, ?_⟩
  rw [drop_get s i hi, rsig_cons _ _ hc, Option.map_map] at h3
  rw [← h3, hx]
  congr 1
  funext l
  simp
theorem sigTo.esc {s : ByteArray} {i : Nat} {acc : List Sn} (h : sigTo s i acc) (hi : i + 1 < s.size) (hc : s.get! i = 92) (x : Sn) (hx : x = toSn (Hand.lit (s.get! (i + 1)))) : sigTo s (i + 1 + 1) (acc ++ [x]) := by
  obtain ⟨h1, h2, h3⟩ := h
  refine ⟨hi, by simp; omega, ?_⟩
  rw [drop_get s i (by omega), drop_get s (i + 1) hi, hc, rsig_esc, Option.map_map] at h3
  rw [← h3, hx]
  congr 1
  funext l
  simp
theorem rsigns_ok (s : ByteArray) : CtOk Tryz.prog 72 (ct_rsigns s) := CtOk_of KK_ok tab0 (ann_rsigns s) (fn := Tryz.f72) rfl (fun _ _ => rfl) fun hn => by
  have hn : s.size ≤ 1000000 := hn
  rw [vc_rsigns]
  simp only [Int.toNat_natCast]
  refine ⟨⟨((0 : Nat), []), [.sgn], [0], ⟨Nat.zero_le _, Nat.le_refl _, by cases h : rsigL s.data.toList <;> simp [h]⟩, trivial, into_mk (by kernel_rfl) (by (repeat' first | exact trivial | exact rfl | apply And.intro)) (by (repeat' first | exact trivial | exact rfl | apply And.intro))⟩, ?_⟩
  rintro ⟨i, acc⟩ hz
  have hz : sigTo s i acc := hz
  have h1 := hz.1
  have h2 := hz.2.1
  dsimp only
  have hq1 : ∀ x : Sn, acc.length + 1 = (acc ++ [x]).length := fun x => by simp
  refine ite2_decide (fun hl => ?_) (fun hl => ?_)
  · have hl1 : i < s.size := by omega
    have hb := bt_nat s i hl1
    have hlt : (s.get! i).toNat < 256 := UInt8.toNat_lt _
    have me : s.size - (i + 1) < s.size - i := by omega
    have ch : ∀ k : Nat, k < 256 → E.bt s i = k → s.get! i = UInt8.ofNat k := fun k hk e => by
      apply UInt8.toNat_inj.1
      rw [UInt8.toNat_ofNat', Nat.mod_eq_of_lt hk]
      omega
    refine ⟨⟨by omega, hl⟩, ite2_decide (fun h => ?_) (fun h => ite2_decide (fun h' => ?_) (fun h' => ite2_decide (fun h'' => ?_) (fun h'' => ?_)))⟩
    · have hc := ch 42 (by decide) h
      exact ⟨by (repeat' first | exact trivial | exact rfl | exact Nat.le_refl _ | apply And.intro), by (repeat' first | exact trivial | exact rfl | exact Nat.le_refl _ | apply And.intro), by omega, by unfold i64ok; omega, (i + 1, acc ++ [((true, false, 0) : Sn)]), [], [2], hz.next hl1 (by rw [hc]; decide) _ (by rw [hc]; rfl), me, into_mk (by kernel_rfl) (by (repeat' first | exact trivial | exact rfl | exact hq1 _ | apply And.intro)) (by (repeat' first | exact trivial | exact rfl | exact hq1 _ | apply And.intro))⟩
    · have hc := ch 63 (by decide) h'
      exact ⟨by (repeat' first | exact trivial | exact rfl | exact Nat.le_refl _ | apply And.intro), by (repeat' first | exact trivial | exact rfl | exact Nat.le_refl _ | apply And.intro), by omega, by unfold i64ok; omega, (i + 1, acc ++ [((false, true, 0) : Sn)]), [], [2], hz.next hl1 (by rw [hc]; decide) _ (by rw [hc]; rfl), me, into_mk (by kernel_rfl) (by (repeat' first | exact trivial | exact rfl | exact hq1 _ | apply And.intro)) (by (repeat' first | exact trivial | exact rfl | exact hq1 _ | apply And.intro))⟩
    · have hc := ch 92 (by decide) h''
      refine ⟨by unfold i64ok; omega, ite2_decide (fun he => ?_) (fun he => ?_)⟩
      · have hno : rsigL s.data.toList = none := by
          rw [← hz.2.2, drop_get s i hl1, List.drop_eq_nil_of_le (by simp; omega), hc]
          rfl
        have hq2 : 0 = (rsig s).length := by unfold rsig; rw [hno]; rfl
        have hq3 : false = rok s := by unfold rok; rw [hno]; rfl
        have hq4 : ([] : List Sn) = rsig s := by unfold rsig; rw [hno]; rfl
        exact ⟨(), [.sgn], [1], trivial, by (repeat' first | exact trivial | exact rfl | exact hq2 | exact hq2.symm | exact hq3 | exact hq4 | apply And.intro)⟩
      · have hl2 : i + 1 < s.size := by omega
        have hb2 := bt_nat s (i + 1) hl2
        have et : ((i : Int) + 1).toNat = i + 1 := by omega
        simp only [et]
        exact ⟨by unfold i64ok; omega, ⟨by omega, by omega⟩, by (repeat' first | exact trivial | exact rfl | exact Nat.le_refl _ | apply And.intro), by (repeat' first | exact trivial | exact rfl | exact Nat.le_refl _ | apply And.intro), by omega, by unfold i64ok; omega, (i + 1 + 1, acc ++ [((false, false, E.bt s (i + 1)) : Sn)]), [], [2], hz.esc hl2 hc _ (by rw [hb2]; rfl), (show s.size - (i + 1 + 1) < s.size - i by omega), into_mk (by kernel_rfl) (by (repeat' first | exact trivial | exact rfl | exact hq1 _ | apply And.intro)) (by (repeat' first | exact trivial | exact rfl | exact hq1 _ | apply And.intro))⟩
    · have hne : s.get! i ≠ 92 := fun e => h'' (by rw [hb, e]; rfl)
      have e1 : ¬ s.get! i = 42 := fun e => h (by rw [hb, e]; rfl)
      have e2 : ¬ s.get! i = 63 := fun e => h' (by rw [hb, e]; rfl)
      exact ⟨⟨by omega, hl⟩, by (repeat' first | exact trivial | exact rfl | exact Nat.le_refl _ | apply And.intro), by (repeat' first | exact trivial | exact rfl | exact Nat.le_refl _ | apply And.intro), by omega, by unfold i64ok; omega, (i + 1, acc ++ [((false, false, E.bt s i) : Sn)]), [], [2], hz.next hl1 hne _ (by unfold Hand.one; rw [if_neg e1, if_neg e2, hb]; rfl), me, into_mk (by kernel_rfl) (by (repeat' first | exact trivial | exact rfl | exact hq1 _ | apply And.intro)) (by (repeat' first | exact trivial | exact rfl | exact hq1 _ | apply And.intro))⟩
  · have hsm : rsigL s.data.toList = some acc := by
      rw [← hz.2.2, List.drop_eq_nil_of_le (by simp; omega)]
      simp [rsigL, Hand.signsL]
    have hq2 : acc.length = (rsig s).length := by unfold rsig; rw [hsm]; rfl
    have hq3 : true = rok s := by unfold rok; rw [hsm]; rfl
    have hq4 : acc = rsig s := by unfold rsig; rw [hsm]; rfl
    exact ⟨(), [], [0], trivial, by (repeat' first | exact trivial | exact rfl | exact hq2 | exact hq2.symm | exact hq3 | exact hq4 | apply And.intro)⟩
theorem rd_map {f : Nat → Bool} {n k : Nat} (h : k < n) : rd ((List.range n).map f) k false = f k := by
  unfold rd
  rw [List.getD_eq_getElem?_getD, List.getElem?_map, List.getElem?_range h]
  rfl
theorem set_map {f g : Nat → Bool} {n k : Nat} {v : Bool} (hv : v = g k) (h : ∀ j, j < n → j ≠ k → g j = f j) : ((List.range n).map f).set k v = (List.range n).map g := by
  apply List.ext_getElem?
  intro j
  rw [List.getElem?_set, List.getElem?_map, List.getElem?_map, List.length_map, List.length_range]
  by_cases e : k = j
  · subst e
    rw [if_pos rfl]
    by_cases hk : k < n
    · rw [if_pos hk, List.getElem?_range hk, hv]; rfl
    · rw [if_neg hk, List.getElem?_eq_none (by simp; omega)]; rfl
  · rw [if_neg e]
    by_cases hj : j < n
    · rw [List.getElem?_range hj]
      show some (f j) = some (g j)
      rw [h j hj (fun e' => e e'.symm)]
    · rw [List.getElem?_eq_none (by simp; omega)]; rfl
theorem rep_map {n : Nat} : List.replicate n false = (List.range n).map fun _ => false := by
  rw [List.map_const', List.length_range]
theorem map_congr {f g : Nat → Bool} {n : Nat} (h : ∀ j, j < n → f j = g j) : (List.range n).map f = (List.range n).map g := List.map_congr_left fun j hj => h j (List.mem_range.1 hj)
section mt
variable {n of : Nat} {M : Nat → Bool} {O : Nat → Nat → Bool}
def mtT (n of : Nat) (M : Nat → Bool) (O : Nat → Nat → Bool) (j : Nat) : List Bool := (List.range (of + 1)).map (MPat.mt n of M O j)
def mtR (n of : Nat) (M : Nat → Bool) (O : Nat → Nat → Bool) (j m : Nat) : List Bool := (List.range (of + 1)).map fun k => if m ≤ k then MPat.mt n of M O (j - 1) k else false
theorem mtT_len (j : Nat) : (mtT n of M O j).length = of + 1 := by simp [mtT]
theorem mtR_len (j m : Nat) : (mtR n of M O j m).length = of + 1 := by simp [mtR]
theorem mtT_rd {j k : Nat} (h : k < of + 1) : rd (mtT n of M O j) k false = MPat.mt n of M O j k := rd_map h
theorem mtR_rd {j m k : Nat} (h : k < of + 1) (hm : m ≤ k) : rd (mtR n of M O j m) k false = MPat.mt n of M O (j - 1) k := by
  rw [mtR, rd_map h, if_pos hm]
theorem mt_first : (List.replicate (of + 1) false).set of true = mtT n of M O n := by
  rw [rep_map]
  refine (set_map (g := fun k => decide (of ≤ k)) (by simp) (fun j h hj => ?_)).trans (map_congr fun j hj => ?_)
  · exact decide_eq_false (by omega)
  · rw [MPat.mt_end (Nat.lt_irrefl _)]
theorem mtR_start (j : Nat) : List.replicate (of + 1) false = mtR n of M O j (of + 1) := by
  rw [rep_map]
  exact map_congr fun k hk => by rw [if_neg (by omega)]
theorem mtR_end (j : Nat) : mtR n of M O (j + 1) 0 = mtT n of M O j := map_congr fun k hk => by rw [if_pos (Nat.zero_le _)]; rfl
theorem mtR_set {j m : Nat} {v : Bool} (hv : v = MPat.mt n of M O j m) : (mtR n of M O (j + 1) (m + 1)).set m v = mtR n of M O (j + 1) m :=
  set_map (by rw [if_pos (Nat.le_refl _)]; exact hv) fun k hk hne => by
    by_cases h : m ≤ k
    · rw [if_pos h, if_pos (by omega)]
    · rw [if_neg h, if_neg (by omega)]
end mt
theorem rfits_ok (l : List Sn) (s : ByteArray) : CtOk Tryz.prog 74 (ct_rfits l s) := CtOk_of KK_ok tab0 (ann_rfits l s) (fn := Tryz.f74) rfl (fun _ _ => rfl) fun hn => by
  obtain ⟨hn1, hn2⟩ := hn
  rw [vc_rfits]
  have es : ((s.size : Int) + 1).toNat = s.size + 1 := by omega
  have tl : ∀ j, (fitT l s j).length = s.size + 1 := fun j => mtT_len j
  have rl' : ∀ j m, (fitR l s j m).length = s.size + 1 := fun j m => mtR_len j m
  simp only [Int.toNat_natCast, es, List.length_replicate]
  have hq1 : (List.replicate (s.size + 1) false).set s.size true = fitT l s l.length := mt_first
  refine ⟨by unfold i64ok; omega, ⟨by omega, by omega⟩, ⟨by omega, by omega⟩, ⟨by omega, by omega⟩, by omega, trivial, by omega, by unfold i64ok; omega, ⟨l.length, [], [0, 1], Nat.le_refl _, trivial, into_mk (by kernel_rfl) (by (repeat' first | exact trivial | exact rfl | exact hq1 | apply And.intro)) (by (repeat' first | exact trivial | exact rfl | exact hq1 | apply And.intro))⟩, ?_⟩
  intro j hj
  have hj : j ≤ l.length := hj
  refine ite2_decide (fun hj0 => ?_) (fun hj0 => ?_)
  · obtain ⟨i, rfl⟩ : ∃ i, j = i + 1 := ⟨j - 1, by omega⟩
    have e1 : ((i + 1 : Nat) : Int) - 1 = (i : Int) := by omega
    have e2 : ((i : Int) + 1).toNat = i + 1 := by omega
    simp only [e1, e2, Int.toNat_natCast]
    have e5 : (((i + 1 : Nat) : Int) - 1 + 1).toNat = i + 1 := by omega
    have hq2 : List.replicate (s.size + 1) false = fitR l s (((i + 1 : Nat) : Int) - 1 + 1).toNat (s.size + 1) := by rw [e5]; exact mtR_start _
    have hq3 : (s.size : Int) = ((s.size + 1 : Nat) : Int) - 1 := by omega
    have hq4 : (i : Int) = ((i + 1 : Nat) : Int) - 1 := by omega
    have hq5 : fitT l s (i + 1) = fitT l s (((i + 1 : Nat) : Int) - 1 + 1).toNat := by rw [e5]
    have hil : i < l.length := by omega
    refine ⟨by unfold i64ok; omega, ⟨by omega, by omega⟩, ⟨by omega, by omega⟩, ⟨(s.size + 1 : Nat), [], [0, 1, 2], Nat.le_refl _, trivial, into_mk (by kernel_rfl) (by (repeat' first | exact trivial | exact rfl | exact hq2 | exact hq3 | exact hq4 | exact hq5 | apply And.intro)) (by (repeat' first | exact trivial | exact rfl | exact hq2 | exact hq3 | exact hq4 | exact hq5 | apply And.intro))⟩, ?_⟩
    intro m hm
    have hm : m ≤ s.size + 1 := hm
    refine ite2_decide (fun hm0 => ?_) (fun hm0 => ?_)
    · obtain ⟨k, rfl⟩ : ∃ k, m = k + 1 := ⟨m - 1, by omega⟩
      have e3 : ((k + 1 : Nat) : Int) - 1 = (k : Int) := by omega
      have e4 : ((k : Int) + 1).toNat = k + 1 := by omega
      simp only [e3, e4, Int.toNat_natCast, tl, rl']
      have hk : k < s.size + 1 := by omega
      have io : i64ok ((k : Int) - 1) := by unfold i64ok; omega
      have hM : (rd (α := Sn) l i (KK.dflt Kd.sgn)).1 = snMany l i := rfl
      have set_ : ∀ v : Bool, v = MPat.mt l.length s.size (snMany l) (snOne l s) i k → (fitR l s (i + 1) (k + 1)).set k v = fitR l s (((i + 1 : Nat) : Int) - 1 + 1).toNat k := fun v hv => by rw [e5]; exact mtR_set hv
      have rT : ∀ q, q < s.size + 1 → rd (fitT l s (i + 1)) q false = MPat.mt l.length s.size (snMany l) (snOne l s) (i + 1) q := fun q hq => mtT_rd hq
      refine ⟨⟨by omega, by omega⟩, hil, trivial, hil, ite2_mk (fun h1 => ?_) (fun h1 => ?_)⟩
      · have hmt := MPat.mt_many (M := snMany l) (O := snOne l s) (of := s.size) (k := k) hil h1
        refine ⟨⟨by omega, by omega⟩, hk, trivial, hk, ite2_mk (fun h2 => ?_) (fun h2 => ite2_decide (fun h3 => ?_) (fun h3 => ?_))⟩
        · rw [rT k hk] at h2
          have hq7 := set_ true (by rw [hmt, h2]; rfl)
          exact ⟨⟨by omega, by omega⟩, hk, trivial, hk, io, (k : Nat), [], [0, 1, 2], (show k ≤ s.size + 1 by omega), (show k < k + 1 by omega), into_mk (by kernel_rfl) (by (repeat' first | exact trivial | exact rfl | exact hq7 | exact hq4 | exact hq5 | apply And.intro)) (by (repeat' first | exact trivial | exact rfl | exact hq7 | exact hq4 | exact hq5 | apply And.intro))⟩
        · rw [rT k hk] at h2
          have h3' : k < s.size := by omega
          have hR : rd (fitR l s (i + 1) (k + 1)) (k + 1) false = MPat.mt l.length s.size (snMany l) (snOne l s) i (k + 1) := mtR_rd (by omega) (Nat.le_refl _)
          have hq7 := set_ (rd (fitR l s (i + 1) (k + 1)) (k + 1) false) (by rw [hmt, h2, if_pos h3', hR]; rfl)
          exact ⟨by unfold i64ok; omega, ⟨by omega, by omega⟩, by omega, trivial, by omega, ⟨by omega, by omega⟩, hk, trivial, hk, io, (k : Nat), [], [0, 1, 2], (show k ≤ s.size + 1 by omega), (show k < k + 1 by omega), into_mk (by kernel_rfl) (by (repeat' first | exact trivial | exact rfl | exact hq7 | exact hq4 | exact hq5 | apply And.intro)) (by (repeat' first | exact trivial | exact rfl | exact hq7 | exact hq4 | exact hq5 | apply And.intro))⟩
        · rw [rT k hk] at h2
          have hq7 := set_ false (by rw [hmt, h2, if_neg (by omega)]; rfl)
          exact ⟨⟨by omega, by omega⟩, hk, trivial, hk, io, (k : Nat), [], [0, 1, 2], (show k ≤ s.size + 1 by omega), (show k < k + 1 by omega), into_mk (by kernel_rfl) (by (repeat' first | exact trivial | exact rfl | exact hq7 | exact hq4 | exact hq5 | apply And.intro)) (by (repeat' first | exact trivial | exact rfl | exact hq7 | exact hq4 | exact hq5 | apply And.intro))⟩
      · have hmt := MPat.mt_one (M := snMany l) (O := snOne l s) (of := s.size) (k := k) hil h1
        refine ite2_decide (fun h3 => ?_) (fun h3 => ?_)
        · have h3' : k < s.size := by omega
          rw [if_pos h3'] at hmt
          refine ⟨by unfold i64ok; omega, ⟨by omega, by omega⟩, by omega, trivial, by omega, ite2_mk (fun h2 => ?_) (fun h2 => ?_)⟩
          · rw [rT (k + 1) (by omega)] at h2
            refine ⟨⟨by omega, by omega⟩, hil, trivial, hil, ite2_mk (fun h4 => ?_) (fun h4 => ?_)⟩
            · have hO : snOne l s i k = true := by
                have h4' : (l.getD i z0).2.1 = true := h4
                unfold snOne; rw [h4']; rfl
              have hq7 := set_ true (by rw [hmt, h2, hO]; rfl)
              exact ⟨⟨by omega, by omega⟩, hk, trivial, trivial, hk, trivial, io, (k : Nat), [], [0, 1, 2], (show k ≤ s.size + 1 by omega), (show k < k + 1 by omega), into_mk (by kernel_rfl) (by (repeat' first | exact trivial | exact rfl | exact hq7 | exact hq4 | exact hq5 | apply And.intro)) (by (repeat' first | exact trivial | exact rfl | exact hq7 | exact hq4 | exact hq5 | apply And.intro))⟩
            · have h4' : (l.getD i z0).2.1 = false := h4
              refine ⟨⟨by omega, by omega⟩, hil, trivial, hil, ⟨by omega, by omega⟩, ite2_decide (fun h5 => ?_) (fun h5 => ?_)⟩
              · have hO : snOne l s i k = true := by
                  have h5' : (l.getD i z0).2.2 = E.bt s k := h5
                  unfold snOne; rw [h4', h5']; simp
                have hq7 := set_ true (by rw [hmt, h2, hO]; rfl)
                exact ⟨⟨by omega, by omega⟩, hk, trivial, trivial, hk, trivial, io, (k : Nat), [], [0, 1, 2], (show k ≤ s.size + 1 by omega), (show k < k + 1 by omega), into_mk (by kernel_rfl) (by (repeat' first | exact trivial | exact rfl | exact hq7 | exact hq4 | exact hq5 | apply And.intro)) (by (repeat' first | exact trivial | exact rfl | exact hq7 | exact hq4 | exact hq5 | apply And.intro))⟩
              · have hO : snOne l s i k = false := by
                  have h5' : ¬ (l.getD i z0).2.2 = E.bt s k := h5
                  unfold snOne; rw [h4']; simp only [Bool.false_or]; exact beq_eq_false_iff_ne.2 h5'
                have hq7 := set_ false (by rw [hmt, hO]; rfl)
                exact ⟨⟨by omega, by omega⟩, hk, trivial, trivial, hk, trivial, io, (k : Nat), [], [0, 1, 2], (show k ≤ s.size + 1 by omega), (show k < k + 1 by omega), into_mk (by kernel_rfl) (by (repeat' first | exact trivial | exact rfl | exact hq7 | exact hq4 | exact hq5 | apply And.intro)) (by (repeat' first | exact trivial | exact rfl | exact hq7 | exact hq4 | exact hq5 | apply And.intro))⟩
          · rw [rT (k + 1) (by omega)] at h2
            have hq7 := set_ false (by rw [hmt, h2, Bool.and_false])
            exact ⟨⟨by omega, by omega⟩, hk, trivial, trivial, hk, trivial, io, (k : Nat), [], [0, 1, 2], (show k ≤ s.size + 1 by omega), (show k < k + 1 by omega), into_mk (by kernel_rfl) (by (repeat' first | exact trivial | exact rfl | exact hq7 | exact hq4 | exact hq5 | apply And.intro)) (by (repeat' first | exact trivial | exact rfl | exact hq7 | exact hq4 | exact hq5 | apply And.intro))⟩
        · rw [if_neg (by omega)] at hmt
          have hq7 := set_ false (by rw [hmt])
          exact ⟨⟨by omega, by omega⟩, hk, trivial, trivial, hk, trivial, io, (k : Nat), [], [0, 1, 2], (show k ≤ s.size + 1 by omega), (show k < k + 1 by omega), into_mk (by kernel_rfl) (by (repeat' first | exact trivial | exact rfl | exact hq7 | exact hq4 | exact hq5 | apply And.intro)) (by (repeat' first | exact trivial | exact rfl | exact hq7 | exact hq4 | exact hq5 | apply And.intro))⟩
    · obtain rfl : m = 0 := by omega
      have hq7 : fitR l s (i + 1) 0 = fitT l s i := mtR_end i
      exact ⟨by unfold i64ok; omega, (i : Nat), [], [0, 2], (show i ≤ l.length by omega), (show i < i + 1 by omega), into_mk (by kernel_rfl) (by (repeat' first | exact trivial | exact rfl | exact hq7 | exact hq4 | exact hq5 | apply And.intro)) (by (repeat' first | exact trivial | exact rfl | exact hq7 | exact hq4 | exact hq5 | apply And.intro))⟩
  · obtain rfl : j = 0 := by omega
    have hq1 : rd (fitT l s 0) 0 false = fitA l s 0 0 := mtT_rd (by omega)
    simp only [tl]
    exact ⟨⟨by omega, by omega⟩, by omega, trivial, by omega, (), [], [0], trivial, by (repeat' first | exact trivial | exact rfl | exact hq1 | apply And.intro)⟩
end Go.Proofs.YtoidibkcdkdneaaGreatDoor.T
end
section
namespace Go.Proofs.YtoidibkcdkdneaaGreatDoor.T
open Go.Proofs.YtoidibkcdkdneaaGreatDoor.E Go.Proofs.YtoidibkcdkdneaaGreatDoor.MStr Go.Proofs.YtoidibkcdkdneaaGreatDoor.R
set_option maxRecDepth 100000
set_option linter.unusedVariables false
set_option linter.unusedSimpArgs false
theorem bt_get (s : ByteArray) (j : Nat) : bt s j = ((s.get! j).toNat : Int) := by
  unfold bt ByteArray.get!
  simp [Array.getElem!_eq_getD]
  rfl
def ct_rpieces (s : ByteArray) : Ct KK := { need := s.size ≤ 1000000, pre := [], args := [strv s], Y := Unit, ok := fun _ => True, ret := fun _ => .c (.slc 0 0 (pieces s).length none), post := fun _ => [.arr .str (pieces s)] }
def inv_rpieces (s : ByteArray) : Inv KK := { X := List ByteArray × Nat × Nat, fr := fun z => [strv s, .any, .any, .c (.slc 0 0 z.1.length none), i64 z.2.1, i64 z.2.2] ++ anys 27, H := fun z => [.arr .str z.1], ok := fun z => Cutting s z.1 z.2.1 z.2.2, meas := fun z => s.size - z.2.2 }
def ann_rpieces (s : ByteArray) : Ann KK := { loop := fun _ _ _ => some (inv_rpieces s), cut := fun _ _ _ => none, keep := some 6 }
def ct_rname (s : ByteArray) : Ct KK := { need := s.size ≤ 1000000, pre := [], args := [strv s], Y := Unit, ok := fun _ => True, ret := fun _ => boolv (nameB s), post := fun _ => [] }
def inv_rname (s : ByteArray) : Inv KK := { X := Nat, fr := fun i => [strv s, .any, .any, i64 i] ++ anys 32, H := fun _ => [], ok := fun i => i ≤ s.size ∧ goodTo s i, meas := fun i : Nat => s.size - i }
def ann_rname (s : ByteArray) : Ann KK := { loop := fun _ _ _ => some (inv_rname s), cut := fun _ _ _ => none, keep := some 4 }
theorem vc_rpieces (s : ByteArray) : evFn tab0 (ann_rpieces s) Tryz.f71 (ct_rpieces s) = ( ite2 (decide (s.toList = (ByteArray.mk (#[])).toList)) (EndsAs 0 (ct_rpieces s) (VV.one (V1.c C.nils)) []) (Enter 0 (inv_rpieces s) (fun (x : List ByteArray × Nat × Nat) => True) ([VV.one (V1.c (C.str
 s)), VV.any, VV.one (V1.c C.nils), VV.one (V1.c C.nils), i64 (0 : Int), i64 (0 : Int)] ++ anys 27) [] ∧ ∀ (z : List ByteArray × Nat × Nat), Cutting s z.fst z.snd.fst z.snd.snd → ite2 (decide ((↑z.snd.snd
 : Int) < (↑s.size : Int))) (((0 : Int) ≤ (↑z.snd.snd : Int) ∧ (↑z.snd.snd : Int) < (↑s.size : Int)) ∧ ite2 (decide (bt s (↑z.snd.snd : Int).toNat = (47 : Int))) (((0 : Int) ≤ (↑z.snd.fst : Int) ∧ (↑z.snd.fst
 : Int) ≤ (↑z.snd.snd : Int) ∧ (↑z.snd.snd : Int) ≤ (↑s.size : Int)) ∧ z.fst.length = z.fst.length ∧ (1 ≤ 1 ∧ True) ∧ (z.fst.length + 1) * 16 ≤ 140737488355328 ∧ i64ok ((↑z.snd.snd : Int) + (1 : Int)) ∧
 i64ok ((↑z.snd.snd : Int) + (1 : Int)) ∧ Enter 0 (inv_rpieces s) (fun (z' : List ByteArray × Nat × Nat) => s.size - z'.snd.snd < s.size - z.snd.snd) ([VV.one (V1.c (C.str s)), VV.any, VV.any, VV.one (V1.c
 (C.slc 2 0 (z.fst.length + 1) none)), i64 ((↑z.snd.snd : Int) + (1 : Int)), i64 ((↑z.snd.snd : Int) + (1 : Int))] ++ anys 27) [Atom.gone, Atom.arr Kd.str [s.extract (↑z.snd.fst : Int).toNat (↑z.snd.snd
 : Int).toNat], Atom.arr Kd.str (z.fst ++ [s.extract (↑z.snd.fst : Int).toNat (↑z.snd.snd : Int).toNat])]) (i64ok ((↑z.snd.snd : Int) + (1 : Int)) ∧ Enter 0 (inv_rpieces s) (fun (z' : List ByteArray × Nat
 × Nat) => s.size - z'.snd.snd < s.size - z.snd.snd) ([VV.one (V1.c (C.str s)), VV.any, VV.any, VV.one (V1.c (C.slc 0 0 z.fst.length none)), i64 (↑z.snd.fst : Int), i64 ((↑z.snd.snd : Int) + (1 : Int))]
 ++ anys 27) [Atom.arr Kd.str z.fst])) (((0 : Int) ≤ (↑z.snd.fst : Int) ∧ (↑z.snd.fst : Int) ≤ (↑s.size : Int) ∧ (↑s.size : Int) ≤ (↑s.size : Int)) ∧ z.fst.length = z.fst.length ∧ (1 ≤ 1 ∧ True) ∧ (z.fst.length
 + 1) * 16 ≤ 140737488355328 ∧ EndsAs 0 (ct_rpieces s) (VV.one (V1.c (C.slc 2 0 (z.fst.length + 1) none))) [Atom.gone, Atom.arr Kd.str [s.extract (↑z.snd.fst : Int).toNat (↑s.size : Int).toNat], Atom.arr
 Kd.str (z.fst ++ [s.extract (↑z.snd.fst : Int).toNat (↑s.size : Int).toNat])]))) := by kernel_rfl
theorem vc_rname (s : ByteArray) : evFn tab0 (ann_rname s) Tryz.f73 (ct_rname s) = ( ite2 (decide ((↑s.size : Int) < (1 : Int))) (EndsAs 0 (ct_rname s) (boolv false) []) (ite2 (decide ((255 : Int) < (↑s.size : Int))) (EndsAs 0 (ct_rname s) (boolv false) []) (ite2 (decide (s.toList = (ByteArray.mk
 (#[(46 : UInt8)])).toList)) (EndsAs 0 (ct_rname s) (boolv false) []) (ite2 (decide (s.toList = (ByteArray.mk (#[(46 : UInt8), (46 : UInt8)])).toList)) (EndsAs 0 (ct_rname s) (boolv false) []) (Enter 0
 (inv_rname s) (fun (x : Nat) => True) ([VV.one (V1.c (C.str s)), VV.any, boolv false, i64 (0 : Int)] ++ anys 32) [] ∧ ∀ (z : Nat), z ≤ s.size ∧ goodTo s z → ite2 (decide ((↑z : Int) < (↑s.size : Int)))
 (((0 : Int) ≤ (↑z : Int) ∧ (↑z : Int) < (↑s.size : Int)) ∧ ite2 (decide (bt s (↑z : Int).toNat = (47 : Int))) (EndsAs 0 (ct_rname s) (boolv false) []) (((0 : Int) ≤ (↑z : Int) ∧ (↑z : Int) < (↑s.size :
 Int)) ∧ ite2 (decide (bt s (↑z : Int).toNat = (0 : Int))) (EndsAs 0 (ct_rname s) (boolv false) []) (i64ok ((↑z : Int) + (1 : Int)) ∧ Enter 0 (inv_rname s) (fun (z' : Nat) => s.size - z' < s.size - z) ([VV.one
 (V1.c (C.str s)), VV.any, VV.any, i64 ((↑z : Int) + (1 : Int))] ++ anys 32) []))) (EndsAs 0 (ct_rname s) (boolv true) [])))))) := by kernel_rfl
theorem rpieces_ok (s : ByteArray) : CtOk Tryz.prog 71 (ct_rpieces s) := CtOk_of KK_ok tab0 (ann_rpieces s) (fn := Tryz.f71) rfl (fun _ _ => rfl) fun hn => by
  have hn : s.size ≤ 1000000 := hn
  rw [vc_rpieces]
  simp only [Int.toNat_natCast, Nat.zero_add, Nat.add_zero]
  refine ite2_decide (fun h => ?_) (fun h => ⟨⟨([], (0 : Nat), (0 : Nat)), [.str], [0], Cutting.start s, trivial, into_mk (by kernel_rfl) (by (repeat' first | exact trivial | exact rfl | apply And.intro)) (by (repeat' first | exact trivial | exact rfl | apply And.intro))⟩, ?_⟩)
  · have hq : pieces s = [] := by
      have h : s.toList = [] := h.trans (toList_data _)
      rw [pieces, if_pos h]
    have hq1 : (pieces s).length = 0 := by rw [hq]; rfl
    have hq2 : [] = pieces s := hq.symm
    exact ⟨(), [.str], [0], trivial, by (repeat' first | exact trivial | exact rfl | exact hq1 | exact hq2 | apply And.intro)⟩
  · rintro ⟨acc, a, b⟩ hz
    have hz : Cutting s acc a b := hz
    have h1 := hz.few
    have h2 := hz.le
    have h3 := hz.le'
    dsimp only
    refine ite2_decide (fun hl => ?_) (fun hl => ?_)
    · have hl1 : b < s.size := by omega
      refine ⟨⟨by omega, by omega⟩, ite2_decide (fun hs => ?_) (fun hs => ?_)⟩
      · have hs : bt s b = 47 := hs
        rw [bt_get] at hs
        have hs1 : s.get! b = 47 := by
          apply UInt8.toNat_inj.1
          show (s.get! b).toNat = 47
          omega
        have hq3 : acc.length + 1 = (acc ++ [s.extract a b]).length := by simp
        exact ⟨⟨by omega, by omega, by omega⟩, trivial, ⟨Nat.le_refl _, trivial⟩, by omega, by unfold i64ok; omega, by unfold i64ok; omega, (acc ++ [s.extract a b], b + 1, b + 1), [], [2], hz.slash hl1 hs1, by show s.size - (b + 1) < s.size - b; omega, into_mk (by kernel_rfl) (by (repeat' first | exact trivial | exact rfl | exact hq3 | apply And.intro)) (by (repeat' first | exact trivial | exact rfl | exact hq3 | apply And.intro))⟩
      · have hs : ¬ bt s b = 47 := hs
        rw [bt_get] at hs
        have hp : Cutting s acc a (b + 1) := hz.pass hl1 fun j j1 j2 e => by
          obtain rfl : j = b := by omega
          rw [e] at hs
          exact hs rfl
        exact ⟨by unfold i64ok; omega, (acc, a, b + 1), [], [0], hp, by show s.size - (b + 1) < s.size - b; omega, into_mk (by kernel_rfl) (by (repeat' first | exact trivial | exact rfl | apply And.intro)) (by (repeat' first | exact trivial | exact rfl | apply And.intro))⟩
    · have hf := hz.fin (by omega) (fun e => h (e.trans (toList_data ⟨#[]⟩).symm))
      have hq1 : acc.length + 1 = (pieces s).length := by rw [hf]; simp
      have hq2 : acc ++ [s.extract a s.size] = pieces s := hf.symm
      exact ⟨⟨by omega, by omega, by omega⟩, trivial, ⟨Nat.le_refl _, trivial⟩, by omega, (), [], [2], trivial, by (repeat' first | exact trivial | exact rfl | exact hq1 | exact hq2 | apply And.intro)⟩
theorem rname_ok (s : ByteArray) : CtOk Tryz.prog 73 (ct_rname s) := CtOk_of KK_ok tab0 (ann_rname s) (fn := Tryz.f73) rfl (fun _ _ => rfl) fun hn => by
  have hn : s.size ≤ 1000000 := hn
  rw [vc_rname]
  simp only [Int.toNat_natCast, Nat.zero_add, Nat.add_zero]
  have no : ∀ b : Bool, b = nameB s → EndsAs 0 (ct_rname s) (boolv b) [] := fun b hb => by
    subst hb
    exact ⟨(), [], [], trivial, by (repeat' first | exact trivial | exact rfl | apply And.intro)⟩
  refine ite2_decide (fun h1 => no _ ?_) (fun h1 => ite2_decide (fun h2 => no _ ?_) (fun h2 => ite2_decide (fun h3 => no _ ?_) (fun h3 => ite2_decide (fun h4 => no _ ?_) (fun h4 => ⟨⟨(0 : Nat), [], [], ⟨Nat.zero_le _, goodTo_zero s⟩, trivial, into_mk (by kernel_rfl) (by (repeat' first | exact trivial | exact rfl | apply And.intro)) (by (repeat' first | exact trivial | exact rfl | apply And.intro))⟩, ?_⟩))))
  · have : decide (1 ≤ s.size) = false := decide_eq_false (by omega)
    simp [nameB, this]
  · have : decide (s.size ≤ 255) = false := decide_eq_false (by omega)
    simp [nameB, this]
  · have h3 : s.toList = [46] := h3.trans (toList_data _)
    simp [nameB, h3]
  · have h4 : s.toList = [46, 46] := h4.trans (toList_data _)
    simp [nameB, h4]
  have h3 : ¬ s.toList = [46] := fun e => h3 (e.trans (toList_data ⟨#[46]⟩).symm)
  have h4 : ¬ s.toList = [46, 46] := fun e => h4 (e.trans (toList_data ⟨#[46, 46]⟩).symm)
  have h5 : decide (1 ≤ s.size) = true := decide_eq_true (by omega)
  have h6 : decide (s.size ≤ 255) = true := decide_eq_true (by omega)
  have hnb : nameB s = !(s.data.toList.any badByte) := by
    simp [nameB, h3, h4, h5, h6]
  rintro i ⟨hi, hg⟩
  refine ite2_decide (fun hl => ?_) (fun hl => no _ ?_)
  · have hl1 : i < s.size := by omega
    refine ⟨⟨by omega, by omega⟩, ite2_decide (fun hs => no _ ?_) (fun hs => ⟨⟨by omega, by omega⟩, ite2_decide (fun hz => no _ ?_) (fun hz => ?_)⟩)⟩
    · have hs : bt s i = 47 := hs
      rw [bt_get] at hs
      rw [hnb, not_good s i hl1 (by simp only [badByte, Bool.or_eq_true, beq_iff_eq]; left; omega)]
      rfl
    · have hz : bt s i = 0 := hz
      rw [bt_get] at hz
      rw [hnb, not_good s i hl1 (by simp only [badByte, Bool.or_eq_true, beq_iff_eq]; right; omega)]
      rfl
    · have hs : ¬ bt s i = 47 := hs
      have hz : ¬ bt s i = 0 := hz
      rw [bt_get] at hs hz
      have hb : badByte (s.get! i) = false := by
        simp only [badByte, Bool.or_eq_false_iff, beq_eq_false_iff_ne]
        exact ⟨by omega, by omega⟩
      exact ⟨by unfold i64ok; omega, (i + 1 : Nat), [], [], ⟨hl1, goodTo_ascii s i hg hb⟩, by omega, into_mk (by kernel_rfl) (by (repeat' first | exact trivial | exact rfl | apply And.intro)) (by (repeat' first | exact trivial | exact rfl | apply And.intro))⟩
  · rw [hnb, goodTo_all s i (by omega) hg]
    rfl
end Go.Proofs.YtoidibkcdkdneaaGreatDoor.T
end
section
namespace Go.Proofs.YtoidibkcdkdneaaGreatDoor.T
open Go.Proofs.YtoidibkcdkdneaaGreatDoor.E Go.Proofs.YtoidibkcdkdneaaGreatDoor.MStr Go.Proofs.YtoidibkcdkdneaaGreatDoor.R
set_option maxRecDepth 100000
set_option linter.unusedVariables false
set_option linter.unusedSimpArgs false
def ct_rsplit (s : ByteArray) (most : Int) : Ct KK := { need := s.size ≤ 1000000 ∧ i64ok most, pre := [], args := [strv s, i64 most], Y := Unit, ok := fun _ => True, ret := fun _ => .tup [.c (.slc 0 0 (Hand.splitB s most).1.length none), .c (.int .i64 (Hand.splitB s most).2)], post := fun _ => [.arr .str (Hand.splitB s most).1] }
def inv_rsplit (s : ByteArray) : Inv KK := { X := Nat, fr := fun i => [strv s, .any, .any, .any, .any, .any, .c (.slc 0 0 (pieces s).length none), i64 i] ++ anys 21, H := fun _ => [.arr .str (pieces s)], ok := fun i => i ≤ (pieces s).length ∧ ((pieces s).take i).all nameB = true, meas := fun i : Nat => (pieces s).length - i }
def ann_rsplit (s : ByteArray) : Ann KK := { loop := fun _ _ _ => some (inv_rsplit s), cut := fun _ _ _ => none, keep := some 8 }
def isDeep (p : ByteArray) : Bool := p.toList == [42, 42]
def pcAt (l : List ByteArray) (i : Nat) : ByteArray := l.getD i ⟨#[]⟩
def pcOne (l names : List ByteArray) (i k : Nat) : Bool := fitA (rsig (pcAt l i)) (pcAt names k) 0 0
/-- Do pieces fit names, from places of both on? -/
def mchA (l names : List ByteArray) (i k : Nat) : Bool := MPat.mt l.length names.length (fun i => isDeep (pcAt l i)) (pcOne l names) i k
def mchT (l names : List ByteArray) (j : Nat) : List Bool := (List.range (names.length + 1)).map (MPat.mt l.length names.length (fun i => isDeep (pcAt l i)) (pcOne l names) j)
def mchR (l names : List ByteArray) (j m : Nat) : List Bool := (List.range (names.length + 1)).map fun k => if m ≤ k then MPat.mt l.length names.length (fun i => isDeep (pcAt l i)) (pcOne l names) (j - 1) k else false
def ct_rmatches (l names all : List ByteArray) (o : Nat) : Ct KK := { need := (l.length ≤ 1000000 ∧ names.length ≤ 1000000) ∧ (∀ x ∈ l, x.size ≤ 1000000) ∧ (∀ x ∈ names, x.size ≤ 1000000) ∧ names = all.drop o ∧ o ≤ all.length, pre := [.ro .str l, .ro .str all], args := [.c (.slc 0 0 l.length none), .c (.slc 1 o names.length none)], Y := Unit, ok := fun _ => True, ret := fun _ => boolv (mchA l names 0 0), post := fun _ => [.gone, .gone] }
def inv_mchO (l names all : List ByteArray) (o : Nat) : Inv KK := { X := Nat, fr := fun j => [.c (.slc 0 0 l.length none), .c (.slc 1 o names.length none), .any, .any, .any, .c (.slc 2 0 (names.length + 1) none), i64 ((j : Int) - 1), .any, .any, .any, .any] ++ anys 84, H := fun j => [.ro .str l, .ro .str all, .arr .bool (mchT l names j)], ok := fun j => j ≤ l.length, meas := fun j : Nat => j }
def inv_mchI (l names all : List ByteArray) (o : Nat) (v : Int) (x : ByteArray) : Inv KK := { X := Nat, fr := fun m => [.c (.slc 0 0 l.length none), .c (.slc 1 o names.length none), .any, .any, .any, .c (.slc 2 0 (names.length + 1) none), i64 v, .c (.slc 3 0 (names.length + 1) none), .c (.slc 4 0 (rsig x).length none), .any, i64 ((m : Int) - 1)] ++ anys 84, H := fun m => [.ro .str l, .ro .str all, .arr .bool (mchT l names (v + 1).toNat), .arr .bool (mchR l names (v + 1).toNat m), .arr .sgn (rsig x)], ok := fun m => m ≤ names.length + 1, meas := fun m : Nat => m }
def ann_rmatches (l names all : List ByteArray) (o : Nat) : Ann KK := { loop := fun id fr _ => match id with | 4 => some (inv_mchO l names all o) | _ => match fr.getD 6 .any with | .one (.c (.int _ v)) => some (inv_mchI l names all o v (rd (α := ByteArray) l v.toNat ⟨#[]⟩)) | _ => none, cut := fun _ _ _ => none, keep := some 11 }
def tabRf : Tab Tryz.prog KK := ⟨mixed, fun f args H => match f, args with
  | 71, [.one (.c (.str s))] => some (ct_rpieces s, [], [])
  | 73, [.one (.c (.str s))] => some (ct_rname s, [], [])
  | 72, [.one (.c (.str s))] => some (ct_rsigns s, [], [])
  | 74, [.one (.c (.slc a _ _ _)), .one (.c (.str s))] => match at_ H a with
    | .arr .sgn l => some (ct_rfits l s, [], [a])
    | _ => none
  | _, _ => none, fun f args H ct ks τ h => by
    split at h
    · cases h; exact rpieces_ok _
    · cases h; exact rname_ok _
    · cases h; exact rsigns_ok _
    · split at h
      · cases h; exact rfits_ok _ _
      · cases h
    · cases h⟩
theorem vc_rsplit (s : ByteArray) (most : Int) : evFn tabRf (ann_rsplit s) Tryz.f41 (ct_rsplit s most) = ( ite2 (decide (most < (0 : Int))) (s.size ≤ 1000000 ∧ Into (K := KK) 0 [] [] [VV.one (V1.c (C.str s))] [] [VV.one (V1.c (C.str s))] [] ∧ ∀ (y : Unit), True → ite2 (decide ((0 : Int) < (↑(pieces s).length
 : Int))) (EndsAs 0 (ct_rsplit s most) (VV.tup [V1.c C.nils, V1.c (C.int .i64 (31 : Int))]) [Atom.arr Kd.str (pieces s)]) (Enter 0 (inv_rsplit s) (fun (x : Nat) => True) ([VV.one (V1.c (C.str s)), i64 (0
 : Int), VV.any, VV.any, VV.one (V1.c C.nils), i64 (0 : Int), VV.one (V1.c (C.slc 0 0 (pieces s).length none)), i64 (0 : Int)] ++ anys 21) [Atom.arr Kd.str (pieces s)] ∧ ∀ (z : Nat), z ≤ (pieces s).length
 ∧ (List.take z (pieces s)).all nameB = true → ite2 (decide ((↑z : Int) < (↑(pieces s).length : Int))) (((0 : Int) ≤ (↑z : Int) ∧ (↑z : Int) < (↑(pieces s).length : Int)) ∧ (↑z : Int).toNat < (pieces s).length
 ∧ True ∧ (↑z : Int).toNat < (pieces s).length ∧ ByteArray.size (rd (pieces s) (↑z : Int).toNat (ByteArray.mk (#[]))) ≤ 1000000 ∧ Into (K := KK) 0 [] [] [VV.one (V1.c (C.str (rd (pieces s) (↑z : Int).toNat
 (ByteArray.mk (#[])))))] [Atom.arr Kd.str (pieces s)] [VV.one (V1.c (C.str (rd (pieces s) (↑z : Int).toNat (ByteArray.mk (#[])))))] [] ∧ ∀ (y : Unit), True → ite2 (nameB (rd (pieces s) (↑z : Int).toNat
 (ByteArray.mk (#[])))) (i64ok ((↑z : Int) + (1 : Int)) ∧ Enter 0 (inv_rsplit s) (fun (z' : Nat) => (pieces s).length - z' < (pieces s).length - z) ([VV.one (V1.c (C.str s)), VV.any, VV.any, VV.any, VV.any,
 VV.any, VV.one (V1.c (C.slc 0 0 (pieces s).length none)), i64 ((↑z : Int) + (1 : Int))] ++ anys 21) [Atom.arr Kd.str (pieces s)]) (EndsAs 0 (ct_rsplit s most) (VV.tup [V1.c C.nils, V1.c (C.int .i64 (30
 : Int))]) [Atom.arr Kd.str (pieces s)])) (EndsAs 0 (ct_rsplit s most) (VV.tup [V1.c (C.slc 0 0 (pieces s).length none), V1.c (C.int .i64 (0 : Int))]) [Atom.arr Kd.str (pieces s)]))) (s.size ≤ 1000000 ∧
 Into (K := KK) 0 [] [] [VV.one (V1.c (C.str s))] [] [VV.one (V1.c (C.str s))] [] ∧ ∀ (y : Unit), True → ite2 (decide (most < (↑(pieces s).length : Int))) (EndsAs 0 (ct_rsplit s most) (VV.tup [V1.c C.nils,
 V1.c (C.int .i64 (31 : Int))]) [Atom.arr Kd.str (pieces s)]) (Enter 0 (inv_rsplit s) (fun (x : Nat) => True) ([VV.one (V1.c (C.str s)), i64 most, VV.any, VV.any, VV.one (V1.c C.nils), i64 (0 : Int), VV.one
 (V1.c (C.slc 0 0 (pieces s).length none)), i64 (0 : Int)] ++ anys 21) [Atom.arr Kd.str (pieces s)] ∧ ∀ (z : Nat), z ≤ (pieces s).length ∧ (List.take z (pieces s)).all nameB = true → ite2 (decide ((↑z :
 Int) < (↑(pieces s).length : Int))) (((0 : Int) ≤ (↑z : Int) ∧ (↑z : Int) < (↑(pieces s).length : Int)) ∧ (↑z : Int).toNat < (pieces s).length ∧ True ∧ (↑z : Int).toNat < (pieces s).length ∧ ByteArray.size
 (rd (pieces s) (↑z : Int).toNat (ByteArray.mk (#[]))) ≤ 1000000 ∧ Into (K := KK) 0 [] [] [VV.one (V1.c (C.str (rd (pieces s) (↑z : Int).toNat (ByteArray.mk (#[])))))] [Atom.arr Kd.str (pieces s)] [VV.one
 (V1.c (C.str (rd (pieces s) (↑z : Int).toNat (ByteArray.mk (#[])))))] [] ∧ ∀ (y : Unit), True → ite2 (nameB (rd (pieces s) (↑z : Int).toNat (ByteArray.mk (#[])))) (i64ok ((↑z : Int) + (1 : Int)) ∧ Enter
 0 (inv_rsplit s) (fun (z' : Nat) => (pieces s).length - z' < (pieces s).length - z) ([VV.one (V1.c (C.str s)), VV.any, VV.any, VV.any, VV.any, VV.any, VV.one (V1.c (C.slc 0 0 (pieces s).length none)),
 i64 ((↑z : Int) + (1 : Int))] ++ anys 21) [Atom.arr Kd.str (pieces s)]) (EndsAs 0 (ct_rsplit s most) (VV.tup [V1.c C.nils, V1.c (C.int .i64 (30 : Int))]) [Atom.arr Kd.str (pieces s)])) (EndsAs 0 (ct_rsplit
 s most) (VV.tup [V1.c (C.slc 0 0 (pieces s).length none), V1.c (C.int .i64 (0 : Int))]) [Atom.arr Kd.str (pieces s)])))) := by kernel_rfl
theorem vc_rmatches (l names all : List ByteArray) (o : Nat) : evFn tabRf (ann_rmatches l names all o) Tryz.f42 (ct_rmatches l names all o) = ( i64ok ((↑names.length : Int) + (1 : Int)) ∧ ((0 : Int) ≤ (↑names.length : Int) + (1 : Int) ∧ (↑names.length : Int) + (1 : Int) ≤ (↑names.length : Int) + (1 : Int)) ∧ ((↑names.length : Int) + (1 : Int)
 ≤ (4611686018427387904 : Int) ∧ (1 : Int) * ((↑names.length : Int) + (1 : Int)) ≤ (281474976710656 : Int)) ∧ ((0 : Int) ≤ (↑names.length : Int) ∧ (↑names.length : Int) < (↑((↑names.length : Int) + (1 :
 Int)).toNat : Int)) ∧ (↑names.length : Int).toNat < (List.replicate ((↑names.length : Int) + (1 : Int)).toNat false).length ∧ True ∧ (↑names.length : Int).toNat < (List.replicate ((↑names.length : Int)
 + (1 : Int)).toNat false).length ∧ i64ok ((↑l.length : Int) - (1 : Int)) ∧ Enter 2 (inv_mchO l names all o) (fun (x : Nat) => True) ([VV.one (V1.c (C.slc 0 0 l.length none)), VV.one (V1.c (C.slc 1 o names.length
 none)), VV.any, VV.any, boolv false, VV.one (V1.c (C.slc 2 0 ((↑names.length : Int) + (1 : Int)).toNat none)), i64 ((↑l.length : Int) - (1 : Int))] ++ anys 88) [Atom.ro Kd.str l, Atom.ro Kd.str all, Atom.arr
 Kd.bool ((List.replicate ((↑names.length : Int) + (1 : Int)).toNat false).set (↑names.length : Int).toNat true)] ∧ ∀ (z : Nat), z ≤ l.length → ite2 (decide ((0 : Int) ≤ (↑z : Int) - (1 : Int))) (i64ok
 ((↑names.length : Int) + (1 : Int)) ∧ ((0 : Int) ≤ (↑names.length : Int) + (1 : Int) ∧ (↑names.length : Int) + (1 : Int) ≤ (↑names.length : Int) + (1 : Int)) ∧ ((↑names.length : Int) + (1 : Int) ≤ (4611686018427387904
 : Int) ∧ (1 : Int) * ((↑names.length : Int) + (1 : Int)) ≤ (281474976710656 : Int)) ∧ ((0 : Int) ≤ (↑z : Int) - (1 : Int) ∧ (↑z : Int) - (1 : Int) < (↑l.length : Int)) ∧ ((↑z : Int) - (1 : Int)).toNat
 < l.length ∧ True ∧ ((↑z : Int) - (1 : Int)).toNat < l.length ∧ ByteArray.size (rd l ((↑z : Int) - (1 : Int)).toNat (ByteArray.mk (#[]))) ≤ 1000000 ∧ Into (K := KK) 0 [] [] [VV.one (V1.c (C.str (rd l ((↑z
 : Int) - (1 : Int)).toNat (ByteArray.mk (#[])))))] [Atom.ro Kd.str l, Atom.ro Kd.str all, Atom.arr Kd.bool (mchT l names z), Atom.arr Kd.bool (List.replicate ((↑names.length : Int) + (1 : Int)).toNat false)]
 [VV.one (V1.c (C.str (rd l ((↑z : Int) - (1 : Int)).toNat (ByteArray.mk (#[])))))] [] ∧ ∀ (y : Unit), True → Enter 2 (inv_mchI l names all o ((↑z : Int) - (1 : Int)) (rd l ((↑z : Int) - (1 : Int)).toNat
 (ByteArray.mk (#[])))) (fun (x : Nat) => True) ([VV.one (V1.c (C.slc 0 0 l.length none)), VV.one (V1.c (C.slc 1 o names.length none)), VV.any, VV.any, VV.any, VV.one (V1.c (C.slc 2 0 (names.length + 1)
 none)), i64 ((↑z : Int) - (1 : Int)), VV.one (V1.c (C.slc 3 0 ((↑names.length : Int) + (1 : Int)).toNat none)), VV.one (V1.c (C.slc 4 0 (rsig (rd l ((↑z : Int) - (1 : Int)).toNat (ByteArray.mk (#[])))).length
 none)), boolv (rok (rd l ((↑z : Int) - (1 : Int)).toNat (ByteArray.mk (#[])))), i64 (↑names.length : Int)] ++ anys 84) [Atom.ro Kd.str l, Atom.ro Kd.str all, Atom.arr Kd.bool (mchT l names z), Atom.arr
 Kd.bool (List.replicate ((↑names.length : Int) + (1 : Int)).toNat false), Atom.arr Kd.sgn (rsig (rd l ((↑z : Int) - (1 : Int)).toNat (ByteArray.mk (#[]))))] ∧ ∀ (z_1 : Nat), z_1 ≤ names.length + 1 → ite2
 (decide ((0 : Int) ≤ (↑z_1 : Int) - (1 : Int))) (((0 : Int) ≤ (↑z : Int) - (1 : Int) ∧ (↑z : Int) - (1 : Int) < (↑l.length : Int)) ∧ ((↑z : Int) - (1 : Int)).toNat < l.length ∧ True ∧ ((↑z : Int) - (1
 : Int)).toNat < l.length ∧ ite2 (decide (ByteArray.toList (rd l ((↑z : Int) - (1 : Int)).toNat (ByteArray.mk (#[]))) = (ByteArray.mk (#[(42 : UInt8), (42 : UInt8)])).toList)) (((0 : Int) ≤ (↑z_1 : Int)
 - (1 : Int) ∧ (↑z_1 : Int) - (1 : Int) < (↑(names.length + 1) : Int)) ∧ ((↑z_1 : Int) - (1 : Int)).toNat < (mchT l names ((↑z : Int) - (1 : Int) + (1 : Int)).toNat).length ∧ True ∧ ((↑z_1 : Int) - (1 :
 Int)).toNat < (mchT l names ((↑z : Int) - (1 : Int) + (1 : Int)).toNat).length ∧ ite2 (rd (mchT l names ((↑z : Int) - (1 : Int) + (1 : Int)).toNat) ((↑z_1 : Int) - (1 : Int)).toNat false) (((0 : Int) ≤
 (↑z_1 : Int) - (1 : Int) ∧ (↑z_1 : Int) - (1 : Int) < (↑(names.length + 1) : Int)) ∧ ((↑z_1 : Int) - (1 : Int)).toNat < (mchR l names ((↑z : Int) - (1 : Int) + (1 : Int)).toNat z_1).length ∧ True ∧ ((↑z_1
 : Int) - (1 : Int)).toNat < (mchR l names ((↑z : Int) - (1 : Int) + (1 : Int)).toNat z_1).length ∧ i64ok ((↑z_1 : Int) - (1 : Int) - (1 : Int)) ∧ Enter 2 (inv_mchI l names all o ((↑z : Int) - (1 : Int))
 (rd l ((↑z : Int) - (1 : Int)).toNat (ByteArray.mk (#[])))) (fun (z' : Nat) => z' < z_1) ([VV.one (V1.c (C.slc 0 0 l.length none)), VV.one (V1.c (C.slc 1 o names.length none)), VV.any, VV.any, VV.any,
 VV.one (V1.c (C.slc 2 0 (names.length + 1) none)), i64 ((↑z : Int) - (1 : Int)), VV.one (V1.c (C.slc 3 0 (names.length + 1) none)), VV.one (V1.c (C.slc 4 0 (rsig (rd l ((↑z : Int) - (1 : Int)).toNat (ByteArray.mk
 (#[])))).length none)), VV.any, VV.one (V1.c (C.int .i64 ((↑z_1 : Int) - (1 : Int) - (1 : Int))))] ++ anys 84) [Atom.ro Kd.str l, Atom.ro Kd.str all, Atom.arr Kd.bool (mchT l names ((↑z : Int) - (1 : Int)
 + (1 : Int)).toNat), Atom.arr Kd.bool ((mchR l names ((↑z : Int) - (1 : Int) + (1 : Int)).toNat z_1).set ((↑z_1 : Int) - (1 : Int)).toNat true), Atom.arr Kd.sgn (rsig (rd l ((↑z : Int) - (1 : Int)).toNat
 (ByteArray.mk (#[]))))]) (ite2 (decide ((↑z_1 : Int) - (1 : Int) < (↑names.length : Int))) (i64ok ((↑z_1 : Int) - (1 : Int) + (1 : Int)) ∧ ((0 : Int) ≤ (↑z_1 : Int) - (1 : Int) + (1 : Int) ∧ (↑z_1 : Int)
 - (1 : Int) + (1 : Int) < (↑(names.length + 1) : Int)) ∧ ((↑z_1 : Int) - (1 : Int) + (1 : Int)).toNat < (mchR l names ((↑z : Int) - (1 : Int) + (1 : Int)).toNat z_1).length ∧ True ∧ ((↑z_1 : Int) - (1
 : Int) + (1 : Int)).toNat < (mchR l names ((↑z : Int) - (1 : Int) + (1 : Int)).toNat z_1).length ∧ ((0 : Int) ≤ (↑z_1 : Int) - (1 : Int) ∧ (↑z_1 : Int) - (1 : Int) < (↑(names.length + 1) : Int)) ∧ ((↑z_1
 : Int) - (1 : Int)).toNat < (mchR l names ((↑z : Int) - (1 : Int) + (1 : Int)).toNat z_1).length ∧ True ∧ ((↑z_1 : Int) - (1 : Int)).toNat < (mchR l names ((↑z : Int) - (1 : Int) + (1 : Int)).toNat z_1).length
 ∧ i64ok ((↑z_1 : Int) - (1 : Int) - (1 : Int)) ∧ Enter 2 (inv_mchI l names all o ((↑z : Int) - (1 : Int)) (rd l ((↑z : Int) - (1 : Int)).toNat (ByteArray.mk (#[])))) (fun (z' : Nat) => z' < z_1) ([VV.one
 (V1.c (C.slc 0 0 l.length none)), VV.one (V1.c (C.slc 1 o names.length none)), VV.any, VV.any, VV.any, VV.one (V1.c (C.slc 2 0 (names.length + 1) none)), VV.one (V1.c (C.int .i64 ((↑z : Int) - (1 : Int)))),
 VV.one (V1.c (C.slc 3 0 (names.length + 1) none)), VV.one (V1.c (C.slc 4 0 (rsig (rd l ((↑z : Int) - (1 : Int)).toNat (ByteArray.mk (#[])))).length none)), VV.any, VV.one (V1.c (C.int .i64 ((↑z_1 : Int)
 - (1 : Int) - (1 : Int))))] ++ anys 84) [Atom.ro Kd.str l, Atom.ro Kd.str all, Atom.arr Kd.bool (mchT l names ((↑z : Int) - (1 : Int) + (1 : Int)).toNat), Atom.arr Kd.bool ((mchR l names ((↑z : Int) -
 (1 : Int) + (1 : Int)).toNat z_1).set ((↑z_1 : Int) - (1 : Int)).toNat (rd (mchR l names ((↑z : Int) - (1 : Int) + (1 : Int)).toNat z_1) ((↑z_1 : Int) - (1 : Int) + (1 : Int)).toNat false)), Atom.arr Kd.sgn
 (rsig (rd l ((↑z : Int) - (1 : Int)).toNat (ByteArray.mk (#[]))))]) (((0 : Int) ≤ (↑z_1 : Int) - (1 : Int) ∧ (↑z_1 : Int) - (1 : Int) < (↑(names.length + 1) : Int)) ∧ ((↑z_1 : Int) - (1 : Int)).toNat <
 (mchR l names ((↑z : Int) - (1 : Int) + (1 : Int)).toNat z_1).length ∧ True ∧ ((↑z_1 : Int) - (1 : Int)).toNat < (mchR l names ((↑z : Int) - (1 : Int) + (1 : Int)).toNat z_1).length ∧ i64ok ((↑z_1 : Int)
 - (1 : Int) - (1 : Int)) ∧ Enter 2 (inv_mchI l names all o ((↑z : Int) - (1 : Int)) (rd l ((↑z : Int) - (1 : Int)).toNat (ByteArray.mk (#[])))) (fun (z' : Nat) => z' < z_1) ([VV.one (V1.c (C.slc 0 0 l.length
 none)), VV.one (V1.c (C.slc 1 o names.length none)), VV.any, VV.any, VV.any, VV.one (V1.c (C.slc 2 0 (names.length + 1) none)), i64 ((↑z : Int) - (1 : Int)), VV.one (V1.c (C.slc 3 0 (names.length + 1)
 none)), VV.one (V1.c (C.slc 4 0 (rsig (rd l ((↑z : Int) - (1 : Int)).toNat (ByteArray.mk (#[])))).length none)), VV.any, VV.one (V1.c (C.int .i64 ((↑z_1 : Int) - (1 : Int) - (1 : Int))))] ++ anys 84) [Atom.ro
 Kd.str l, Atom.ro Kd.str all, Atom.arr Kd.bool (mchT l names ((↑z : Int) - (1 : Int) + (1 : Int)).toNat), Atom.arr Kd.bool ((mchR l names ((↑z : Int) - (1 : Int) + (1 : Int)).toNat z_1).set ((↑z_1 : Int)
 - (1 : Int)).toNat false), Atom.arr Kd.sgn (rsig (rd l ((↑z : Int) - (1 : Int)).toNat (ByteArray.mk (#[]))))]))) (ite2 (decide ((↑z_1 : Int) - (1 : Int) < (↑names.length : Int))) (i64ok ((↑z_1 : Int) -
 (1 : Int) + (1 : Int)) ∧ ((0 : Int) ≤ (↑z_1 : Int) - (1 : Int) + (1 : Int) ∧ (↑z_1 : Int) - (1 : Int) + (1 : Int) < (↑(names.length + 1) : Int)) ∧ ((↑z_1 : Int) - (1 : Int) + (1 : Int)).toNat < (mchT l
 names ((↑z : Int) - (1 : Int) + (1 : Int)).toNat).length ∧ True ∧ ((↑z_1 : Int) - (1 : Int) + (1 : Int)).toNat < (mchT l names ((↑z : Int) - (1 : Int) + (1 : Int)).toNat).length ∧ ite2 (rd (mchT l names
 ((↑z : Int) - (1 : Int) + (1 : Int)).toNat) ((↑z_1 : Int) - (1 : Int) + (1 : Int)).toNat false) (((0 : Int) ≤ (↑z_1 : Int) - (1 : Int) ∧ (↑z_1 : Int) - (1 : Int) < (↑names.length : Int)) ∧ ((↑z_1 : Int)
 - (1 : Int)).toNat + o < all.length ∧ True ∧ ((↑z_1 : Int) - (1 : Int)).toNat + o < all.length ∧ ((rsig (rd l ((↑z : Int) - (1 : Int)).toNat (ByteArray.mk (#[])))).length ≤ 1000000 ∧ ByteArray.size (rd
 all (((↑z_1 : Int) - (1 : Int)).toNat + o) (ByteArray.mk (#[]))) ≤ 1000000) ∧ Into (K := KK) 0 [] [4] [VV.one (V1.c (C.slc 4 0 (rsig (rd l ((↑z : Int) - (1 : Int)).toNat (ByteArray.mk (#[])))).length none)),
 VV.one (V1.c (C.str (rd all (((↑z_1 : Int) - (1 : Int)).toNat + o) (ByteArray.mk (#[])))))] [Atom.ro Kd.str l, Atom.ro Kd.str all, Atom.arr Kd.bool (mchT l names ((↑z : Int) - (1 : Int) + (1 : Int)).toNat),
 Atom.arr Kd.bool (mchR l names ((↑z : Int) - (1 : Int) + (1 : Int)).toNat z_1), Atom.arr Kd.sgn (rsig (rd l ((↑z : Int) - (1 : Int)).toNat (ByteArray.mk (#[]))))] [VV.one (V1.c (C.slc 0 0 (rsig (rd l ((↑z
 : Int) - (1 : Int)).toNat (ByteArray.mk (#[])))).length none)), VV.one (V1.c (C.str (rd all (((↑z_1 : Int) - (1 : Int)).toNat + o) (ByteArray.mk (#[])))))] [Atom.ro Kd.sgn (rsig (rd l ((↑z : Int) - (1
 : Int)).toNat (ByteArray.mk (#[]))))] ∧ ∀ (y : Unit), True → ((0 : Int) ≤ (↑z_1 : Int) - (1 : Int) ∧ (↑z_1 : Int) - (1 : Int) < (↑(names.length + 1) : Int)) ∧ ((↑z_1 : Int) - (1 : Int)).toNat < (mchR l
 names ((↑z : Int) - (1 : Int) + (1 : Int)).toNat z_1).length ∧ True ∧ ((↑z_1 : Int) - (1 : Int)).toNat < (mchR l names ((↑z : Int) - (1 : Int) + (1 : Int)).toNat z_1).length ∧ i64ok ((↑z_1 : Int) - (1
 : Int) - (1 : Int)) ∧ Enter 2 (inv_mchI l names all o ((↑z : Int) - (1 : Int)) (rd l ((↑z : Int) - (1 : Int)).toNat (ByteArray.mk (#[])))) (fun (z' : Nat) => z' < z_1) ([VV.one (V1.c (C.slc 0 0 l.length
 none)), VV.one (V1.c (C.slc 1 o names.length none)), VV.any, VV.any, VV.any, VV.one (V1.c (C.slc 2 0 (names.length + 1) none)), VV.one (V1.c (C.int .i64 ((↑z : Int) - (1 : Int)))), VV.one (V1.c (C.slc
 3 0 (names.length + 1) none)), VV.one (V1.c (C.slc 4 0 (rsig (rd l ((↑z : Int) - (1 : Int)).toNat (ByteArray.mk (#[])))).length none)), VV.any, VV.one (V1.c (C.int .i64 ((↑z_1 : Int) - (1 : Int) - (1 :
 Int))))] ++ anys 84) [Atom.ro Kd.str l, Atom.ro Kd.str all, Atom.arr Kd.bool (mchT l names ((↑z : Int) - (1 : Int) + (1 : Int)).toNat), Atom.arr Kd.bool ((mchR l names ((↑z : Int) - (1 : Int) + (1 : Int)).toNat
 z_1).set ((↑z_1 : Int) - (1 : Int)).toNat (fitA (rsig (rd l ((↑z : Int) - (1 : Int)).toNat (ByteArray.mk (#[])))) (rd all (((↑z_1 : Int) - (1 : Int)).toNat + o) (ByteArray.mk (#[]))) 0 0)), Atom.arr Kd.sgn
 (rsig (rd l ((↑z : Int) - (1 : Int)).toNat (ByteArray.mk (#[]))))]) (((0 : Int) ≤ (↑z_1 : Int) - (1 : Int) ∧ (↑z_1 : Int) - (1 : Int) < (↑(names.length + 1) : Int)) ∧ ((↑z_1 : Int) - (1 : Int)).toNat <
 (mchR l names ((↑z : Int) - (1 : Int) + (1 : Int)).toNat z_1).length ∧ True ∧ ((↑z_1 : Int) - (1 : Int)).toNat < (mchR l names ((↑z : Int) - (1 : Int) + (1 : Int)).toNat z_1).length ∧ i64ok ((↑z_1 : Int)
 - (1 : Int) - (1 : Int)) ∧ Enter 2 (inv_mchI l names all o ((↑z : Int) - (1 : Int)) (rd l ((↑z : Int) - (1 : Int)).toNat (ByteArray.mk (#[])))) (fun (z' : Nat) => z' < z_1) ([VV.one (V1.c (C.slc 0 0 l.length
 none)), VV.one (V1.c (C.slc 1 o names.length none)), VV.any, VV.any, VV.any, VV.one (V1.c (C.slc 2 0 (names.length + 1) none)), i64 ((↑z : Int) - (1 : Int)), VV.one (V1.c (C.slc 3 0 (names.length + 1)
 none)), VV.one (V1.c (C.slc 4 0 (rsig (rd l ((↑z : Int) - (1 : Int)).toNat (ByteArray.mk (#[])))).length none)), VV.any, VV.one (V1.c (C.int .i64 ((↑z_1 : Int) - (1 : Int) - (1 : Int))))] ++ anys 84) [Atom.ro
 Kd.str l, Atom.ro Kd.str all, Atom.arr Kd.bool (mchT l names ((↑z : Int) - (1 : Int) + (1 : Int)).toNat), Atom.arr Kd.bool ((mchR l names ((↑z : Int) - (1 : Int) + (1 : Int)).toNat z_1).set ((↑z_1 : Int)
 - (1 : Int)).toNat false), Atom.arr Kd.sgn (rsig (rd l ((↑z : Int) - (1 : Int)).toNat (ByteArray.mk (#[]))))])) (((0 : Int) ≤ (↑z_1 : Int) - (1 : Int) ∧ (↑z_1 : Int) - (1 : Int) < (↑(names.length + 1)
 : Int)) ∧ ((↑z_1 : Int) - (1 : Int)).toNat < (mchR l names ((↑z : Int) - (1 : Int) + (1 : Int)).toNat z_1).length ∧ True ∧ ((↑z_1 : Int) - (1 : Int)).toNat < (mchR l names ((↑z : Int) - (1 : Int) + (1
 : Int)).toNat z_1).length ∧ i64ok ((↑z_1 : Int) - (1 : Int) - (1 : Int)) ∧ Enter 2 (inv_mchI l names all o ((↑z : Int) - (1 : Int)) (rd l ((↑z : Int) - (1 : Int)).toNat (ByteArray.mk (#[])))) (fun (z'
 : Nat) => z' < z_1) ([VV.one (V1.c (C.slc 0 0 l.length none)), VV.one (V1.c (C.slc 1 o names.length none)), VV.any, VV.any, VV.any, VV.one (V1.c (C.slc 2 0 (names.length + 1) none)), i64 ((↑z : Int) -
 (1 : Int)), VV.one (V1.c (C.slc 3 0 (names.length + 1) none)), VV.one (V1.c (C.slc 4 0 (rsig (rd l ((↑z : Int) - (1 : Int)).toNat (ByteArray.mk (#[])))).length none)), VV.any, i64 ((↑z_1 : Int) - (1 :
 Int) - (1 : Int))] ++ anys 84) [Atom.ro Kd.str l, Atom.ro Kd.str all, Atom.arr Kd.bool (mchT l names ((↑z : Int) - (1 : Int) + (1 : Int)).toNat), Atom.arr Kd.bool ((mchR l names ((↑z : Int) - (1 : Int)
 + (1 : Int)).toNat z_1).set ((↑z_1 : Int) - (1 : Int)).toNat false), Atom.arr Kd.sgn (rsig (rd l ((↑z : Int) - (1 : Int)).toNat (ByteArray.mk (#[]))))]))) (i64ok ((↑z : Int) - (1 : Int) - (1 : Int)) ∧
 Enter 2 (inv_mchO l names all o) (fun (z' : Nat) => z' < z) ([VV.one (V1.c (C.slc 0 0 l.length none)), VV.one (V1.c (C.slc 1 o names.length none)), VV.any, VV.any, VV.any, VV.one (V1.c (C.slc 3 0 (names.length
 + 1) none)), i64 ((↑z : Int) - (1 : Int) - (1 : Int)), VV.one (V1.c (C.slc 3 0 (names.length + 1) none)), VV.one (V1.c (C.slc 4 0 (rsig (rd l ((↑z : Int) - (1 : Int)).toNat (ByteArray.mk (#[])))).length
 none)), VV.any, i64 ((↑z_1 : Int) - (1 : Int))] ++ anys 84) [Atom.ro Kd.str l, Atom.ro Kd.str all, Atom.arr Kd.bool (mchT l names ((↑z : Int) - (1 : Int) + (1 : Int)).toNat), Atom.arr Kd.bool (mchR l names
 ((↑z : Int) - (1 : Int) + (1 : Int)).toNat z_1), Atom.arr Kd.sgn (rsig (rd l ((↑z : Int) - (1 : Int)).toNat (ByteArray.mk (#[]))))])) (((0 : Int) ≤ (0 : Int) ∧ (0 : Int) < (↑(names.length + 1) : Int))
 ∧ 0 < (mchT l names z).length ∧ True ∧ 0 < (mchT l names z).length ∧ EndsAs 2 (ct_rmatches l names all o) (boolv (rd (mchT l names z) 0 false)) [Atom.ro Kd.str l, Atom.ro Kd.str all, Atom.arr Kd.bool (mchT
 l names z)])) := by kernel_rfl
theorem mx_if (most : Int) : Go.Proofs.YtoidibkcdkdneaaGreatDoorW.PrintWords.mx most 0 = max most 0 := by unfold Go.Proofs.YtoidibkcdkdneaaGreatDoorW.PrintWords.mx; split <;> omega
theorem split_deep {s : ByteArray} {most : Int} (h : max most 0 < ((pieces s).length : Int)) : Hand.splitB s most = ([], 31) := by unfold Hand.splitB; rw [mx_if, if_pos h]
theorem split_bad {s : ByteArray} {most : Int} (h : ¬ max most 0 < ((pieces s).length : Int)) {i : Nat} (hi : i < (pieces s).length) (hb : nameB (rd (pieces s) i ⟨#[]⟩) = false) : Hand.splitB s most = ([], 30) := by
  unfold Hand.splitB
  rw [mx_if, if_neg h, if_neg]
  intro ha
  have := List.all_eq_true.1 ha (rd (pieces s) i ⟨#[]⟩) (by rw [rd, List.getD_eq_getElem?_getD, List.getElem?_eq_getElem hi]; exact List.getElem_mem hi)
  rw [hb] at this; cases this
theorem split_good {s : ByteArray} {most : Int} (h : ¬ max most 0 < ((pieces s).length : Int)) {i : Nat} (hi : ¬ i < (pieces s).length) (hb : ((pieces s).take i).all nameB = true) : Hand.splitB s most = (pieces s, 0) := by
  rw [List.take_of_length_le (by omega)] at hb
  unfold Hand.splitB
  rw [mx_if, if_neg h, if_pos hb]
theorem take_all {l : List ByteArray} {i : Nat} (hi : i < l.length) (h : (l.take i).all nameB = true) (hb : nameB (rd l i ⟨#[]⟩) = true) : (l.take (i + 1)).all nameB = true := by
  rw [List.take_succ_eq_append_getElem hi, List.all_append, h]
  have e : l[i] = rd l i ⟨#[]⟩ := by rw [rd, List.getD_eq_getElem?_getD, List.getElem?_eq_getElem hi]; rfl
  simp [e, hb]
theorem rsplit_ok (s : ByteArray) (most : Int) : CtOk Tryz.prog 41 (ct_rsplit s most) := CtOk_of KK_ok tabRf (ann_rsplit s) (fn := Tryz.f41) rfl (fun _ _ => rfl) fun hn => by
  obtain ⟨hs, hm⟩ := hn
  have hpl := pieces_few s _ hs
  have err : ∀ e, Hand.splitB s most = ([], e) → EndsAs 0 (ct_rsplit s most) (.tup [.c .nils, .c (.int .i64 e)]) [.arr Kd.str (pieces s)] := fun e he => by
    have q1 : (Hand.splitB s most).1.length = 0 := by rw [he]; rfl
    have q2 : e = (Hand.splitB s most).2 := by rw [he]
    have q3 : [] = (Hand.splitB s most).1 := by rw [he]
    exact ⟨(), [.str], [1], trivial, by (repeat' first | exact trivial | exact rfl | exact q1 | exact q2 | exact q3 | apply And.intro)⟩
  have fine : Hand.splitB s most = (pieces s, 0) → EndsAs 0 (ct_rsplit s most) (.tup [.c (.slc 0 0 (pieces s).length none), .c (.int .i64 0)]) [.arr Kd.str (pieces s)] := fun he => by
    have q1 : (pieces s).length = (Hand.splitB s most).1.length := by rw [he]
    have q2 : 0 = (Hand.splitB s most).2 := by rw [he]
    have q3 : pieces s = (Hand.splitB s most).1 := by rw [he]
    exact ⟨(), [], [0], trivial, by (repeat' first | exact trivial | exact rfl | exact q1 | exact q2 | exact q3 | apply And.intro)⟩
  have hsz : ∀ i, ByteArray.size (rd (pieces s) i ⟨#[]⟩) ≤ 1000000 := fun i => by
    rcases Nat.lt_or_ge i (pieces s).length with hi | hi
    · have := pieces_size s (rd (pieces s) i ⟨#[]⟩) (by rw [rd, List.getD_eq_getElem?_getD, List.getElem?_eq_getElem hi]; exact List.getElem_mem hi)
      omega
    · rw [rd, List.getD_eq_getElem?_getD, List.getElem?_eq_none hi]; exact Nat.zero_le _
  rw [vc_rsplit]
  simp only [Int.toNat_natCast, Nat.zero_add, Nat.add_zero]
  refine ite2_decide (fun hneg => ?_) (fun hneg => ?_)
  · have e0 : max most 0 = 0 := by omega
    refine ⟨hs, into_mk (by kernel_rfl) (by (repeat' first | exact trivial | exact rfl | apply And.intro)) (by (repeat' first | exact trivial | exact rfl | apply And.intro)), fun _ _ => ite2_decide (fun h => err _ (split_deep (by rw [e0]; exact h))) (fun h => ⟨⟨(0 : Nat), [], [0], ⟨Nat.zero_le _, rfl⟩, trivial, into_mk (by kernel_rfl) (by (repeat' first | exact trivial | exact rfl | apply And.intro)) (by (repeat' first | exact trivial | exact rfl | apply And.intro))⟩, ?_⟩)⟩
    rw [← e0] at h
    rintro i ⟨hi, ha⟩
    refine ite2_decide (fun hl => ?_) (fun hl => fine (split_good h (by omega) ha))
    have hl1 : i < (pieces s).length := by omega
    exact ⟨⟨by omega, by omega⟩, hl1, trivial, hl1, hsz i, into_mk (by kernel_rfl) (by (repeat' first | exact trivial | exact rfl | apply And.intro)) (by (repeat' first | exact trivial | exact rfl | apply And.intro)), fun _ _ => ite2_mk (fun hb => ⟨by unfold i64ok; omega, (i + 1 : Nat), [], [0], ⟨hl1, take_all hl1 ha hb⟩, by omega, into_mk (by kernel_rfl) (by (repeat' first | exact trivial | exact rfl | apply And.intro)) (by (repeat' first | exact trivial | exact rfl | apply And.intro))⟩) (fun hb => err _ (split_bad h hl1 hb))⟩
  · have e0 : max most 0 = most := by omega
    refine ⟨hs, into_mk (by kernel_rfl) (by (repeat' first | exact trivial | exact rfl | apply And.intro)) (by (repeat' first | exact trivial | exact rfl | apply And.intro)), fun _ _ => ite2_decide (fun h => err _ (split_deep (by rw [e0]; exact h))) (fun h => ⟨⟨(0 : Nat), [], [0], ⟨Nat.zero_le _, rfl⟩, trivial, into_mk (by kernel_rfl) (by (repeat' first | exact trivial | exact rfl | apply And.intro)) (by (repeat' first | exact trivial | exact rfl | apply And.intro))⟩, ?_⟩)⟩
    rw [← e0] at h
    rintro i ⟨hi, ha⟩
    refine ite2_decide (fun hl => ?_) (fun hl => fine (split_good h (by omega) ha))
    have hl1 : i < (pieces s).length := by omega
    exact ⟨⟨by omega, by omega⟩, hl1, trivial, hl1, hsz i, into_mk (by kernel_rfl) (by (repeat' first | exact trivial | exact rfl | apply And.intro)) (by (repeat' first | exact trivial | exact rfl | apply And.intro)), fun _ _ => ite2_mk (fun hb => ⟨by unfold i64ok; omega, (i + 1 : Nat), [], [0], ⟨hl1, take_all hl1 ha hb⟩, by omega, into_mk (by kernel_rfl) (by (repeat' first | exact trivial | exact rfl | apply And.intro)) (by (repeat' first | exact trivial | exact rfl | apply And.intro))⟩) (fun hb => err _ (split_bad h hl1 hb))⟩
theorem rd_inB (xs : List ByteArray) (z : Nat) (d : ByteArray) (h : z < xs.length) : rd xs z d ∈ xs := by
  unfold rd
  rw [List.getD_eq_getElem?_getD, List.getElem?_eq_getElem h]
  exact List.getElem_mem h
theorem rsig_len (s : ByteArray) : (rsig s).length ≤ s.size := by
  unfold rsig rsigL
  cases h : Hand.signsL s.data.toList with
  | none => exact Nat.zero_le _
  | some l =>
    have h1 := Hand.signsL_length _ _ h
    have h2 : s.data.toList.length = s.size := by simp
    show (l.map toSn).length ≤ _
    rw [List.length_map]
    omega
theorem rmatches_ok (l names all : List ByteArray) (o : Nat) : CtOk Tryz.prog 42 (ct_rmatches l names all o) := CtOk_of KK_ok tabRf (ann_rmatches l names all o) (fn := Tryz.f42) rfl (fun _ _ => rfl) fun hn => by
  obtain ⟨⟨hn1, hn2⟩, hx1, hx2, hnm, hno⟩ := hn
  have hnl : names.length = all.length - o := by rw [hnm, List.length_drop]
  have hrd : ∀ k, rd (α := ByteArray) all (k + o) (ByteArray.mk #[]) = rd names k (ByteArray.mk #[]) := fun k => by
    unfold rd
    rw [hnm, List.getD_eq_getElem?_getD, List.getD_eq_getElem?_getD, List.getElem?_drop, Nat.add_comm]
  rw [vc_rmatches]
  simp only [hrd]
  have es : ((names.length : Int) + 1).toNat = names.length + 1 := by omega
  have tl : ∀ j, (mchT l names j).length = names.length + 1 := fun j => mtT_len j
  have rl' : ∀ j m, (mchR l names j m).length = names.length + 1 := fun j m => mtR_len j m
  have sz1 : ∀ i, i < l.length → (rd (α := ByteArray) l i (ByteArray.mk #[])).size ≤ 1000000 := fun i hi => hx1 _ (rd_inB l i _ hi)
  have sz2 : ∀ i, i < names.length → (rd (α := ByteArray) names i (ByteArray.mk #[])).size ≤ 1000000 := fun i hi => hx2 _ (rd_inB names i _ hi)
  simp only [Int.toNat_natCast, es, List.length_replicate]
  have hq1 : (List.replicate (names.length + 1) false).set names.length true = mchT l names l.length := mt_first
  refine ⟨by unfold i64ok; omega, ⟨by omega, by omega⟩, ⟨by omega, by omega⟩, ⟨by omega, by omega⟩, by omega, trivial, by omega, by unfold i64ok; omega, ⟨l.length, [], [0, 1, 2], Nat.le_refl _, trivial, into_mk (by kernel_rfl) (by (repeat' first | exact trivial | exact rfl | exact hq1 | apply And.intro)) (by (repeat' first | exact trivial | exact rfl | exact hq1 | apply And.intro))⟩, ?_⟩
  intro j hj
  have hj : j ≤ l.length := hj
  refine ite2_decide (fun hj0 => ?_) (fun hj0 => ?_)
  · obtain ⟨i, rfl⟩ : ∃ i, j = i + 1 := ⟨j - 1, by omega⟩
    have e1 : ((i + 1 : Nat) : Int) - 1 = (i : Int) := by omega
    have e2 : ((i : Int) + 1).toNat = i + 1 := by omega
    simp only [e1, e2, Int.toNat_natCast]
    have e5 : (((i + 1 : Nat) : Int) - 1 + 1).toNat = i + 1 := by omega
    have e6 : (((i + 1 : Nat) : Int) - 1).toNat = i := by omega
    have hq2 : List.replicate (names.length + 1) false = mchR l names (((i + 1 : Nat) : Int) - 1 + 1).toNat (names.length + 1) := by rw [e5]; exact mtR_start _
    have hq3 : (names.length : Int) = ((names.length + 1 : Nat) : Int) - 1 := by omega
    have hq4 : (i : Int) = ((i + 1 : Nat) : Int) - 1 := by omega
    have hq5 : mchT l names (i + 1) = mchT l names (((i + 1 : Nat) : Int) - 1 + 1).toNat := by rw [e5]
    have hq8 : (rsig (rd (α := ByteArray) l i (ByteArray.mk #[]))).length = (rsig (rd (α := ByteArray) l (((i + 1 : Nat) : Int) - 1).toNat (ByteArray.mk #[]))).length := by rw [e6]
    have hq9 : rsig (rd (α := ByteArray) l i (ByteArray.mk #[])) = rsig (rd (α := ByteArray) l (((i + 1 : Nat) : Int) - 1).toNat (ByteArray.mk #[])) := by rw [e6]
    have hil : i < l.length := by omega
    have hsl := rsig_len (rd (α := ByteArray) l i (ByteArray.mk #[]))
    have hs1 := sz1 i hil
    refine ⟨by unfold i64ok; omega, ⟨by omega, by omega⟩, ⟨by omega, by omega⟩, ⟨by omega, by omega⟩, hil, trivial, hil, hs1, into_mk (by kernel_rfl) (by (repeat' first | exact trivial | exact rfl | apply And.intro)) (by (repeat' first | exact trivial | exact rfl | apply And.intro)), fun _ _ => ⟨⟨(names.length + 1 : Nat), [], [0, 1, 2, 3, 4], Nat.le_refl _, trivial, into_mk (by kernel_rfl) (by (repeat' first | exact trivial | exact rfl | exact hq2 | exact hq3 | exact hq4 | exact hq5 | exact hq8 | exact hq9 | apply And.intro)) (by (repeat' first | exact trivial | exact rfl | exact hq2 | exact hq3 | exact hq4 | exact hq5 | exact hq8 | exact hq9 | apply And.intro))⟩, ?_⟩⟩
    intro m hm
    have hm : m ≤ names.length + 1 := hm
    refine ite2_decide (fun hm0 => ?_) (fun hm0 => ?_)
    · obtain ⟨k, rfl⟩ : ∃ k, m = k + 1 := ⟨m - 1, by omega⟩
      have e3 : ((k + 1 : Nat) : Int) - 1 = (k : Int) := by omega
      have e4 : ((k : Int) + 1).toNat = k + 1 := by omega
      simp only [e3, e4, Int.toNat_natCast, tl, rl']
      have hk : k < names.length + 1 := by omega
      have io : i64ok ((k : Int) - 1) := by unfold i64ok; omega
      have set_ : ∀ v : Bool, v = MPat.mt l.length names.length (fun i => isDeep (pcAt l i)) (pcOne l names) i k → (mchR l names (i + 1) (k + 1)).set k v = mchR l names (((i + 1 : Nat) : Int) - 1 + 1).toNat k := fun v hv => by rw [e5]; exact mtR_set hv
      have rT : ∀ q, q < names.length + 1 → rd (mchT l names (i + 1)) q false = MPat.mt l.length names.length (fun i => isDeep (pcAt l i)) (pcOne l names) (i + 1) q := fun q hq => mtT_rd hq
      refine ⟨⟨by omega, by omega⟩, hil, trivial, hil, ite2_decide (fun h1 => ?_) (fun h1 => ?_)⟩
      · have hD : isDeep (pcAt l i) = true := beq_iff_eq.2 (h1.trans (toList_data ⟨#[42, 42]⟩))
        have hmt := MPat.mt_many (M := fun i => isDeep (pcAt l i)) (O := pcOne l names) (of := names.length) (k := k) hil hD
        refine ⟨⟨by omega, by omega⟩, hk, trivial, hk, ite2_mk (fun h2 => ?_) (fun h2 => ite2_decide (fun h3 => ?_) (fun h3 => ?_))⟩
        · rw [rT k hk] at h2
          have hq7 := set_ true (by rw [hmt, h2]; rfl)
          exact ⟨⟨by omega, by omega⟩, hk, trivial, hk, io, (k : Nat), [], [0, 1, 2, 3, 4], (show k ≤ names.length + 1 by omega), (show k < k + 1 by omega), into_mk (by kernel_rfl) (by (repeat' first | exact trivial | exact rfl | exact hq7 | exact hq4 | exact hq5 | exact hq8 | exact hq9 | exact hq8.symm | exact hq9.symm | apply And.intro)) (by (repeat' first | exact trivial | exact rfl | exact hq7 | exact hq4 | exact hq5 | exact hq8 | exact hq9 | exact hq8.symm | exact hq9.symm | apply And.intro))⟩
        · rw [rT k hk] at h2
          have h3' : k < names.length := by omega
          have hR : rd (mchR l names (i + 1) (k + 1)) (k + 1) false = MPat.mt l.length names.length (fun i => isDeep (pcAt l i)) (pcOne l names) i (k + 1) := mtR_rd (by omega) (Nat.le_refl _)
          have hq7 := set_ (rd (mchR l names (i + 1) (k + 1)) (k + 1) false) (by rw [hmt, h2, if_pos h3', hR]; rfl)
          exact ⟨by unfold i64ok; omega, ⟨by omega, by omega⟩, by omega, trivial, by omega, ⟨by omega, by omega⟩, hk, trivial, hk, io, (k : Nat), [], [0, 1, 2, 3, 4], (show k ≤ names.length + 1 by omega), (show k < k + 1 by omega), into_mk (by kernel_rfl) (by (repeat' first | exact trivial | exact rfl | exact hq7 | exact hq4 | exact hq5 | exact hq8 | exact hq9 | exact hq8.symm | exact hq9.symm | apply And.intro)) (by (repeat' first | exact trivial | exact rfl | exact hq7 | exact hq4 | exact hq5 | exact hq8 | exact hq9 | exact hq8.symm | exact hq9.symm | apply And.intro))⟩
        · rw [rT k hk] at h2
          have hq7 := set_ false (by rw [hmt, h2, if_neg (by omega)]; rfl)
          exact ⟨⟨by omega, by omega⟩, hk, trivial, hk, io, (k : Nat), [], [0, 1, 2, 3, 4], (show k ≤ names.length + 1 by omega), (show k < k + 1 by omega), into_mk (by kernel_rfl) (by (repeat' first | exact trivial | exact rfl | exact hq7 | exact hq4 | exact hq5 | exact hq8 | exact hq9 | exact hq8.symm | exact hq9.symm | apply And.intro)) (by (repeat' first | exact trivial | exact rfl | exact hq7 | exact hq4 | exact hq5 | exact hq8 | exact hq9 | exact hq8.symm | exact hq9.symm | apply And.intro))⟩
      · have hD : isDeep (pcAt l i) = false := beq_eq_false_iff_ne.2 fun e => h1 (e.trans (toList_data ⟨#[42, 42]⟩).symm)
        have hmt := MPat.mt_one (M := fun i => isDeep (pcAt l i)) (O := pcOne l names) (of := names.length) (k := k) hil hD
        refine ite2_decide (fun h3 => ?_) (fun h3 => ?_)
        · have h3' : k < names.length := by omega
          rw [if_pos h3'] at hmt
          refine ⟨by unfold i64ok; omega, ⟨by omega, by omega⟩, by omega, trivial, by omega, ite2_mk (fun h2 => ?_) (fun h2 => ?_)⟩
          · rw [rT (k + 1) (by omega)] at h2
            have hq7 := set_ (fitA (rsig (rd (α := ByteArray) l i (ByteArray.mk #[]))) (rd (α := ByteArray) names k (ByteArray.mk #[])) 0 0) (by rw [hmt, h2, Bool.and_true]; rfl)
            have hq10 : (rsig (rd (α := ByteArray) l (((i + 1 : Nat) : Int) - 1).toNat (ByteArray.mk #[]))).length = (rsig (rd (α := ByteArray) l i (ByteArray.mk #[]))).length := by rw [e6]
            have hoa : k + o < all.length := by omega
            exact ⟨⟨by omega, by omega⟩, hoa, trivial, hoa, ⟨by omega, sz2 k h3'⟩, into_mk (by kernel_rfl) (by (repeat' first | exact trivial | exact rfl | exact hq7 | exact hq4 | exact hq5 | exact hq8 | exact hq9 | exact hq8.symm | exact hq9.symm | apply And.intro)) (by (repeat' first | exact trivial | exact rfl | exact hq7 | exact hq4 | exact hq5 | exact hq8 | exact hq9 | exact hq8.symm | exact hq9.symm | apply And.intro)), fun _ _ => ⟨⟨by omega, by omega⟩, hk, trivial, hk, io, (k : Nat), [], [0, 1, 2, 3, 4], (show k ≤ names.length + 1 by omega), (show k < k + 1 by omega), into_mk (by kernel_rfl) (by (repeat' first | exact trivial | exact rfl | exact hq7 | exact hq4 | exact hq5 | exact hq8 | exact hq9 | exact hq8.symm | exact hq9.symm | apply And.intro)) (by (repeat' first | exact trivial | exact rfl | exact hq7 | exact hq4 | exact hq5 | exact hq8 | exact hq9 | exact hq8.symm | exact hq9.symm | apply And.intro))⟩⟩
          · rw [rT (k + 1) (by omega)] at h2
            have hq7 := set_ false (by rw [hmt, h2, Bool.and_false])
            exact ⟨⟨by omega, by omega⟩, hk, trivial, hk, io, (k : Nat), [], [0, 1, 2, 3, 4], (show k ≤ names.length + 1 by omega), (show k < k + 1 by omega), into_mk (by kernel_rfl) (by (repeat' first | exact trivial | exact rfl | exact hq7 | exact hq4 | exact hq5 | exact hq8 | exact hq9 | exact hq8.symm | exact hq9.symm | apply And.intro)) (by (repeat' first | exact trivial | exact rfl | exact hq7 | exact hq4 | exact hq5 | exact hq8 | exact hq9 | exact hq8.symm | exact hq9.symm | apply And.intro))⟩
        · rw [if_neg (by omega)] at hmt
          have hq7 := set_ false (by rw [hmt])
          exact ⟨⟨by omega, by omega⟩, hk, trivial, hk, io, (k : Nat), [], [0, 1, 2, 3, 4], (show k ≤ names.length + 1 by omega), (show k < k + 1 by omega), into_mk (by kernel_rfl) (by (repeat' first | exact trivial | exact rfl | exact hq7 | exact hq4 | exact hq5 | exact hq8 | exact hq9 | exact hq8.symm | exact hq9.symm | apply And.intro)) (by (repeat' first | exact trivial | exact rfl | exact hq7 | exact hq4 | exact hq5 | exact hq8 | exact hq9 | exact hq8.symm | exact hq9.symm | apply And.intro))⟩
    · obtain rfl : m = 0 := by omega
      have hq7 : mchR l names (i + 1) 0 = mchT l names i := mtR_end i
      exact ⟨by unfold i64ok; omega, (i : Nat), [], [0, 1, 3], (show i ≤ l.length by omega), (show i < i + 1 by omega), into_mk (by kernel_rfl) (by (repeat' first | exact trivial | exact rfl | exact hq7 | exact hq4 | exact hq5 | exact hq8 | exact hq9 | exact hq8.symm | exact hq9.symm | apply And.intro)) (by (repeat' first | exact trivial | exact rfl | exact hq7 | exact hq4 | exact hq5 | exact hq8 | exact hq9 | exact hq8.symm | exact hq9.symm | apply And.intro))⟩
  · obtain rfl : j = 0 := by omega
    have hq1 : rd (mchT l names 0) 0 false = mchA l names 0 0 := mtT_rd (by omega)
    simp only [tl]
    exact ⟨⟨by omega, by omega⟩, by omega, trivial, by omega, (), [], [0, 1], trivial, by (repeat' first | exact trivial | exact rfl | exact hq1 | apply And.intro)⟩
end Go.Proofs.YtoidibkcdkdneaaGreatDoor.T
end
section
namespace Go.Proofs.YtoidibkcdkdneaaGreatDoor.T
open Go.Proofs.YtoidibkcdkdneaaGreatDoor.E Go.Proofs.YtoidibkcdkdneaaGreatDoor.MStr Go.Proofs.YtoidibkcdkdneaaGreatDoor.R
set_option maxRecDepth 100000
set_option linter.unusedVariables false
def anyTo (s : ByteArray) (i : Nat) : Bool := (s.data.toList.take i).any (· == 47)
def refP (s : ByteArray) : List ByteArray × Bool × Bool :=
  if s.size < 1 ∨ 255 < s.size then ([], false, false)
  else if pieces (Hand.trimS s) = [] then ([], false, false)
  else match Hand.partsL (pieces (Hand.trimS s)) with
    | none => ([], false, false)
    | some r => (pieces (Hand.trimS s), anyTo s s.size, decide (r.2 ≤ 8))
def ct_rpat (s : ByteArray) : Ct KK := { need := s.size ≤ 1000000, pre := [], args := [strv s], Y := Unit, ok := fun _ => True, ret := fun _ => .tup [.c (.slc 0 0 (refP s).1.length none), .c (.bool (refP s).2.1), .c (.bool (refP s).2.2)], post := fun _ => [.arr .str (refP s).1] }
def inv_rpat1 (s : ByteArray) : Inv KK := { X := Nat, fr := fun i => [strv s, .any, .any, .any, .any, boolv (anyTo s i), i64 i] ++ anys 78, H := fun _ => [], ok := fun i => i ≤ s.size, meas := fun i : Nat => s.size - i }
def inv_rpatC (s : ByteArray) (b : Bool) : Inv KK := { X := Unit, fr := fun _ => [strv (Hand.trimS s), .any, .any, .any, .any, boolv b] ++ anys 79, H := fun _ => [], ok := fun _ => True, meas := fun _ => 0 }
def patTo (l : List ByteArray) (i n : Nat) : Prop := i ≤ l.length ∧ n ≤ i * 1000000 ∧ ∃ pts, Hand.partsL (l.take i) = some (pts, n)
def inv_rpat2 (u : ByteArray) (b : Bool) : Inv KK := { X := Nat × Nat, fr := fun z => [.any, .any, .any, .any, .any, boolv b, .any, .c (.slc 0 0 (pieces u).length none), i64 z.2, i64 z.1] ++ anys 75, H := fun _ => [.arr .str (pieces u)], ok := fun z => patTo (pieces u) z.1 z.2, meas := fun z => (pieces u).length - z.1 }
def cntTo (x : List Sn) (k : Nat) : Nat := (x.take k).countP (·.1)
def inv_rpat3 (u : ByteArray) (b : Bool) (n i : Int) (x : List Sn) : Inv KK := { X := Nat, fr := fun k => [.any, .any, .any, .any, .any, boolv b, .any, .c (.slc 0 0 (pieces u).length none), i64 (n + (cntTo x k : Nat)), i64 i, .c (.slc 1 0 x.length none), .any, i64 k] ++ anys 72, H := fun _ => [.arr .str (pieces u), .arr .sgn x], ok := fun k => k ≤ x.length, meas := fun k : Nat => x.length - k }
def loop_rpat (s : ByteArray) (id : Nat) (fr : List VV) (H : VH KK) : Option (Inv KK) := match id, fr.getD 5 .any, fr.getD 8 .any, fr.getD 9 .any, at_ H 1 with
  | 5, _, _, _, _ => some (inv_rpat1 s)
  | 15, .one (.c (.bool b)), _, _, _ => some (inv_rpat2 (Hand.trimS s) b)
  | 21, .one (.c (.bool b)), .one (.c (.int _ n)), .one (.c (.int _ i)), .arr .sgn x => some (inv_rpat3 (Hand.trimS s) b n i x)
  | _, _, _, _, _ => none
def cut_rpat (s : ByteArray) (id : Nat) (fr : List VV) (H : VH KK) : Option (Inv KK) := match id, fr.getD 5 .any with
  | 10, .one (.c (.bool b)) => some (inv_rpatC s b)
  | _, _ => none
def ann_rpat (s : ByteArray) : Ann KK := { loop := loop_rpat s, cut := cut_rpat s, keep := some 13 }
theorem vc_rpat (s : ByteArray) : evFn tabRf (ann_rpat s) Tryz.f40 (ct_rpat s) = ( ite2 (decide ((↑s.size : Int) < (1 : Int))) (EndsAs 0 (ct_rpat s) (VV.tup [V1.c C.nils, V1.c (C.bool false), V1.c (C.bool false)]) []) (ite2 (decide ((255 : Int) < (↑s.size : Int))) (EndsAs 0 (ct_rpat
 s) (VV.tup [V1.c C.nils, V1.c (C.bool false), V1.c (C.bool false)]) []) (Enter 0 (inv_rpat1 s) (fun (x : Nat) => True) ([VV.one (V1.c (C.str s)), VV.any, VV.one (V1.c C.nils), boolv false, boolv false,
 boolv false, i64 (0 : Int)] ++ anys 78) [] ∧ ∀ (z : Nat), z ≤ s.size → ite2 (decide ((↑z : Int) < (↑s.size : Int))) (ite2 (anyTo s z) (i64ok ((↑z : Int) + (1 : Int)) ∧ Enter 0 (inv_rpat1 s) (fun (z' :
 Nat) => s.size - z' < s.size - z) ([VV.one (V1.c (C.str s)), VV.any, VV.any, VV.any, VV.any, boolv true, i64 ((↑z : Int) + (1 : Int))] ++ anys 78) []) (((0 : Int) ≤ (↑z : Int) ∧ (↑z : Int) < (↑s.size :
 Int)) ∧ ite2 (decide (bt s (↑z : Int).toNat = (47 : Int))) (i64ok ((↑z : Int) + (1 : Int)) ∧ Enter 0 (inv_rpat1 s) (fun (z' : Nat) => s.size - z' < s.size - z) ([VV.one (V1.c (C.str s)), VV.any, VV.any,
 VV.any, VV.any, boolv true, i64 ((↑z : Int) + (1 : Int))] ++ anys 78) []) (i64ok ((↑z : Int) + (1 : Int)) ∧ Enter 0 (inv_rpat1 s) (fun (z' : Nat) => s.size - z' < s.size - z) ([VV.one (V1.c (C.str s)),
 VV.any, VV.any, VV.any, VV.any, boolv false, i64 ((↑z : Int) + (1 : Int))] ++ anys 78) []))) ((((0 : Int) ≤ (0 : Int) ∧ (0 : Int) < (↑s.size : Int)) ∧ ite2 (decide (bt s 0 = (47 : Int))) (((0 : Int) ≤
 (1 : Int) ∧ (1 : Int) ≤ (↑s.size : Int) ∧ (↑s.size : Int) ≤ (↑s.size : Int)) ∧ Enter 0 (inv_rpatC s (anyTo s z)) (fun (x : Unit) => True) ([VV.one (V1.c (C.str (s.extract 1 (↑s.size : Int).toNat))), VV.any,
 VV.any, VV.any, VV.any, boolv (anyTo s z), i64 (↑z : Int)] ++ anys 78) []) (Enter 0 (inv_rpatC s (anyTo s z)) (fun (x : Unit) => True) ([VV.one (V1.c (C.str s)), VV.any, VV.any, VV.any, VV.any, boolv (anyTo
 s z), i64 (↑z : Int)] ++ anys 78) [])) ∧ ∀ (z_1 : Unit), True → (Hand.trimS s).size ≤ 1000000 ∧ Into (K := KK) 0 [] [] [VV.one (V1.c (C.str (Hand.trimS s)))] [] [VV.one (V1.c (C.str (Hand.trimS s)))] []
 ∧ ∀ (y : Unit), True → ite2 (decide ((↑(pieces (Hand.trimS s)).length : Int) = (0 : Int))) (EndsAs 0 (ct_rpat s) (VV.tup [V1.c C.nils, V1.c (C.bool false), V1.c (C.bool false)]) [Atom.arr Kd.str (pieces
 (Hand.trimS s))]) (Enter 0 (inv_rpat2 (Hand.trimS s) (anyTo s z)) (fun (x : Nat × Nat) => True) ([VV.one (V1.c (C.str (Hand.trimS s))), VV.any, VV.any, VV.any, VV.any, boolv (anyTo s z), VV.any, VV.one
 (V1.c (C.slc 0 0 (pieces (Hand.trimS s)).length none)), i64 (0 : Int), i64 (0 : Int)] ++ anys 75) [Atom.arr Kd.str (pieces (Hand.trimS s))] ∧ ∀ (z_2 : Nat × Nat), patTo (pieces (Hand.trimS s)) z_2.fst
 z_2.snd → ite2 (decide ((↑z_2.fst : Int) < (↑(pieces (Hand.trimS s)).length : Int))) (((0 : Int) ≤ (↑z_2.fst : Int) ∧ (↑z_2.fst : Int) < (↑(pieces (Hand.trimS s)).length : Int)) ∧ (↑z_2.fst : Int).toNat
 < (pieces (Hand.trimS s)).length ∧ True ∧ (↑z_2.fst : Int).toNat < (pieces (Hand.trimS s)).length ∧ ByteArray.size (rd (pieces (Hand.trimS s)) (↑z_2.fst : Int).toNat (ByteArray.mk (#[]))) ≤ 1000000 ∧ Into
 (K := KK) 0 [] [] [VV.one (V1.c (C.str (rd (pieces (Hand.trimS s)) (↑z_2.fst : Int).toNat (ByteArray.mk (#[])))))] [Atom.arr Kd.str (pieces (Hand.trimS s))] [VV.one (V1.c (C.str (rd (pieces (Hand.trimS
 s)) (↑z_2.fst : Int).toNat (ByteArray.mk (#[])))))] [] ∧ ∀ (y : Unit), True → ite2 (rok (rd (pieces (Hand.trimS s)) (↑z_2.fst : Int).toNat (ByteArray.mk (#[])))) (((0 : Int) ≤ (↑z_2.fst : Int) ∧ (↑z_2.fst
 : Int) < (↑(pieces (Hand.trimS s)).length : Int)) ∧ (↑z_2.fst : Int).toNat < (pieces (Hand.trimS s)).length ∧ True ∧ (↑z_2.fst : Int).toNat < (pieces (Hand.trimS s)).length ∧ ite2 (decide ((↑(ByteArray.size
 (rd (pieces (Hand.trimS s)) (↑z_2.fst : Int).toNat (ByteArray.mk (#[])))) : Int) = (0 : Int))) (EndsAs 0 (ct_rpat s) (VV.tup [V1.c C.nils, V1.c (C.bool false), V1.c (C.bool false)]) [Atom.arr Kd.str (pieces
 (Hand.trimS s)), Atom.arr Kd.sgn (rsig (rd (pieces (Hand.trimS s)) (↑z_2.fst : Int).toNat (ByteArray.mk (#[]))))]) (Enter 0 (inv_rpat3 (Hand.trimS s) (anyTo s z) (↑z_2.snd : Int) (↑z_2.fst : Int) (rsig
 (rd (pieces (Hand.trimS s)) (↑z_2.fst : Int).toNat (ByteArray.mk (#[]))))) (fun (x : Nat) => True) ([VV.any, VV.any, VV.any, VV.any, VV.any, boolv (anyTo s z), VV.any, VV.one (V1.c (C.slc 0 0 (pieces (Hand.trimS
 s)).length none)), i64 (↑z_2.snd : Int), i64 (↑z_2.fst : Int), VV.one (V1.c (C.slc 1 0 (rsig (rd (pieces (Hand.trimS s)) (↑z_2.fst : Int).toNat (ByteArray.mk (#[])))).length none)), VV.one (V1.c (C.bool
 (rok (rd (pieces (Hand.trimS s)) (↑z_2.fst : Int).toNat (ByteArray.mk (#[])))))), i64 (0 : Int)] ++ anys 72) [Atom.arr Kd.str (pieces (Hand.trimS s)), Atom.arr Kd.sgn (rsig (rd (pieces (Hand.trimS s))
 (↑z_2.fst : Int).toNat (ByteArray.mk (#[]))))] ∧ ∀ (z_3 : Nat), z_3 ≤ (rsig (rd (pieces (Hand.trimS s)) (↑z_2.fst : Int).toNat (ByteArray.mk (#[])))).length → ite2 (decide ((↑z_3 : Int) < (↑(rsig (rd (pieces
 (Hand.trimS s)) (↑z_2.fst : Int).toNat (ByteArray.mk (#[])))).length : Int))) (((0 : Int) ≤ (↑z_3 : Int) ∧ (↑z_3 : Int) < (↑(rsig (rd (pieces (Hand.trimS s)) (↑z_2.fst : Int).toNat (ByteArray.mk (#[])))).length
 : Int)) ∧ (↑z_3 : Int).toNat < (rsig (rd (pieces (Hand.trimS s)) (↑z_2.fst : Int).toNat (ByteArray.mk (#[])))).length ∧ True ∧ (↑z_3 : Int).toNat < (rsig (rd (pieces (Hand.trimS s)) (↑z_2.fst : Int).toNat
 (ByteArray.mk (#[])))).length ∧ ite2 (rd (rsig (rd (pieces (Hand.trimS s)) (↑z_2.fst : Int).toNat (ByteArray.mk (#[])))) (↑z_3 : Int).toNat (KK.dflt Kd.sgn)).fst (i64ok ((↑z_2.snd : Int) + (↑(cntTo (rsig
 (rd (pieces (Hand.trimS s)) (↑z_2.fst : Int).toNat (ByteArray.mk (#[])))) z_3) : Int) + (1 : Int)) ∧ i64ok ((↑z_3 : Int) + (1 : Int)) ∧ Enter 0 (inv_rpat3 (Hand.trimS s) (anyTo s z) (↑z_2.snd : Int) (↑z_2.fst
 : Int) (rsig (rd (pieces (Hand.trimS s)) (↑z_2.fst : Int).toNat (ByteArray.mk (#[]))))) (fun (z' : Nat) => (rsig (rd (pieces (Hand.trimS s)) (↑z_2.fst : Int).toNat (ByteArray.mk (#[])))).length - z' <
 (rsig (rd (pieces (Hand.trimS s)) (↑z_2.fst : Int).toNat (ByteArray.mk (#[])))).length - z_3) ([VV.any, VV.any, VV.any, VV.any, VV.any, boolv (anyTo s z), VV.any, VV.one (V1.c (C.slc 0 0 (pieces (Hand.trimS
 s)).length none)), VV.one (V1.c (C.int .i64 ((↑z_2.snd : Int) + (↑(cntTo (rsig (rd (pieces (Hand.trimS s)) (↑z_2.fst : Int).toNat (ByteArray.mk (#[])))) z_3) : Int) + (1 : Int)))), i64 (↑z_2.fst : Int),
 VV.one (V1.c (C.slc 1 0 (rsig (rd (pieces (Hand.trimS s)) (↑z_2.fst : Int).toNat (ByteArray.mk (#[])))).length none)), VV.any, i64 ((↑z_3 : Int) + (1 : Int))] ++ anys 72) [Atom.arr Kd.str (pieces (Hand.trimS
 s)), Atom.arr Kd.sgn (rsig (rd (pieces (Hand.trimS s)) (↑z_2.fst : Int).toNat (ByteArray.mk (#[]))))]) (i64ok ((↑z_3 : Int) + (1 : Int)) ∧ Enter 0 (inv_rpat3 (Hand.trimS s) (anyTo s z) (↑z_2.snd : Int)
 (↑z_2.fst : Int) (rsig (rd (pieces (Hand.trimS s)) (↑z_2.fst : Int).toNat (ByteArray.mk (#[]))))) (fun (z' : Nat) => (rsig (rd (pieces (Hand.trimS s)) (↑z_2.fst : Int).toNat (ByteArray.mk (#[])))).length
 - z' < (rsig (rd (pieces (Hand.trimS s)) (↑z_2.fst : Int).toNat (ByteArray.mk (#[])))).length - z_3) ([VV.any, VV.any, VV.any, VV.any, VV.any, boolv (anyTo s z), VV.any, VV.one (V1.c (C.slc 0 0 (pieces
 (Hand.trimS s)).length none)), VV.one (V1.c (C.int .i64 ((↑z_2.snd : Int) + (↑(cntTo (rsig (rd (pieces (Hand.trimS s)) (↑z_2.fst : Int).toNat (ByteArray.mk (#[])))) z_3) : Int)))), i64 (↑z_2.fst : Int),
 VV.one (V1.c (C.slc 1 0 (rsig (rd (pieces (Hand.trimS s)) (↑z_2.fst : Int).toNat (ByteArray.mk (#[])))).length none)), VV.any, i64 ((↑z_3 : Int) + (1 : Int))] ++ anys 72) [Atom.arr Kd.str (pieces (Hand.trimS
 s)), Atom.arr Kd.sgn (rsig (rd (pieces (Hand.trimS s)) (↑z_2.fst : Int).toNat (ByteArray.mk (#[]))))])) (i64ok ((↑z_2.fst : Int) + (1 : Int)) ∧ Enter 0 (inv_rpat2 (Hand.trimS s) (anyTo s z)) (fun (z' :
 Nat × Nat) => (pieces (Hand.trimS s)).length - z'.fst < (pieces (Hand.trimS s)).length - z_2.fst) ([VV.any, VV.any, VV.any, VV.any, VV.any, boolv (anyTo s z), VV.any, VV.one (V1.c (C.slc 0 0 (pieces (Hand.trimS
 s)).length none)), VV.one (V1.c (C.int .i64 ((↑z_2.snd : Int) + (↑(cntTo (rsig (rd (pieces (Hand.trimS s)) (↑z_2.fst : Int).toNat (ByteArray.mk (#[])))) z_3) : Int)))), i64 ((↑z_2.fst : Int) + (1 : Int)),
 VV.one (V1.c (C.slc 1 0 (rsig (rd (pieces (Hand.trimS s)) (↑z_2.fst : Int).toNat (ByteArray.mk (#[])))).length none)), VV.any, i64 (↑z_3 : Int)] ++ anys 72) [Atom.arr Kd.str (pieces (Hand.trimS s)), Atom.arr
 Kd.sgn (rsig (rd (pieces (Hand.trimS s)) (↑z_2.fst : Int).toNat (ByteArray.mk (#[]))))]))) (EndsAs 0 (ct_rpat s) (VV.tup [V1.c C.nils, V1.c (C.bool false), V1.c (C.bool false)]) [Atom.arr Kd.str (pieces
 (Hand.trimS s)), Atom.arr Kd.sgn (rsig (rd (pieces (Hand.trimS s)) (↑z_2.fst : Int).toNat (ByteArray.mk (#[]))))])) (ite2 (decide ((↑z_2.snd : Int) ≤ (8 : Int))) (EndsAs 0 (ct_rpat s) (VV.tup [V1.c (C.slc
 0 0 (pieces (Hand.trimS s)).length none), V1.c (C.bool (anyTo s z)), V1.c (C.bool true)]) [Atom.arr Kd.str (pieces (Hand.trimS s))]) (EndsAs 0 (ct_rpat s) (VV.tup [V1.c (C.slc 0 0 (pieces (Hand.trimS s)).length
 none), V1.c (C.bool (anyTo s z)), V1.c (C.bool false)]) [Atom.arr Kd.str (pieces (Hand.trimS s))]))))))) := by kernel_rfl
theorem anyTo_succ {s : ByteArray} {i : Nat} (h : i < s.size) : anyTo s (i + 1) = (anyTo s i || (s.get! i == 47)) := by
  unfold anyTo
  have hl : i < s.data.toList.length := by simpa using h
  have e : s.data.toList[i] = s.get! i := by
    have := get_data s i h
    exact (List.getElem?_eq_some_iff.1 this).2
  rw [List.take_succ_eq_append_getElem hl, List.any_append, e]
  simp
theorem bt_47 (s : ByteArray) (i : Nat) (h : i < s.size) : E.bt s i = 47 ↔ s.get! i = 47 := by
  rw [bt_nat s i h]
  constructor
  · intro e
    apply UInt8.toNat_inj.1
    show (s.get! i).toNat = 47
    omega
  · intro e; rw [e]; rfl
theorem head_47 {s : ByteArray} (h : 0 < s.size) : s.data.toList.head? = some (s.get! 0) := by
  rw [List.head?_eq_getElem?]
  exact get_data s 0 h
theorem sig_some {p : ByteArray} (h : rok p = true) : ∃ l, Hand.signsL p.data.toList = some l ∧ rsig p = l.map toSn ∧ (l = [] ↔ p.size = 0) := by
  unfold rok rsigL at h
  cases hs : Hand.signsL p.data.toList with
  | none => rw [hs] at h; cases h
  | some l =>
    refine ⟨l, rfl, ?_, ?_⟩
    · unfold rsig rsigL; rw [hs]; rfl
    · have e : p.data.toList.length = p.size := by simp
      constructor
      · rintro rfl
        cases hp : p.data.toList with
        | nil => rw [hp] at e; simpa using e.symm
        | cons c t =>
          exfalso
          rw [hp] at hs
          cases t with
          | nil =>
            rw [Hand.signsL] at hs
            split at hs <;> simp at hs
          | cons d t =>
            rw [Hand.signsL] at hs
            split at hs
            · cases h2 : Hand.signsL t <;> rw [h2] at hs <;> simp at hs
            · cases h2 : Hand.signsL (d :: t) <;> rw [h2] at hs <;> simp at hs
      · intro h0
        have h1 := Hand.signsL_length _ _ hs
        exact List.eq_nil_of_length_eq_zero (by omega)
theorem out_yes {p : ByteArray} (h : rok p = true) (h0 : p.size ≠ 0) : (Hand.signsOut p).2 = true ∧ (Hand.signsOut p).1.map toSn = rsig p := by
  obtain ⟨l, hs, hr, hl⟩ := sig_some h
  unfold Hand.signsOut
  rw [hs, hr]
  refine ⟨?_, rfl⟩
  have : l ≠ [] := fun e => h0 (hl.1 e)
  have := List.length_pos_iff.2 this
  exact decide_eq_true (by omega)
theorem out_no {p : ByteArray} (h : rok p = false ∨ p.size = 0) : (Hand.signsOut p).2 = false := by
  cases hr : rok p with
  | false =>
    unfold rok rsigL at hr
    cases hs : Hand.signsL p.data.toList with
    | none => unfold Hand.signsOut; rw [hs]
    | some l => rw [hs] at hr; cases hr
  | true =>
    have h0 := h.resolve_left (by rw [hr]; simp)
    obtain ⟨l, hs, _, hl⟩ := sig_some hr
    unfold Hand.signsOut
    rw [hs, hl.2 h0]
    rfl
theorem rd_getB {l : List ByteArray} {i : Nat} (h : i < l.length) : rd l i (ByteArray.mk #[]) = l[i] := by
  unfold rd
  rw [List.getD_eq_getElem?_getD, List.getElem?_eq_getElem h]
  rfl
theorem cnt_all (x : List Sn) : cntTo x x.length = x.countP (·.1) := by unfold cntTo; rw [List.take_length]
theorem cnt_succ {x : List Sn} {k : Nat} (h : k < x.length) : cntTo x (k + 1) = cntTo x k + if (rd x k ((false, false, 0) : Sn)).1 = true then 1 else 0 := by
  unfold cntTo
  have e : rd x k ((false, false, 0) : Sn) = x[k] := by
    unfold rd
    rw [List.getD_eq_getElem?_getD, List.getElem?_eq_getElem h]; rfl
  rw [List.take_succ_eq_append_getElem h, List.countP_append, e]
  simp [List.countP_cons]
theorem patTo.next {l : List ByteArray} {i n : Nat} (h : patTo l i n) (hi : i < l.length) (hr : rok l[i] = true) (h0 : l[i].size ≠ 0) (hs : l[i].size ≤ 1000000) : patTo l (i + 1) (n + (rsig l[i]).countP (·.1)) := by
  obtain ⟨h1, hb, pts, h2⟩ := h
  obtain ⟨o1, o2⟩ := out_yes hr h0
  have h3 := Hand.partsL_take l i hi pts n h2
  rw [if_pos o1] at h3
  have hc : (rsig l[i]).countP (·.1) ≤ 1000000 := Nat.le_trans List.countP_le_length (Nat.le_trans (rsig_len _) hs)
  refine ⟨hi, by omega, ?_⟩
  rw [← o2, List.countP_map]
  exact ⟨_, h3⟩
theorem patTo.stop {l : List ByteArray} {i n : Nat} (h : patTo l i n) (hi : i < l.length) (hb : rok l[i] = false ∨ l[i].size = 0) : Hand.partsL l = none := by
  obtain ⟨h1, _, pts, h2⟩ := h
  have h3 := Hand.partsL_take l i hi pts n h2
  rw [if_neg (by rw [out_no hb]; simp)] at h3
  exact Hand.partsL_none l _ h3
theorem rpat_ok (s : ByteArray) : CtOk Tryz.prog 40 (ct_rpat s) := CtOk_of KK_ok tabRf (ann_rpat s) (fn := Tryz.f40) rfl (fun _ _ => rfl) fun hn => by
  have hn : s.size ≤ 1000000 := hn
  have bad0 : refP s = ([], false, false) → EndsAs 0 (ct_rpat s) (.tup [.c .nils, .c (.bool false), .c (.bool false)]) [] := fun h => by
    have q1 : (refP s).1.length = 0 := by rw [h]; rfl
    have q2 : false = (refP s).2.1 := by rw [h]
    have q3 : false = (refP s).2.2 := by rw [h]
    have q4 : [] = (refP s).1 := by rw [h]
    exact ⟨(), [.str], [0], trivial, by (repeat' first | exact trivial | exact rfl | exact q1 | exact q2 | exact q3 | exact q4 | apply And.intro)⟩
  have bad1 : ∀ a : Atom KK, refP s = ([], false, false) → EndsAs 0 (ct_rpat s) (.tup [.c .nils, .c (.bool false), .c (.bool false)]) [a] := fun a h => by
    have q1 : (refP s).1.length = 0 := by rw [h]; rfl
    have q2 : false = (refP s).2.1 := by rw [h]
    have q3 : false = (refP s).2.2 := by rw [h]
    have q4 : [] = (refP s).1 := by rw [h]
    exact ⟨(), [.str], [1], trivial, by (repeat' first | exact trivial | exact rfl | exact q1 | exact q2 | exact q3 | exact q4 | apply And.intro)⟩
  have bad2 : ∀ a b : Atom KK, refP s = ([], false, false) → EndsAs 0 (ct_rpat s) (.tup [.c .nils, .c (.bool false), .c (.bool false)]) [a, b] := fun a b h => by
    have q1 : (refP s).1.length = 0 := by rw [h]; rfl
    have q2 : false = (refP s).2.1 := by rw [h]
    have q3 : false = (refP s).2.2 := by rw [h]
    have q4 : [] = (refP s).1 := by rw [h]
    exact ⟨(), [.str], [2], trivial, by (repeat' first | exact trivial | exact rfl | exact q1 | exact q2 | exact q3 | exact q4 | apply And.intro)⟩
  rw [vc_rpat]
  simp only [Int.toNat_natCast]
  refine ite2_decide (fun h => bad0 (by unfold refP; rw [if_pos (.inl (by omega))])) (fun h1 => ite2_decide (fun h => bad0 (by unfold refP; rw [if_pos (.inr (by omega))])) (fun h2 => ⟨⟨(0 : Nat), [], [], Nat.zero_le _, trivial, into_mk (by kernel_rfl) (by (repeat' first | exact trivial | exact rfl | apply And.intro)) (by (repeat' first | exact trivial | exact rfl | apply And.intro))⟩, ?_⟩))
  have hns : ¬ (s.size < 1 ∨ 255 < s.size) := by omega
  intro i hi
  have hi : i ≤ s.size := hi
  refine ite2_decide (fun hl => ?_) (fun hl => ?_)
  · have hl1 : i < s.size := by omega
    have hs := anyTo_succ hl1
    have me : s.size - (i + 1) < s.size - i := by omega
    refine ite2_mk (fun ha => ?_) (fun ha => ⟨⟨by omega, hl⟩, ite2_decide (fun hb => ?_) (fun hb => ?_)⟩)
    · have q1 : true = anyTo s (i + 1) := by rw [hs, ha]; rfl
      exact ⟨by unfold i64ok; omega, (i + 1 : Nat), [], [], (show i + 1 ≤ s.size by omega), me, into_mk (by kernel_rfl) (by (repeat' first | exact trivial | exact rfl | exact q1 | apply And.intro)) (by (repeat' first | exact trivial | exact rfl | apply And.intro))⟩
    · have q1 : true = anyTo s (i + 1) := by rw [hs, (bt_47 s i hl1).1 hb]; simp
      exact ⟨by unfold i64ok; omega, (i + 1 : Nat), [], [], (show i + 1 ≤ s.size by omega), me, into_mk (by kernel_rfl) (by (repeat' first | exact trivial | exact rfl | exact q1 | apply And.intro)) (by (repeat' first | exact trivial | exact rfl | apply And.intro))⟩
    · have q1 : false = anyTo s (i + 1) := by
        rw [hs, ha]
        have : ¬ s.get! i = 47 := fun e => hb ((bt_47 s i hl1).2 e)
        simp [this]
      exact ⟨by unfold i64ok; omega, (i + 1 : Nat), [], [], (show i + 1 ≤ s.size by omega), me, into_mk (by kernel_rfl) (by (repeat' first | exact trivial | exact rfl | exact q1 | apply And.intro)) (by (repeat' first | exact trivial | exact rfl | apply And.intro))⟩
  · obtain rfl : i = s.size := by omega
    have ht := Hand.trim_size s
    have hfew := pieces_few (Hand.trimS s) s.size ht
    refine ⟨⟨⟨Int.le_refl _, by omega⟩, ite2_decide (fun hb => ?_) (fun hb => ?_)⟩, ?_⟩
    · have q1 : s.extract 1 s.size = Hand.trimS s := by
        unfold Hand.trimS
        rw [if_pos (by rw [head_47 (by omega), (bt_47 s 0 (by omega)).1 hb])]
      exact ⟨⟨by omega, by omega, by omega⟩, (), [], [], trivial, trivial, into_mk (by kernel_rfl) (by (repeat' first | exact trivial | exact rfl | exact q1 | apply And.intro)) (by (repeat' first | exact trivial | exact rfl | apply And.intro))⟩
    · have q1 : s = Hand.trimS s := by
        unfold Hand.trimS
        rw [if_neg (fun e => hb ((bt_47 s 0 (by omega)).2 (by rw [head_47 (by omega)] at e; exact Option.some.inj e)))]
      exact ⟨(), [], [], trivial, trivial, into_mk (by kernel_rfl) (by (repeat' first | exact trivial | exact rfl | exact q1 | apply And.intro)) (by (repeat' first | exact trivial | exact rfl | apply And.intro))⟩
    · intro _ _
      refine ⟨by omega, into_mk (by kernel_rfl) (by (repeat' first | exact trivial | exact rfl | apply And.intro)) (by (repeat' first | exact trivial | exact rfl | apply And.intro)), fun _ _ => ite2_decide (fun h0 => bad1 _ ?_) (fun h0 => ⟨⟨((0 : Nat), (0 : Nat)), [], [0], ⟨Nat.zero_le _, Nat.zero_le _, [], rfl⟩, trivial, into_mk (by kernel_rfl) (by (repeat' first | exact trivial | exact rfl | apply And.intro)) (by (repeat' first | exact trivial | exact rfl | apply And.intro))⟩, ?_⟩)⟩
      · unfold refP; rw [if_neg hns, if_pos (List.eq_nil_of_length_eq_zero (by omega))]
      have hne : ¬ pieces (Hand.trimS s) = [] := fun e => h0 (by rw [e]; rfl)
      have hno : Hand.partsL (pieces (Hand.trimS s)) = none → refP s = ([], false, false) := fun e => by unfold refP; rw [if_neg hns, if_neg hne, e]
      rintro ⟨j, n⟩ hz
      dsimp only at hz ⊢
      refine ite2_decide (fun hj => ?_) (fun hj => ?_)
      · have hj1 : j < (pieces (Hand.trimS s)).length := by omega
        have er := rd_getB hj1
        have hps := pieces_size (Hand.trimS s) _ (List.getElem_mem hj1)
        have hsz : (rd (pieces (Hand.trimS s)) j (ByteArray.mk #[])).size ≤ 1000000 := by rw [er]; omega
        have hsl := rsig_len (rd (pieces (Hand.trimS s)) j (ByteArray.mk #[]))
        refine ⟨⟨by omega, hj⟩, hj1, trivial, hj1, hsz, into_mk (by kernel_rfl) (by (repeat' first | exact trivial | exact rfl | apply And.intro)) (by (repeat' first | exact trivial | exact rfl | apply And.intro)), fun _ _ => ite2_mk (fun ho => ?_) (fun ho => bad2 _ _ (hno (hz.stop hj1 (.inl (by rw [← er]; exact ho)))))⟩
        refine ⟨⟨by omega, hj⟩, hj1, trivial, hj1, ite2_decide (fun hp0 => bad2 _ _ (hno (hz.stop hj1 (.inr (by rw [← er]; omega))))) (fun hp0 => ⟨⟨(0 : Nat), [], [0, 1], Nat.zero_le _, trivial, into_mk (by kernel_rfl) (by (repeat' first | exact trivial | exact rfl | exact (Int.add_zero _).symm | apply And.intro)) (by (repeat' first | exact trivial | exact rfl | apply And.intro))⟩, ?_⟩)⟩
        have hnx : patTo (pieces (Hand.trimS s)) (j + 1) (n + (rsig (rd (pieces (Hand.trimS s)) j (ByteArray.mk #[]))).countP (·.1)) := by
          have := hz.next hj1 (by rw [← er]; exact ho) (by rw [← er]; omega) (by rw [← er]; exact hsz)
          rw [er]; exact this
        have hcn : ∀ i, cntTo (rsig (rd (pieces (Hand.trimS s)) j (ByteArray.mk #[]))) i ≤ (rsig (rd (pieces (Hand.trimS s)) j (ByteArray.mk #[]))).length := fun i => by
          unfold cntTo
          exact Nat.le_trans List.countP_le_length (by rw [List.length_take]; omega)
        have hnb : n ≤ 1000000 * (pieces (Hand.trimS s)).length := by
          have := hz.2.1
          omega
        intro k hk
        have hk : k ≤ (rsig (rd (pieces (Hand.trimS s)) j (ByteArray.mk #[]))).length := hk
        refine ite2_decide (fun hkl => ?_) (fun hkl => ?_)
        · have hk1 : k < (rsig (rd (pieces (Hand.trimS s)) j (ByteArray.mk #[]))).length := by omega
          have hcs := cnt_succ hk1
          have me : (rsig (rd (pieces (Hand.trimS s)) j (ByteArray.mk #[]))).length - (k + 1) < (rsig (rd (pieces (Hand.trimS s)) j (ByteArray.mk #[]))).length - k := by omega
          have hck := hcn k
          refine ⟨⟨by omega, hkl⟩, hk1, trivial, hk1, ite2_mk (fun hm => ?_) (fun hm => ?_)⟩
          · have q1 : (n : Int) + (cntTo (rsig (rd (pieces (Hand.trimS s)) j (ByteArray.mk #[]))) k : Nat) + 1 = n + (cntTo (rsig (rd (pieces (Hand.trimS s)) j (ByteArray.mk #[]))) (k + 1) : Nat) := by
              rw [if_pos (show (rd (rsig (rd (pieces (Hand.trimS s)) j (ByteArray.mk #[]))) k ((false, false, 0) : Sn)).1 = true from hm)] at hcs
              omega
            exact ⟨by unfold i64ok; omega, by unfold i64ok; omega, (k + 1 : Nat), [], [0, 1], hk1, me, into_mk (by kernel_rfl) (by (repeat' first | exact trivial | exact rfl | exact q1 | apply And.intro)) (by (repeat' first | exact trivial | exact rfl | apply And.intro))⟩
          · have q1 : (n : Int) + (cntTo (rsig (rd (pieces (Hand.trimS s)) j (ByteArray.mk #[]))) k : Nat) = n + (cntTo (rsig (rd (pieces (Hand.trimS s)) j (ByteArray.mk #[]))) (k + 1) : Nat) := by
              rw [if_neg (show ¬ (rd (rsig (rd (pieces (Hand.trimS s)) j (ByteArray.mk #[]))) k ((false, false, 0) : Sn)).1 = true from by rw [show (rd (rsig (rd (pieces (Hand.trimS s)) j (ByteArray.mk #[]))) k ((false, false, 0) : Sn)).1 = false from hm]; simp)] at hcs
              omega
            exact ⟨by unfold i64ok; omega, (k + 1 : Nat), [], [0, 1], hk1, me, into_mk (by kernel_rfl) (by (repeat' first | exact trivial | exact rfl | exact q1 | apply And.intro)) (by (repeat' first | exact trivial | exact rfl | apply And.intro))⟩
        · obtain rfl : k = (rsig (rd (pieces (Hand.trimS s)) j (ByteArray.mk #[]))).length := by omega
          rw [← cnt_all] at hnx
          have q1 : (n : Int) + (cntTo (rsig (rd (pieces (Hand.trimS s)) j (ByteArray.mk #[]))) (rsig (rd (pieces (Hand.trimS s)) j (ByteArray.mk #[]))).length : Nat) = ((n + cntTo (rsig (rd (pieces (Hand.trimS s)) j (ByteArray.mk #[]))) (rsig (rd (pieces (Hand.trimS s)) j (ByteArray.mk #[]))).length : Nat) : Int) := by omega
          exact ⟨by unfold i64ok; omega, (j + 1, _), [], [0], hnx, (show (pieces (Hand.trimS s)).length - (j + 1) < (pieces (Hand.trimS s)).length - j by omega), into_mk (by kernel_rfl) (by (repeat' first | exact trivial | exact rfl | exact q1 | apply And.intro)) (by (repeat' first | exact trivial | exact rfl | apply And.intro))⟩
      · obtain ⟨hjl, _, pts, hp⟩ := hz
        rw [List.take_of_length_le (by omega)] at hp
        have hr : refP s = (pieces (Hand.trimS s), anyTo s s.size, decide (n ≤ 8)) := by unfold refP; rw [if_neg hns, if_neg hne, hp]
        refine ite2_decide (fun h8 => ?_) (fun h8 => ?_)
        · have q1 : (pieces (Hand.trimS s)).length = (refP s).1.length := by rw [hr]
          have q2 : anyTo s s.size = (refP s).2.1 := by rw [hr]
          have q3 : true = (refP s).2.2 := by rw [hr]; exact (decide_eq_true (by omega)).symm
          have q4 : pieces (Hand.trimS s) = (refP s).1 := by rw [hr]
          exact ⟨(), [], [0], trivial, by (repeat' first | exact trivial | exact rfl | exact q1 | exact q2 | exact q3 | exact q4 | apply And.intro)⟩
        · have q1 : (pieces (Hand.trimS s)).length = (refP s).1.length := by rw [hr]
          have q2 : anyTo s s.size = (refP s).2.1 := by rw [hr]
          have q3 : false = (refP s).2.2 := by rw [hr]; exact (decide_eq_false (by omega)).symm
          have q4 : pieces (Hand.trimS s) = (refP s).1 := by rw [hr]
          exact ⟨(), [], [0], trivial, by (repeat' first | exact trivial | exact rfl | exact q1 | exact q2 | exact q3 | exact q4 | apply And.intro)⟩
end Go.Proofs.YtoidibkcdkdneaaGreatDoor.T
end
section
namespace Go.Proofs.YtoidibkcdkdneaaGreatDoor.T
open Go.Proofs.YtoidibkcdkdneaaGreatDoor.E Go.Proofs.YtoidibkcdkdneaaGreatDoor.MStr Go.Proofs.YtoidibkcdkdneaaGreatDoor.R
set_option maxRecDepth 100000
set_option linter.unusedVariables false
theorem mt_congr {n of : Nat} {M M' : Nat → Bool} {O O' : Nat → Nat → Bool} (hM : ∀ i, i < n → M i = M' i) (hO : ∀ i k, i < n → k < of → O i k = O' i k) : ∀ i k, MPat.mt n of M O i k = MPat.mt n of M' O' i k := by
  have key : ∀ d i k, (n - i) + (of - k) ≤ d → MPat.mt n of M O i k = MPat.mt n of M' O' i k := by
    intro d
    induction d with
    | zero =>
      intro i k h
      rw [MPat.mt_end (by omega), MPat.mt_end (by omega)]
    | succ d ih =>
      intro i k h
      rcases Nat.lt_or_ge i n with hi | hi
      · cases hm : M i with
        | true =>
          rw [MPat.mt_many hi hm, MPat.mt_many hi ((hM i hi).symm.trans hm), ih (i + 1) k (by omega)]
          rcases Nat.lt_or_ge k of with hk | hk
          · rw [if_pos hk, if_pos hk, ih i (k + 1) (by omega)]
          · rw [if_neg (by omega), if_neg (by omega)]
        | false =>
          rw [MPat.mt_one hi hm, MPat.mt_one hi ((hM i hi).symm.trans hm)]
          rcases Nat.lt_or_ge k of with hk | hk
          · rw [if_pos hk, if_pos hk, hO i k hi hk, ih (i + 1) (k + 1) (by omega)]
          · rw [if_neg (by omega), if_neg (by omega)]
      · rw [MPat.mt_end (by omega), MPat.mt_end (by omega)]
  exact fun i k => key _ i k (Nat.le_refl _)
theorem bt_same (s : ByteArray) (k : Nat) (h : k < s.size) : E.bt s k = Go.Proofs.YtoidibkcdkdneaaGreatDoorW.PrintWords.bt s (k : Int) := by
  unfold E.bt Go.Proofs.YtoidibkcdkdneaaGreatDoorW.PrintWords.bt
  rw [dif_pos (show ((k : Int)).toNat < s.size by omega)]
  simp only [Int.toNat_natCast]
  have e : s.data.getD k 0 = s[k] := by
    rw [Array.getD, dif_pos (show k < s.data.size from h)]
    rfl
  rw [e]
theorem getD_sn (l : List Hand.Sg) (i : Nat) : (l.map toSn).getD i z0 = toSn (Hand.sgAt l i) := by
  unfold Hand.sgAt
  rw [List.getD_eq_getElem?_getD, List.getD_eq_getElem?_getD, List.getElem?_map]
  cases l[i]? <;> rfl
theorem fit_name (l : List Hand.Sg) (s : ByteArray) : fitA (l.map toSn) s 0 0 = Hand.nameM l s := by
  unfold fitA Hand.nameM
  rw [List.length_map]
  refine mt_congr (fun i _ => ?_) (fun i k _ hk => ?_) 0 0
  · unfold snMany Hand.sgMany; rw [getD_sn]; rfl
  · unfold snOne Hand.sgOne; rw [getD_sn, bt_same s k hk]; rfl
theorem any_idxL (l : List UInt8) : l.any (· == 47) = decide (0 ≤ Lib.indexByte l 47) := by
  induction l with
  | nil => rfl
  | cons c t ih =>
    have hg := Lib.indexByte_ge t 47
    rw [List.any_cons, ih, Lib.indexByte]
    by_cases hc : c = 47
    · subst hc; simp
    · have e : (c == 47) = false := beq_eq_false_iff_ne.2 hc
      rw [e, Bool.false_or, if_neg (by simp)]
      by_cases h1 : Lib.indexByte t 47 = -1
      · rw [h1]; simp
      · rw [if_neg (by simpa using h1)]
        exact decide_eq_decide.2 (by omega)
theorem any_idx (s : ByteArray) : anyTo s s.size = decide (0 ≤ Lib.indexByte s.data.toList 47) := by
  unfold anyTo
  rw [List.take_of_length_le (by simp), any_idxL]
theorem parts_map : ∀ (l : List ByteArray) r, Hand.partsL l = some r → r.1 = l.map (fun p => (⟨p.toList == [42, 42], (Hand.signsOut p).1⟩ : Hand.Pt)) ∧ ∀ p ∈ l, (Hand.signsOut p).2 = true
  | [], r, h => by
    rw [Hand.partsL] at h
    cases h
    exact ⟨rfl, fun p hp => by simp at hp⟩
  | p :: t, r, h => by
    rw [Hand.partsL] at h
    split at h
    · rename_i hp
      rw [Option.map_eq_some_iff] at h
      obtain ⟨q, hq, rfl⟩ := h
      obtain ⟨h1, h2⟩ := parts_map t q hq
      refine ⟨by rw [List.map_cons, ← h1], fun x hx => ?_⟩
      rcases List.mem_cons.1 hx with rfl | hx
      · exact hp
      · exact h2 x hx
    · cases h
theorem sig_out {p : ByteArray} (h : (Hand.signsOut p).2 = true) : rsig p = (Hand.signsOut p).1.map toSn := by
  unfold Hand.signsOut at h ⊢
  unfold rsig rsigL
  cases hs : Hand.signsL p.data.toList with
  | none => rw [hs] at h; cases h
  | some l => rfl
theorem parts_same (l names : List ByteArray) (r : List Hand.Pt × Nat) (h : Hand.partsL l = some r) : mchA l names 0 0 = Hand.partsM r.1 names := by
  obtain ⟨h1, h2⟩ := parts_map l r h
  unfold mchA Hand.partsM
  rw [h1, List.length_map]
  have at_ : ∀ i (hi : i < l.length), Hand.ptAt (l.map (fun p => (⟨p.toList == [42, 42], (Hand.signsOut p).1⟩ : Hand.Pt))) i = ⟨l[i].toList == [42, 42], (Hand.signsOut l[i]).1⟩ := fun i hi => by
    unfold Hand.ptAt
    rw [List.getD_eq_getElem?_getD, List.getElem?_map, List.getElem?_eq_getElem hi]
    rfl
  have pc : ∀ i (hi : i < l.length), pcAt l i = l[i] := fun i hi => by
    unfold pcAt
    rw [List.getD_eq_getElem?_getD, List.getElem?_eq_getElem hi]
    rfl
  refine mt_congr (fun i hi => ?_) (fun i k hi hk => ?_) 0 0
  · unfold Hand.ptMany isDeep
    rw [at_ i hi, pc i hi]
  · unfold Hand.ptOne pcOne
    rw [at_ i hi, pc i hi, sig_out (h2 _ (List.getElem_mem hi)), fit_name]
    rfl
/-- The reference's pattern answers as path.read. -/
theorem read_same (s : ByteArray) : (refP s).2.2 = (Hand.readB s).2.2 ∧ ((refP s).2.2 = true → (refP s).2.1 = (Hand.readB s).2.1 ∧ ∀ names, mchA (refP s).1 names 0 0 = Hand.partsM (Hand.readB s).1 names) := by
  unfold refP Hand.readB
  split
  · exact ⟨rfl, fun h => by cases h⟩
  · split
    · exact ⟨rfl, fun h => by cases h⟩
    · cases h : Hand.partsL (pieces (Hand.trimS s)) with
      | none => exact ⟨rfl, fun h => by cases h⟩
      | some r => exact ⟨rfl, fun _ => ⟨any_idx s, fun names => parts_same _ _ _ h⟩⟩
theorem refP_small (s : ByteArray) (hs : s.size ≤ 1000000) : (refP s).1.length ≤ 1000000 ∧ ∀ x ∈ (refP s).1, x.size ≤ 1000000 := by
  unfold refP
  split
  · exact ⟨Nat.zero_le _, fun x hx => by cases hx⟩
  · rename_i h
    split
    · exact ⟨Nat.zero_le _, fun x hx => by cases hx⟩
    · split
      · exact ⟨Nat.zero_le _, fun x hx => by cases hx⟩
      · have ht := Hand.trim_size s
        exact ⟨by have := pieces_few (Hand.trimS s) s.size ht; show (pieces (Hand.trimS s)).length ≤ 1000000; omega, fun x hx => by have := pieces_size (Hand.trimS s) x hx; omega⟩
theorem splitB_small (p : ByteArray) (hp : p.size ≤ 999999) (m : Int) : (Hand.splitB p m).1.length ≤ 1000000 ∧ ∀ x ∈ (Hand.splitB p m).1, x.size ≤ 1000000 := by
  unfold Hand.splitB
  split
  · exact ⟨Nat.zero_le _, fun x hx => by cases hx⟩
  · split
    · exact ⟨by have := pieces_few p _ hp; show (pieces p).length ≤ 1000000; omega, fun x hx => by have := pieces_size p x hx; omega⟩
    · exact ⟨Nat.zero_le _, fun x hx => by cases hx⟩
def ct_rmatch (s p : ByteArray) : Ct KK := { need := s.size ≤ 999999 ∧ p.size ≤ 999999, pre := [], args := [strv s, strv p], Y := Unit, ok := fun _ => True, ret := fun _ => .tup [.c (.bool (Hand.matchB s p).1), .c (.int .i64 (Hand.matchB s p).2)], post := fun _ => [] }
def tabRm : Tab Tryz.prog KK := ⟨mixed, fun f args H => match f, args with
  | 40, [.one (.c (.str s))] => some (ct_rpat s, [], [])
  | 41, [.one (.c (.str s)), .one (.c (.int _ n))] => some (ct_rsplit s n, [], [])
  | 42, [.one (.c (.slc a _ _ _)), .one (.c (.slc b o _ _))] => match at_ H a, at_ H b with
    | .arr .str l, .arr .str all => some (ct_rmatches l (all.drop o) all o, [], [a, b])
    | _, _ => none
  | _, _ => none, fun f args H ct ks τ h => by
    split at h
    · cases h; exact rpat_ok _
    · cases h; exact rsplit_ok _ _
    · split at h
      · cases h; exact rmatches_ok _ _ _ _
      · cases h
    · cases h⟩
theorem vc_rmatch (s p : ByteArray) : evFn tabRm ann0 Tryz.f13 (ct_rmatch s p) = ( s.size ≤ 1000000 ∧ Into (K := KK) 0 [] [] [VV.one (V1.c (C.str s))] [] [VV.one (V1.c (C.str s))] [] ∧ ∀ (y : Unit), True → ite2 (refP s).snd.snd ((p.size ≤ 1000000 ∧ i64ok (64 : Int)) ∧ Into (K := KK)
 0 [] [] [VV.one (V1.c (C.str p)), i64 (64 : Int)] [Atom.arr Kd.str (refP s).fst] [VV.one (V1.c (C.str p)), i64 (64 : Int)] [] ∧ ∀ (y : Unit), True → ite2 (decide ((Hand.splitB p (64 : Int)).snd = (0 :
 Int))) (ite2 (decide ((↑(Hand.splitB p (64 : Int)).fst.length : Int) = (0 : Int))) (EndsAs 0 (ct_rmatch s p) (VV.tup [V1.c (C.bool false), V1.c (C.int .i64 (0 : Int))]) [Atom.arr Kd.str (refP s).fst, Atom.arr
 Kd.str (Hand.splitB p (64 : Int)).fst]) (ite2 (refP s).snd.fst ((((refP s).fst.length ≤ 1000000 ∧ (Hand.splitB p (64 : Int)).fst.length ≤ 1000000) ∧ (∀ (x : ByteArray), List.Mem x (refP s).fst → x.size
 ≤ 1000000) ∧ (∀ (x : ByteArray), List.Mem x (Hand.splitB p (64 : Int)).fst → x.size ≤ 1000000) ∧ (Hand.splitB p (64 : Int)).fst = (Hand.splitB p (64 : Int)).fst ∧ 0 ≤ (Hand.splitB p (64 : Int)).fst.length)
 ∧ Into (K := KK) 0 [] [0, 1] [VV.one (V1.c (C.slc 0 0 (refP s).fst.length none)), VV.one (V1.c (C.slc 1 0 (Hand.splitB p (64 : Int)).fst.length none))] [Atom.arr Kd.str (refP s).fst, Atom.arr Kd.str (Hand.splitB
 p (64 : Int)).fst] [VV.one (V1.c (C.slc 0 0 (refP s).fst.length none)), VV.one (V1.c (C.slc 1 0 (Hand.splitB p (64 : Int)).fst.length none))] [Atom.ro Kd.str (refP s).fst, Atom.ro Kd.str (Hand.splitB p
 (64 : Int)).fst] ∧ ∀ (y : Unit), True → EndsAs 0 (ct_rmatch s p) (VV.tup [V1.c (C.bool (mchA (refP s).fst (Hand.splitB p (64 : Int)).fst 0 0)), V1.c (C.int .i64 (0 : Int))]) [Atom.arr Kd.str (refP s).fst,
 Atom.arr Kd.str (Hand.splitB p (64 : Int)).fst]) (i64ok ((↑(Hand.splitB p (64 : Int)).fst.length : Int) - (1 : Int)) ∧ ((0 : Int) ≤ (↑(Hand.splitB p (64 : Int)).fst.length : Int) - (1 : Int) ∧ (↑(Hand.splitB
 p (64 : Int)).fst.length : Int) - (1 : Int) ≤ (↑(Hand.splitB p (64 : Int)).fst.length : Int)) ∧ (0 : Int) + (↑(Hand.splitB p (64 : Int)).fst.length : Int) ≤ (↑(Hand.splitB p (64 : Int)).fst.length : Int)
 ∧ (((refP s).fst.length ≤ 1000000 ∧ (List.drop (0 + ((↑(Hand.splitB p (64 : Int)).fst.length : Int) - (1 : Int)).toNat) (Hand.splitB p (64 : Int)).fst).length ≤ 1000000) ∧ (∀ (x : ByteArray), List.Mem
 x (refP s).fst → x.size ≤ 1000000) ∧ (∀ (x : ByteArray), List.Mem x (List.drop (0 + ((↑(Hand.splitB p (64 : Int)).fst.length : Int) - (1 : Int)).toNat) (Hand.splitB p (64 : Int)).fst) → x.size ≤ 1000000)
 ∧ List.drop (0 + ((↑(Hand.splitB p (64 : Int)).fst.length : Int) - (1 : Int)).toNat) (Hand.splitB p (64 : Int)).fst = List.drop (0 + ((↑(Hand.splitB p (64 : Int)).fst.length : Int) - (1 : Int)).toNat)
 (Hand.splitB p (64 : Int)).fst ∧ 0 + ((↑(Hand.splitB p (64 : Int)).fst.length : Int) - (1 : Int)).toNat ≤ (Hand.splitB p (64 : Int)).fst.length) ∧ Into (K := KK) 0 [] [0, 1] [VV.one (V1.c (C.slc 0 0 (refP
 s).fst.length none)), VV.one (V1.c (C.slc 1 (0 + ((↑(Hand.splitB p (64 : Int)).fst.length : Int) - (1 : Int)).toNat) ((↑(Hand.splitB p (64 : Int)).fst.length : Int) - ((↑(Hand.splitB p (64 : Int)).fst.length
 : Int) - (1 : Int))).toNat none))] [Atom.arr Kd.str (refP s).fst, Atom.arr Kd.str (Hand.splitB p (64 : Int)).fst] [VV.one (V1.c (C.slc 0 0 (refP s).fst.length none)), VV.one (V1.c (C.slc 1 (0 + ((↑(Hand.splitB
 p (64 : Int)).fst.length : Int) - (1 : Int)).toNat) (List.drop (0 + ((↑(Hand.splitB p (64 : Int)).fst.length : Int) - (1 : Int)).toNat) (Hand.splitB p (64 : Int)).fst).length none))] [Atom.ro Kd.str (refP
 s).fst, Atom.ro Kd.str (Hand.splitB p (64 : Int)).fst] ∧ ∀ (y : Unit), True → EndsAs 0 (ct_rmatch s p) (VV.tup [V1.c (C.bool (mchA (refP s).fst (List.drop (0 + ((↑(Hand.splitB p (64 : Int)).fst.length
 : Int) - (1 : Int)).toNat) (Hand.splitB p (64 : Int)).fst) 0 0)), V1.c (C.int .i64 (0 : Int))]) [Atom.arr Kd.str (refP s).fst, Atom.arr Kd.str (Hand.splitB p (64 : Int)).fst]))) (EndsAs 0 (ct_rmatch s
 p) (VV.tup [V1.c (C.bool false), V1.c (C.int .i64 (Hand.splitB p (64 : Int)).snd)]) [Atom.arr Kd.str (refP s).fst, Atom.arr Kd.str (Hand.splitB p (64 : Int)).fst])) (EndsAs 0 (ct_rmatch s p) (VV.tup [V1.c
 (C.bool false), V1.c (C.int .i64 (32 : Int))]) [Atom.arr Kd.str (refP s).fst])) := by kernel_rfl
theorem rmatch_ok (s p : ByteArray) : CtOk Tryz.prog 13 (ct_rmatch s p) := CtOk_of KK_ok tabRm ann0 (fn := Tryz.f13) rfl (fun _ _ => rfl) fun hn => by
  obtain ⟨hs, hp⟩ := hn
  obtain ⟨r1, r2⟩ := read_same s
  obtain ⟨w1, w2⟩ := refP_small s (by omega)
  obtain ⟨u1, u2⟩ := splitB_small p hp 64
  rw [vc_rmatch]
  have m64 : i64ok 64 := by unfold i64ok; omega
  refine ⟨by omega, into_mk (by kernel_rfl) (by (repeat' first | exact trivial | exact rfl | apply And.intro)) (by (repeat' first | exact trivial | exact rfl | apply And.intro)), fun _ _ => ite2_mk (fun hg => ?_) (fun hg => ?_)⟩
  · have hr : (Hand.readB s).2.2 = true := by rw [← r1]; exact hg
    obtain ⟨r3, r4⟩ := r2 hg
    have ends : ∀ (v : Bool) (e : Int) (a b : Atom KK), Hand.matchB s p = (v, e) → EndsAs 0 (ct_rmatch s p) (VV.tup [V1.c (C.bool v), V1.c (C.int .i64 e)]) [a, b] := fun v e a b h => by
      have q1 : v = (Hand.matchB s p).1 := by rw [h]
      have q2 : e = (Hand.matchB s p).2 := by rw [h]
      exact ⟨(), [], [], trivial, by (repeat' first | exact trivial | exact rfl | exact q1 | exact q2 | apply And.intro)⟩
    refine ⟨⟨by omega, m64⟩, into_mk (by kernel_rfl) (by (repeat' first | exact trivial | exact rfl | apply And.intro)) (by (repeat' first | exact trivial | exact rfl | apply And.intro)), fun _ _ => ite2_decide (fun he => ite2_decide (fun h0 => ends _ _ _ _ ?_) (fun h0 => ?_)) (fun he => ends _ _ _ _ ?_)⟩
    · unfold Hand.matchB
      rw [if_neg (by rw [hr]; simp), if_neg (by simpa using he), if_pos (List.eq_nil_of_length_eq_zero (by omega))]
    · have hne : ¬ (Hand.splitB p 64).1 = [] := fun e => h0 (by rw [e]; rfl)
      refine ite2_mk (fun ha => ?_) (fun ha => ?_)
      · refine ⟨⟨⟨w1, u1⟩, w2, u2, rfl, Nat.zero_le _⟩, into_mk (by kernel_rfl) (by (repeat' first | exact trivial | exact rfl | apply And.intro)) (by (repeat' first | exact trivial | exact rfl | apply And.intro)), fun _ _ => ends _ _ _ _ ?_⟩
        unfold Hand.matchB
        rw [if_neg (by rw [hr]; simp), if_neg (by simpa using he), if_neg hne, if_neg (by rw [← r3, ha]; simp), r4]
      · have e1 : 0 + (((Hand.splitB p 64).1.length : Int) - 1).toNat = (Hand.splitB p 64).1.length - 1 := by omega
        have q1 : (((Hand.splitB p 64).1.length : Int) - (((Hand.splitB p 64).1.length : Int) - 1)).toNat = (List.drop (0 + (((Hand.splitB p 64).1.length : Int) - 1).toNat) (Hand.splitB p 64).1).length := by rw [List.length_drop]; omega
        refine ⟨by unfold i64ok; omega, ⟨by omega, by omega⟩, by omega, ⟨⟨w1, by rw [List.length_drop]; omega⟩, w2, fun x hx => u2 x (List.mem_of_mem_drop hx), rfl, by omega⟩, into_mk (by kernel_rfl) (by (repeat' first | exact trivial | exact rfl | exact q1 | exact q1.symm | apply And.intro)) (by (repeat' first | exact trivial | exact rfl | apply And.intro)), fun _ _ => ends _ _ _ _ ?_⟩
        unfold Hand.matchB
        rw [if_neg (by rw [hr]; simp), if_neg (by simpa using he), if_neg hne, if_pos (by rw [← r3, ha]), r4, e1]
    · unfold Hand.matchB
      rw [if_neg (by rw [hr]; simp), if_pos he]
  · have hr : (Hand.readB s).2.2 = false := by rw [← r1]; exact hg
    have h : Hand.matchB s p = (false, 32) := by unfold Hand.matchB; rw [if_pos hr]
    have q1 : false = (Hand.matchB s p).1 := by rw [h]
    have q2 : (32 : Int) = (Hand.matchB s p).2 := by rw [h]
    exact ⟨(), [], [], trivial, by (repeat' first | exact trivial | exact rfl | exact q1 | exact q2 | apply And.intro)⟩
end Go.Proofs.YtoidibkcdkdneaaGreatDoor.T
end
section
namespace Go.Proofs.YtoidibkcdkdneaaGreatDoor.T
open Go.Proofs.YtoidibkcdkdneaaGreatDoor.E Go.Proofs.YtoidibkcdkdneaaGreatDoor.MStr Go.Proofs.YtoidibkcdkdneaaGreatDoor.R
set_option maxRecDepth 100000
set_option linter.unusedVariables false
def tab1 : Tab Tryz.prog KK := ⟨mixed, fun f args H => match f, args with
  | 21, [.one (.c (.str s)), .one (.c (.str p))] => some (ct_match s p, [], [])
  | 47, [.one (.c (.str s)), .one (.c (.str p))] => some (ct_cutp s p, [], [])
  | _, _ => none, fun f args H ct ks τ h => by
    split at h
    · cases h; exact match_ok _ _
    · cases h; exact cutp_ok _ _
    · cases h⟩
def tab1T (t : Tb) : Tab Tryz.prog KK := ⟨base t, tab1.pick, tab1.ok⟩
def ct_none : Ct KK := { need := True, pre := [], args := [], Y := Unit, ok := fun _ => True, ret := fun _ => .c (.ptr 0 0 0), post := fun _ => [.cells 64 [.nils]] }
/-- A rule that a line's function has taken in. -/
def ruleI (w : Int) (q : ByteArray) : BI KK := .box 57 [.int .i64 w, .str q]
def ct_line (w : Int) (q : ByteArray) (φ : Bag KK) : Ct KK := { need := True, pre := [.bag φ], args := [.agg [.int .i64 w, .str q]], Y := Nat, ok := fun b => φ b = none, ret := fun b => .agg [.int .i64 w, .str q, .fn 54 [(57, b)]], post := fun b => [.bag (bput φ b (ruleI w q))] }
def ann_line : Ann KK := { loop := fun _ _ _ => none, cut := fun _ _ _ => none, frz := fun | 1 => [(1, 57)] | _ => [] }
def ct_speak (φ : Bag KK) (b : Nat) (p : ByteArray) : Ct KK := { need := (∃ r : Rl, φ b = some (ruleI r.1 r.2)) ∧ p.size ≤ 1000000000, pre := [.bag φ], args := [strv p, .c (.rp 57 0 b 0 0)], Y := Rl, ok := fun r => φ b = some (ruleI r.1 r.2), ret := fun r => boolv (sp r p), post := fun _ => [.bag φ] }
def readR (s : ByteArray) : Int × ByteArray × Bool := match R.readL s with | some r => (r.1, r.2, true) | none => (0, ⟨#[]⟩, false)
def ct_read (s : ByteArray) (t : Tb) (φ : Bag KK) : Ct KK := { need := HasT t φ, pre := [.bag φ], args := [strv s], Y := Unit, ok := fun _ => True, ret := fun _ => .tup [.agg [.int .i64 (readR s).1, .str (readR s).2.1], .c (.bool (readR s).2.2)], post := fun _ => [.bag φ] }
def inv_read (s : ByteArray) (t : Tb) (φ : Bag KK) : Inv KK := { X := Nat, fr := fun i => [strv s, .any, .c (.ptr 1 0 0), boolv false, .any, .any, .any, .any, .c (headsC t), i64 3, i64 i] ++ anys 17, H := fun _ => [.bag φ, .cells 57 [.int .i64 0, .str ⟨#[]⟩]], ok := fun i => i ≤ 3 ∧ ∀ j : Nat, j < i → Lib.hasPrefix s.data.toList (R.hd (j + 1)) = false, meas := fun i : Nat => 3 - i }
def ann_read (s : ByteArray) (t : Tb) (φ : Bag KK) : Ann KK := { loop := fun _ _ _ => some (inv_read s t φ), cut := fun _ _ _ => none, keep := some 11 }
theorem vc_none (u : Unit) : evFn tab1 ann0 Tryz.f5 ct_none = ( EndsAs 0 ct_none (VV.one (V1.c (C.ptr 0 0 0))) [Atom.cells 64 [C.nils]]) := by kernel_rfl
theorem vc_line (w : Int) (q : ByteArray) (φ : Bag KK) : evFn tab1 ann_line Tryz.f22 (ct_line w q φ) = (∀ (b : Nat), φ b = none → ∃ (x : KK.α Kd.rule), cellsAt (bput φ b (BI.box 57 [C.int .i64 w, C.str q])) b = some [C.int .i64 x.fst, C.str x.snd] ∧ EndsAs 1 (ct_line w q φ) (VV.one (V1.agg [C.int .i64 x.fst,
 C.str x.snd, C.fn 54 [(57, b)]])) [Atom.bag (bput φ b (BI.box 57 [C.int .i64 w, C.str q])), Atom.gone, Atom.cells 74 [C.int .i64 x.fst, C.str x.snd, C.fn 54 [(57, b)]]]) := by kernel_rfl
theorem vc_speak (φ : Bag KK) (b : Nat) (p : ByteArray) : evFn tab1 ann0 Tryz.f54 (ct_speak φ b p) = ( ∃ (s : ByteArray), boxAt φ b 1 = some (C.str s) ∧ p.size ≤ 1000000000 ∧ Into (K := KK) 0 [] [] [VV.one (V1.c (C.str s)), VV.one (V1.c (C.str p))] [Atom.bag φ] [VV.one (V1.c (C.str s)), VV.one (V1.c (C.str
 p))] [] ∧ ∀ (y : Unit), True → ite2 (Hand.matchB s p).fst (ite2 (decide ((Hand.matchB s p).snd = (0 : Int))) (EndsAs 1 (ct_speak φ b p) (boolv true) [Atom.bag φ]) (EndsAs 1 (ct_speak φ b p) (boolv false)
 [Atom.bag φ])) (EndsAs 1 (ct_speak φ b p) (boolv false) [Atom.bag φ])) := by kernel_rfl
theorem vc_read (s : ByteArray) (t : Tb) (φ : Bag KK) : evFn (tab1T t) (ann_read s t φ) Tryz.f20 (ct_read s t φ) = ( boxAt φ 0 0 = some (C.ls 83 t.hb t.ho 3 3) ∧ Enter 1 (inv_read s t φ) (fun (x : Nat) => True) ([VV.one (V1.c (C.str s)), VV.any, VV.one (V1.c (C.ptr 1 0 0)), boolv false, VV.any, VV.any, VV.any, VV.any,
 VV.one (V1.c (C.ls 83 t.hb t.ho 3 3)), i64 (3 : Int), i64 (0 : Int)] ++ anys 17) [Atom.bag φ, Atom.cells 57 [C.int .i64 (0 : Int), C.str (ByteArray.mk (#[]))]] ∧ ∀ (z : Nat), (z ≤ 3 ∧ ∀ (j : Nat), j <
 z → Lib.hasPrefix s.data.toList (hd ((↑j : Int) + (1 : Int))) = false) → ite2 (decide ((↑z : Int) < (3 : Int))) (((0 : Int) ≤ (↑z : Int) ∧ (↑z : Int) < (3 : Int)) ∧ ∃ (xs : List (KK.α Kd.hd)), ∃ (ob :
 Obj), HasV φ t.hb t.ho Kd.hd xs ob ∧ (↑z : Int).toNat < xs.length ∧ True ∧ Into (K := KK) 0 [] [] [VV.one (V1.c (C.str s)), VV.one (V1.c (C.str (rd xs (↑z : Int).toNat (KK.dflt Kd.hd)).snd))] [Atom.bag
 φ, Atom.cells 57 [C.int .i64 (0 : Int), C.str (ByteArray.mk (#[]))], Atom.cells 83 [C.int .i64 (rd xs (↑z : Int).toNat (KK.dflt Kd.hd)).fst, C.str (rd xs (↑z : Int).toNat (KK.dflt Kd.hd)).snd]] [VV.one
 (V1.c (C.str s)), VV.one (V1.c (C.str (rd xs (↑z : Int).toNat (KK.dflt Kd.hd)).snd))] [] ∧ ∀ (y : Unit), True → ite2 (Lib.hasPrefix s.data.toList (rd xs (↑z : Int).toNat (KK.dflt Kd.hd)).snd.data.toList)
 (EndsAs 1 (ct_read s t φ) (VV.tup [V1.agg [C.int .i64 (rd xs (↑z : Int).toNat (KK.dflt Kd.hd)).fst, C.str (tx (Lib.trimPrefix s.data.toList (rd xs (↑z : Int).toNat (KK.dflt Kd.hd)).snd.data.toList))],
 V1.c (C.bool true)]) [Atom.bag φ, Atom.cells 57 [C.int .i64 (rd xs (↑z : Int).toNat (KK.dflt Kd.hd)).fst, C.str (tx (Lib.trimPrefix s.data.toList (rd xs (↑z : Int).toNat (KK.dflt Kd.hd)).snd.data.toList))],
 Atom.cells 83 [C.int .i64 (rd xs (↑z : Int).toNat (KK.dflt Kd.hd)).fst, C.str (rd xs (↑z : Int).toNat (KK.dflt Kd.hd)).snd]]) (i64ok ((↑z : Int) + (1 : Int)) ∧ Enter 1 (inv_read s t φ) (fun (z' : Nat)
 => 3 - z' < 3 - z) ([VV.one (V1.c (C.str s)), VV.any, VV.one (V1.c (C.ptr 1 0 0)), boolv false, VV.any, VV.one (V1.c (C.ptr 2 0 0)), VV.one (V1.c (C.str (tx (Lib.trimPrefix s.data.toList (rd xs (↑z : Int).toNat
 (KK.dflt Kd.hd)).snd.data.toList)))), boolv (Lib.hasPrefix s.data.toList (rd xs (↑z : Int).toNat (KK.dflt Kd.hd)).snd.data.toList), VV.one (V1.c (C.ls 83 t.hb t.ho 3 3)), i64 (3 : Int), i64 ((↑z : Int)
 + (1 : Int))] ++ anys 17) [Atom.bag φ, Atom.cells 57 [C.int .i64 (0 : Int), C.str (ByteArray.mk (#[]))], Atom.cells 83 [C.int .i64 (rd xs (↑z : Int).toNat (KK.dflt Kd.hd)).fst, C.str (rd xs (↑z : Int).toNat
 (KK.dflt Kd.hd)).snd]])) (EndsAs 1 (ct_read s t φ) (VV.tup [V1.agg [C.int .i64 (0 : Int), C.str (ByteArray.mk (#[]))], V1.c (C.bool false)]) [Atom.bag φ, Atom.cells 57 [C.int .i64 (0 : Int), C.str (ByteArray.mk
 (#[]))]])) := by kernel_rfl
theorem none_ok : CtOk Tryz.prog 5 ct_none := CtOk_of KK_ok tab1 ann0 (fn := Tryz.f5) rfl (fun _ _ => rfl) fun hn => by
  rw [vc_none ()]
  exact ⟨(), [], [0], trivial, by (repeat' first | exact trivial | exact rfl | apply And.intro)⟩
theorem cellsAt_put {φ : Bag KK} {b : Nat} {T : TypeId} {cs : List C} : cellsAt (bput φ b (.box T cs)) b = some cs := cellsAt_box (if_pos rfl)
theorem line_ok (w : Int) (q : ByteArray) (φ : Bag KK) : CtOk Tryz.prog 22 (ct_line w q φ) := CtOk_of KK_ok tab1 ann_line (fn := Tryz.f22) rfl (fun _ _ => rfl) fun hn => by
  rw [vc_line]
  intro b hb
  exact ⟨(w, q), cellsAt_put, b, [], [0], hb, by (repeat' first | exact trivial | exact rfl | apply And.intro)⟩
theorem speak_ok (φ : Bag KK) (b : Nat) (p : ByteArray) : CtOk Tryz.prog 54 (ct_speak φ b p) := CtOk_of KK_ok tab1 ann0 (fn := Tryz.f54) rfl (fun _ _ => rfl) fun hn => by
  obtain ⟨⟨r, hr⟩, hp⟩ := hn
  have hb : boxAt φ b 1 = some (.str r.2) := by
    unfold boxAt
    rw [cellsAt_box (show φ b = some (.box _ _) from hr)]
    rfl
  have no : ∀ v, v = sp r p → EndsAs 1 (ct_speak φ b p) (boolv v) [.bag φ] := fun v hv => by
    subst hv
    exact ⟨r, [], [0], hr, by (repeat' first | exact trivial | exact rfl | apply And.intro)⟩
  rw [vc_speak]
  refine ⟨r.2, hb, hp, into_mk (by kernel_rfl) (by (repeat' first | exact trivial | exact rfl | apply And.intro)) (by (repeat' first | exact trivial | exact rfl | apply And.intro)), fun _ _ => ite2_mk (fun h1 => ite2_decide (fun h2 => no _ ?_) (fun h2 => no _ ?_)) (fun h1 => no _ ?_)⟩
  · simp [sp, h1, h2]
  · simp [sp, h2]
  · simp [sp, h1]
theorem boxAt_tab {φ : Bag KK} {b : Nat} {T : TypeId} {p : Nat × Nat} {c : C} (h : φ b = some (.tab T p [c])) : boxAt φ b 0 = some c := by
  unfold boxAt
  rw [cellsAt_tab h]
  rfl
theorem heads_at (i : Nat) (h : i < 3) : rd (α := Int × ByteArray) headsL i (KK.dflt Kd.hd) = ((i : Int) + 1, ⟨(R.hd ((i : Int) + 1)).toArray⟩) := by
  match i, h with
  | 0, _ => rfl
  | 1, _ => rfl
  | 2, _ => rfl
theorem read_ok (s : ByteArray) (t : Tb) (φ : Bag KK) : CtOk Tryz.prog 20 (ct_read s t φ) := CtOk_of KK_ok (tab1T t) (ann_read s t φ) (fn := Tryz.f20) rfl (fun _ _ => rfl) fun hn => by
  obtain ⟨h1, h2, h3⟩ := hn
  have no : ∀ a b v A, a = (readR s).1 → b = (readR s).2.1 → v = (readR s).2.2 → EndsAs 1 (ct_read s t φ) (.tup [.agg [.int .i64 a, .str b], .c (.bool v)]) (.bag φ :: A) := fun a b v A h1 h2 h3 => by
    subst h1 h2 h3
    exact ⟨(), [], [0], trivial, by (repeat' first | exact trivial | exact rfl | apply And.intro)⟩
  have e0 : ∀ (z : Nat), (∀ j : Nat, j < z → Lib.hasPrefix s.data.toList (R.hd (j + 1)) = false) → 3 ≤ z → R.readL s = none := fun z hz h3 => by
    have a1 := hz 0 (by omega)
    have a2 := hz 1 (by omega)
    have a3 := hz 2 (by omega)
    have a1 : Lib.hasPrefix s.data.toList (R.hd 1) = false := a1
    have a2 : Lib.hasPrefix s.data.toList (R.hd 2) = false := a2
    have a3 : Lib.hasPrefix s.data.toList (R.hd 3) = false := a3
    unfold R.readL
    rw [a1, a2, a3]
    rfl
  have e1 : ∀ (z : Nat), (∀ j : Nat, j < z → Lib.hasPrefix s.data.toList (R.hd (j + 1)) = false) → z < 3 → Lib.hasPrefix s.data.toList (R.hd (z + 1)) = true → R.readL s = some ((z : Int) + 1, tx (Lib.trimPrefix s.data.toList (R.hd (z + 1)))) := fun z hz h3 hp => by
    unfold R.readL
    match z, h3 with
    | 0, _ =>
      have hp : Lib.hasPrefix s.data.toList (R.hd 1) = true := hp
      rw [if_pos hp]
      rfl
    | 1, _ =>
      have hp : Lib.hasPrefix s.data.toList (R.hd 2) = true := hp
      have a1 : Lib.hasPrefix s.data.toList (R.hd 1) = false := hz 0 (by omega)
      rw [a1, if_pos hp]
      rfl
    | 2, _ =>
      have hp : Lib.hasPrefix s.data.toList (R.hd 3) = true := hp
      have a1 : Lib.hasPrefix s.data.toList (R.hd 1) = false := hz 0 (by omega)
      have a2 : Lib.hasPrefix s.data.toList (R.hd 2) = false := hz 1 (by omega)
      rw [a1, a2, if_pos hp]
      rfl
  rw [vc_read]
  refine ⟨boxAt_tab h1, ⟨(0 : Nat), [], [0, 1], ⟨Nat.zero_le _, fun j hj => absurd hj (Nat.not_lt_zero _)⟩, trivial, into_mk (by kernel_rfl) (by (repeat' first | exact trivial | exact rfl | apply And.intro)) (by (repeat' first | exact trivial | exact rfl | apply And.intro))⟩, ?_⟩
  rintro z ⟨hz, hp⟩
  refine ite2_decide (fun hl => ?_) (fun hl => no _ _ _ _ ?_ ?_ ?_)
  · have hl3 : z < 3 := by omega
    refine ⟨⟨by omega, hl⟩, headsL, t.ob, h3, by rw [Int.toNat_natCast]; exact hl3, trivial, into_mk (by kernel_rfl) (by (repeat' first | exact trivial | exact rfl | apply And.intro)) (by (repeat' first | exact trivial | exact rfl | apply And.intro)), fun _ _ => ?_⟩
    have he : rd (α := KK.α Kd.hd) headsL z (KK.dflt Kd.hd) = ((z : Int) + 1, ⟨(R.hd ((z : Int) + 1)).toArray⟩) := heads_at z hl3
    simp only [Int.toNat_natCast, he]
    refine ite2_mk (fun h => ?_) (fun h => ?_)
    · have er := e1 z hp hl3 h
      refine no _ _ _ _ ?_ ?_ ?_
      · unfold readR; rw [er]
      · unfold readR; rw [er]
      · unfold readR; rw [er]
    · refine ⟨by unfold i64ok; omega, (z + 1 : Nat), [], [0, 1], ⟨by omega, fun j hj => ?_⟩, by show 3 - (z + 1) < 3 - z; omega, into_mk (by kernel_rfl) (by (repeat' first | exact trivial | exact rfl | apply And.intro)) (by (repeat' first | exact trivial | exact rfl | apply And.intro))⟩
      by_cases e : j = z
      · subst e; exact h
      · exact hp j (by omega)
  · unfold readR; rw [e0 z hp (by omega)]
  · unfold readR; rw [e0 z hp (by omega)]
  · unfold readR; rw [e0 z hp (by omega)]
end Go.Proofs.YtoidibkcdkdneaaGreatDoor.T
end
section
namespace Go.Proofs.YtoidibkcdkdneaaGreatDoor.T
open Go.Proofs.YtoidibkcdkdneaaGreatDoor.E Go.Proofs.YtoidibkcdkdneaaGreatDoor.MStr Go.Proofs.YtoidibkcdkdneaaGreatDoor.R
set_option maxRecDepth 100000
set_option linter.unusedVariables false
set_option linter.unusedSimpArgs false
def plainN (s : ByteArray) (a b : Nat) : Prop := ∀ j, a ≤ j → j < b → j < s.size → s.get! j ≠ 10
/-- What a left-to-right cutting at line feeds has done. -/
structure CutN (s : ByteArray) (acc : List ByteArray) (a b : Nat) : Prop where
  few : acc.length ≤ a
  le : a ≤ b
  le' : b ≤ s.size
  plain : plainN s a b
  all : linesB s = acc ++ (cutsN (s.data.toList.drop a)).map tx
theorem CutN.start (s : ByteArray) : CutN s [] 0 0 := ⟨Nat.le_refl _, Nat.le_refl _, Nat.zero_le _, fun j _ h => by omega, by simp [linesB]⟩
theorem CutN.feed {s : ByteArray} {acc : List ByteArray} {a b : Nat} (h : CutN s acc a b) (hb : b < s.size) (hs : s.get! b = 10) : CutN s (acc ++ [s.extract a b]) (b + 1) (b + 1) := by
  refine ⟨by have := h.few; have := h.le; rw [List.length_append, List.length_singleton]; omega, Nat.le_refl _, by omega, fun j h1 h2 => by omega, ?_⟩
  have e : s.data.toList.drop a = (s.data.toList.drop a).take (b - a) ++ 10 :: s.data.toList.drop (b + 1) := by
    have h1 := (List.take_append_drop (b - a) (s.data.toList.drop a)).symm
    rw [List.drop_drop, show a + (b - a) = b by have := h.le; omega, drop_get s b hb, hs] at h1
    exact h1
  rw [h.all, e, cutsN_cut _ _ (fun c hc => ?_), List.map_cons, extract_tx]
  · simp
  · obtain ⟨j, h1, h2, h3, rfl⟩ := mem_mid s a b c hc
    exact h.plain j h1 h2 h3
theorem CutN.pass {s : ByteArray} {acc : List ByteArray} {a b : Nat} (h : CutN s acc a b) (hn : b < s.size) (hs : s.get! b ≠ 10) : CutN s acc a (b + 1) :=
  ⟨h.few, by have := h.le; omega, hn, fun j h1 h2 h3 => by
    by_cases e : j < b
    · exact h.plain j h1 e h3
    · obtain rfl : j = b := by omega
      exact hs, h.all⟩
theorem CutN.fin {s : ByteArray} {acc : List ByteArray} {a b : Nat} (h : CutN s acc a b) (hb : ¬ b < s.size) : linesB s = acc ++ [s.extract a s.size] := by
  have e : s.data.toList.drop a = (s.data.toList.drop a).take (s.size - a) := by
    rw [List.take_of_length_le]; rw [List.length_drop]; simp
  rw [h.all, cutsN_none _ (fun c hc => ?_), extract_tx, ← e]
  · rfl
  · rw [e] at hc
    obtain ⟨j, h1, h2, h3, rfl⟩ := mem_mid s a s.size c hc
    exact h.plain j h1 (by omega) h3
def ct_rlines (s : ByteArray) : Ct KK := { need := s.size ≤ 1000000, pre := [], args := [strv s], Y := Unit, ok := fun _ => True, ret := fun _ => .c (.slc 0 0 (linesB s).length none), post := fun _ => [.arr .str (linesB s)] }
def inv_rlines (s : ByteArray) : Inv KK := { X := List ByteArray × Nat × Nat, fr := fun z => [strv s, .any, .any, .c (.slc 0 0 z.1.length none), i64 z.2.1, i64 z.2.2] ++ anys 25, H := fun z => [.arr .str z.1], ok := fun z => CutN s z.1 z.2.1 z.2.2, meas := fun z => s.size - z.2.2 }
def ann_rlines (s : ByteArray) : Ann KK := { loop := fun _ _ _ => some (inv_rlines s), cut := fun _ _ _ => none, keep := some 6 }
def aftB (s h : ByteArray) : ByteArray × Bool := if Lib.hasPrefix s.data.toList h.data.toList = true then (tx (Lib.trimPrefix s.data.toList h.data.toList), true) else (⟨#[]⟩, false)
def ct_rafter (s h : ByteArray) : Ct KK := { need := s.size ≤ 1000000 ∧ h.size ≤ 1000000, pre := [], args := [strv s, strv h], Y := Unit, ok := fun _ => True, ret := fun _ => .tup [.c (.str (aftB s h).1), .c (.bool (aftB s h).2)], post := fun _ => [] }
def AftOk : Prop := ∀ s h, CtOk Tryz.prog 39 (ct_rafter s h)
def tabRx (AFT : AftOk) : Tab Tryz.prog KK := ⟨mixed, fun f args H => match f, args with
  | 39, [.one (.c (.str s)), .one (.c (.str h))] => some (ct_rafter s h, [], [])
  | _, _ => none, fun f args H ct ks τ h => by
    split at h
    · cases h; exact AFT _ _
    · cases h⟩
def hds : List ByteArray := [⟨#[115, 107, 105, 112, 32]⟩, ⟨#[112, 114, 101, 102, 101, 114, 32, 97, 32]⟩, ⟨#[112, 114, 101, 102, 101, 114, 32, 98, 32]⟩]
def noHd (s : ByteArray) (z : Nat) : Prop := z ≤ 3 ∧ ∀ j : Nat, j < z → Lib.hasPrefix s.data.toList (R.hd (j + 1)) = false
def ct_rrule (s : ByteArray) : Ct KK := { need := s.size ≤ 1000000, pre := [], args := [strv s], Y := Unit, ok := fun _ => True, ret := fun _ => .tup [.agg [.int .i64 (readR s).1, .str (readR s).2.1], .c (.bool (readR s).2.2)], post := fun _ => [] }
def inv_rrule (s : ByteArray) : Inv KK := { X := Nat, fr := fun i => [strv s, .any, .c (.ptr 0 0 0), .any, .c (.slc 1 0 3 none), i64 i] ++ anys 22, H := fun _ => [.cells 57 [.int .i64 0, .str ⟨#[]⟩], .arr .str hds], ok := fun i => noHd s i, meas := fun i : Nat => 3 - i }
def ann_rrule (s : ByteArray) : Ann KK := { loop := fun _ _ _ => some (inv_rrule s), cut := fun _ _ _ => none, keep := some 6 }
theorem vc_rlines (s : ByteArray) : evFn tab0 (ann_rlines s) Tryz.f11 (ct_rlines s) = ( Enter 0 (inv_rlines s) (fun (x : List ByteArray × Nat × Nat) => True) ([VV.one (V1.c (C.str s)), VV.any, VV.one (V1.c C.nils), VV.one (V1.c C.nils), i64 (0 : Int), i64 (0 : Int)] ++ anys 25) [] ∧ ∀ (z
 : List ByteArray × Nat × Nat), CutN s z.fst z.snd.fst z.snd.snd → ite2 (decide ((↑z.snd.snd : Int) < (↑s.size : Int))) (((0 : Int) ≤ (↑z.snd.snd : Int) ∧ (↑z.snd.snd : Int) < (↑s.size : Int)) ∧ ite2 (decide
 (bt s (↑z.snd.snd : Int).toNat = (10 : Int))) (((0 : Int) ≤ (↑z.snd.fst : Int) ∧ (↑z.snd.fst : Int) ≤ (↑z.snd.snd : Int) ∧ (↑z.snd.snd : Int) ≤ (↑s.size : Int)) ∧ z.fst.length = z.fst.length ∧ (1 ≤ 1 ∧
 True) ∧ (z.fst.length + 1) * 16 ≤ 140737488355328 ∧ i64ok ((↑z.snd.snd : Int) + (1 : Int)) ∧ i64ok ((↑z.snd.snd : Int) + (1 : Int)) ∧ Enter 0 (inv_rlines s) (fun (z' : List ByteArray × Nat × Nat) => s.size
 - z'.snd.snd < s.size - z.snd.snd) ([VV.one (V1.c (C.str s)), VV.any, VV.any, VV.one (V1.c (C.slc 2 0 (z.fst.length + 1) none)), i64 ((↑z.snd.snd : Int) + (1 : Int)), i64 ((↑z.snd.snd : Int) + (1 : Int))]
 ++ anys 25) [Atom.gone, Atom.arr Kd.str [s.extract (↑z.snd.fst : Int).toNat (↑z.snd.snd : Int).toNat], Atom.arr Kd.str (z.fst ++ [s.extract (↑z.snd.fst : Int).toNat (↑z.snd.snd : Int).toNat])]) (i64ok
 ((↑z.snd.snd : Int) + (1 : Int)) ∧ Enter 0 (inv_rlines s) (fun (z' : List ByteArray × Nat × Nat) => s.size - z'.snd.snd < s.size - z.snd.snd) ([VV.one (V1.c (C.str s)), VV.any, VV.any, VV.one (V1.c (C.slc
 0 0 z.fst.length none)), i64 (↑z.snd.fst : Int), i64 ((↑z.snd.snd : Int) + (1 : Int))] ++ anys 25) [Atom.arr Kd.str z.fst])) (((0 : Int) ≤ (↑z.snd.fst : Int) ∧ (↑z.snd.fst : Int) ≤ (↑s.size : Int) ∧ (↑s.size
 : Int) ≤ (↑s.size : Int)) ∧ z.fst.length = z.fst.length ∧ (1 ≤ 1 ∧ True) ∧ (z.fst.length + 1) * 16 ≤ 140737488355328 ∧ EndsAs 0 (ct_rlines s) (VV.one (V1.c (C.slc 2 0 (z.fst.length + 1) none))) [Atom.gone,
 Atom.arr Kd.str [s.extract (↑z.snd.fst : Int).toNat (↑s.size : Int).toNat], Atom.arr Kd.str (z.fst ++ [s.extract (↑z.snd.fst : Int).toNat (↑s.size : Int).toNat])])) := by kernel_rfl
theorem vc_rafter (s h : ByteArray) : evFn tab0 ann0 Tryz.f39 (ct_rafter s h) = ( ite2 (decide ((↑s.size : Int) < (↑h.size : Int))) (EndsAs 0 (ct_rafter s h) (VV.tup [V1.c (C.str (ByteArray.mk (#[]))), V1.c (C.bool false)]) []) (((0 : Int) ≤ (0 : Int) ∧ (0 : Int) ≤ (↑h.size : Int)
 ∧ (↑h.size : Int) ≤ (↑s.size : Int)) ∧ ite2 (decide ((s.extract 0 (↑h.size : Int).toNat).toList = h.toList)) (((0 : Int) ≤ (↑h.size : Int) ∧ (↑h.size : Int) ≤ (↑s.size : Int) ∧ (↑s.size : Int) ≤ (↑s.size
 : Int)) ∧ EndsAs 0 (ct_rafter s h) (VV.tup [V1.c (C.str (s.extract (↑h.size : Int).toNat (↑s.size : Int).toNat)), V1.c (C.bool true)]) []) (EndsAs 0 (ct_rafter s h) (VV.tup [V1.c (C.str (ByteArray.mk (#[]))),
 V1.c (C.bool false)]) []))) := by kernel_rfl
theorem vc_rrule (AFT : AftOk) (s : ByteArray) : evFn (tabRx AFT) (ann_rrule s) Tryz.f12 (ct_rrule s) = ( Enter 0 (inv_rrule s) (fun (x : Nat) => True) ([VV.one (V1.c (C.str s)), VV.any, VV.one (V1.c (C.ptr 0 0 0)), boolv false, VV.one (V1.c (C.slc 1 0 3 none)), i64 (0 : Int)] ++ anys 22) [Atom.cells 57 [C.int
 .i64 (0 : Int), C.str (ByteArray.mk (#[]))], Atom.arr Kd.str [(ByteArray.mk (#[(115 : UInt8), (107 : UInt8), (105 : UInt8), (112 : UInt8), (32 : UInt8)])), (ByteArray.mk (#[(112 : UInt8), (114 : UInt8),
 (101 : UInt8), (102 : UInt8), (101 : UInt8), (114 : UInt8), (32 : UInt8), (97 : UInt8), (32 : UInt8)])), (ByteArray.mk (#[(112 : UInt8), (114 : UInt8), (101 : UInt8), (102 : UInt8), (101 : UInt8), (114
 : UInt8), (32 : UInt8), (98 : UInt8), (32 : UInt8)]))]] ∧ ∀ (z : Nat), noHd s z → ite2 (decide ((↑z : Int) < (3 : Int))) (((0 : Int) ≤ (↑z : Int) ∧ (↑z : Int) < (3 : Int)) ∧ (↑z : Int).toNat < 3 ∧ True
 ∧ (↑z : Int).toNat < 3 ∧ (s.size ≤ 1000000 ∧ ByteArray.size (rd hds (↑z : Int).toNat (ByteArray.mk (#[]))) ≤ 1000000) ∧ Into (K := KK) 0 [] [] [VV.one (V1.c (C.str s)), VV.one (V1.c (C.str (rd hds (↑z
 : Int).toNat (ByteArray.mk (#[])))))] [Atom.cells 57 [C.int .i64 (0 : Int), C.str (ByteArray.mk (#[]))], Atom.arr Kd.str hds] [VV.one (V1.c (C.str s)), VV.one (V1.c (C.str (rd hds (↑z : Int).toNat (ByteArray.mk
 (#[])))))] [] ∧ ∀ (y : Unit), True → ite2 (aftB s (rd hds (↑z : Int).toNat (ByteArray.mk ((#[]))))).snd (i64ok ((↑z : Int) + (1 : Int)) ∧ EndsAs 0 (ct_rrule s) (VV.tup [V1.agg [C.int .i64 ((↑z : Int) +
 (1 : Int)), C.str (aftB s (rd hds (↑z : Int).toNat (ByteArray.mk ((#[]))))).fst], V1.c (C.bool true)]) [Atom.cells 57 [C.int .i64 ((↑z : Int) + (1 : Int)), C.str (aftB s (rd hds (↑z : Int).toNat (ByteArray.mk
 ((#[]))))).fst], Atom.arr Kd.str hds]) (i64ok ((↑z : Int) + (1 : Int)) ∧ Enter 0 (inv_rrule s) (fun (z' : Nat) => 3 - z' < 3 - z) ([VV.one (V1.c (C.str s)), VV.any, VV.one (V1.c (C.ptr 0 0 0)), VV.any,
 VV.one (V1.c (C.slc 1 0 3 none)), i64 ((↑z : Int) + (1 : Int))] ++ anys 22) [Atom.cells 57 [C.int .i64 (0 : Int), C.str (ByteArray.mk (#[]))], Atom.arr Kd.str hds])) (EndsAs 0 (ct_rrule s) (VV.tup [V1.agg
 [C.int .i64 (0 : Int), C.str (ByteArray.mk (#[]))], V1.c (C.bool false)]) [Atom.cells 57 [C.int .i64 (0 : Int), C.str (ByteArray.mk (#[]))], Atom.arr Kd.str hds])) := by kernel_rfl
theorem rlines_ok (s : ByteArray) : CtOk Tryz.prog 11 (ct_rlines s) := CtOk_of KK_ok tab0 (ann_rlines s) (fn := Tryz.f11) rfl (fun _ _ => rfl) fun hn => by
  have hn : s.size ≤ 1000000 := hn
  rw [vc_rlines]
  simp only [Int.toNat_natCast, Nat.zero_add, Nat.add_zero]
  refine ⟨⟨([], (0 : Nat), (0 : Nat)), [.str], [0], CutN.start s, trivial, into_mk (by kernel_rfl) (by (repeat' first | exact trivial | exact rfl | apply And.intro)) (by (repeat' first | exact trivial | exact rfl | apply And.intro))⟩, ?_⟩
  rintro ⟨acc, a, b⟩ hz
  have hz : CutN s acc a b := hz
  have h1 := hz.few
  have h2 := hz.le
  have h3 := hz.le'
  dsimp only
  refine ite2_decide (fun hl => ?_) (fun hl => ?_)
  · have hl1 : b < s.size := by omega
    refine ⟨⟨by omega, by omega⟩, ite2_decide (fun hs => ?_) (fun hs => ?_)⟩
    · have hs : bt s b = 10 := hs
      rw [bt_get] at hs
      have hs1 : s.get! b = 10 := by
        apply UInt8.toNat_inj.1
        show (s.get! b).toNat = 10
        omega
      have hq3 : acc.length + 1 = (acc ++ [s.extract a b]).length := by simp
      exact ⟨⟨by omega, by omega, by omega⟩, trivial, ⟨Nat.le_refl _, trivial⟩, by omega, by unfold i64ok; omega, by unfold i64ok; omega, (acc ++ [s.extract a b], b + 1, b + 1), [], [2], hz.feed hl1 hs1, by show s.size - (b + 1) < s.size - b; omega, into_mk (by kernel_rfl) (by (repeat' first | exact trivial | exact rfl | exact hq3 | apply And.intro)) (by (repeat' first | exact trivial | exact rfl | exact hq3 | apply And.intro))⟩
    · have hs : ¬ bt s b = 10 := hs
      rw [bt_get] at hs
      exact ⟨by unfold i64ok; omega, (acc, a, b + 1), [], [0], hz.pass hl1 (fun e => hs (by rw [e]; rfl)), by show s.size - (b + 1) < s.size - b; omega, into_mk (by kernel_rfl) (by (repeat' first | exact trivial | exact rfl | apply And.intro)) (by (repeat' first | exact trivial | exact rfl | apply And.intro))⟩
  · have hf := hz.fin (by omega)
    have hq1 : acc.length + 1 = (linesB s).length := by rw [hf]; simp
    have hq2 : acc ++ [s.extract a s.size] = linesB s := hf.symm
    exact ⟨⟨by omega, by omega, by omega⟩, trivial, ⟨Nat.le_refl _, trivial⟩, by omega, (), [], [2], trivial, by (repeat' first | exact trivial | exact rfl | exact hq1 | exact hq2 | apply And.intro)⟩
theorem rafter_ok (s h : ByteArray) : CtOk Tryz.prog 39 (ct_rafter s h) := CtOk_of KK_ok tab0 ann0 (fn := Tryz.f39) rfl (fun _ _ => rfl) fun hn => by
  have hr := Lib.hasPrefix_raw s h
  rw [vc_rafter]
  simp only [Int.toNat_natCast]
  have ends : ∀ x v, aftB s h = (x, v) → EndsAs 0 (ct_rafter s h) (VV.tup [V1.c (C.str x), V1.c (C.bool v)]) [] := fun x v e => by
    have q1 : x = (aftB s h).1 := by rw [e]
    have q2 : v = (aftB s h).2 := by rw [e]
    exact ⟨(), [], [], trivial, by (repeat' first | exact trivial | exact rfl | exact q1 | exact q2 | apply And.intro)⟩
  refine ite2_decide (fun h1 => ends _ _ ?_) (fun h1 => ⟨⟨by omega, by omega, by omega⟩, ite2_decide (fun h2 => ⟨⟨by omega, by omega, by omega⟩, ends _ _ ?_⟩) (fun h2 => ends _ _ ?_)⟩)
  · have : Lib.hasPrefix s.data.toList h.data.toList = false := by
      rw [← hr, decide_eq_false (by omega)]; rfl
    unfold aftB; rw [if_neg (by rw [this]; simp)]
  · have hp : Lib.hasPrefix s.data.toList h.data.toList = true := by
      rw [← hr, decide_eq_true (by omega), beq_iff_eq.2 h2]; rfl
    have hq : tx (Lib.trimPrefix s.data.toList h.data.toList) = s.extract h.size s.size := by
      unfold Lib.trimPrefix
      have e1 : h.data.toList.length = h.size := by simp
      rw [if_pos hp, extract_tx, e1, List.take_of_length_le (by rw [List.length_drop]; simp)]
    unfold aftB; rw [if_pos hp, hq]
  · have : Lib.hasPrefix s.data.toList h.data.toList = false := by
      rw [← hr, beq_eq_false_iff_ne.2 h2, Bool.and_false]
    unfold aftB; rw [if_neg (by rw [this]; simp)]
theorem aft_ok : AftOk := rafter_ok
theorem noHd.none {s : ByteArray} {z : Nat} (h : noHd s z) (h3 : 3 ≤ z) : R.readL s = Option.none := by
  have a1 : Lib.hasPrefix s.data.toList (R.hd 1) = false := h.2 0 (by omega)
  have a2 : Lib.hasPrefix s.data.toList (R.hd 2) = false := h.2 1 (by omega)
  have a3 : Lib.hasPrefix s.data.toList (R.hd 3) = false := h.2 2 (by omega)
  unfold R.readL
  rw [a1, a2, a3]
  rfl
theorem noHd.some {s : ByteArray} {z : Nat} (h : noHd s z) (h3 : z < 3) (hp : Lib.hasPrefix s.data.toList (R.hd (z + 1)) = true) : R.readL s = Option.some ((z : Int) + 1, tx (Lib.trimPrefix s.data.toList (R.hd (z + 1)))) := by
  obtain ⟨_, hz⟩ := h
  unfold R.readL
  match z, h3 with
  | 0, _ =>
    have hp : Lib.hasPrefix s.data.toList (R.hd 1) = true := hp
    rw [if_pos hp]
    rfl
  | 1, _ =>
    have hp : Lib.hasPrefix s.data.toList (R.hd 2) = true := hp
    have a1 : Lib.hasPrefix s.data.toList (R.hd 1) = false := hz 0 (by omega)
    rw [a1, if_pos hp]
    rfl
  | 2, _ =>
    have hp : Lib.hasPrefix s.data.toList (R.hd 3) = true := hp
    have a1 : Lib.hasPrefix s.data.toList (R.hd 1) = false := hz 0 (by omega)
    have a2 : Lib.hasPrefix s.data.toList (R.hd 2) = false := hz 1 (by omega)
    rw [a1, a2, if_pos hp]
    rfl
theorem hds_at : ∀ z : Nat, z < 3 → (rd hds z (ByteArray.mk #[])).data.toList = R.hd (z + 1) ∧ (rd hds z (ByteArray.mk #[])).size ≤ 1000000
  | 0, _ => ⟨rfl, by decide⟩
  | 1, _ => ⟨rfl, by decide⟩
  | 2, _ => ⟨rfl, by decide⟩
theorem rrule_ok (s : ByteArray) : CtOk Tryz.prog 12 (ct_rrule s) := CtOk_of KK_ok (tabRx aft_ok) (ann_rrule s) (fn := Tryz.f12) rfl (fun _ _ => rfl) fun hn => by
  have hn : s.size ≤ 1000000 := hn
  rw [vc_rrule]
  simp only [Int.toNat_natCast]
  have ends : ∀ a b v A, a = (readR s).1 → b = (readR s).2.1 → v = (readR s).2.2 → EndsAs 0 (ct_rrule s) (.tup [.agg [.int .i64 a, .str b], .c (.bool v)]) A := fun a b v A h1 h2 h3 => by
    exact ⟨(), [], [], trivial, by (repeat' first | exact trivial | exact rfl | exact h1 | exact h2 | exact h3 | apply And.intro)⟩
  refine ⟨⟨(0 : Nat), [], [0, 1], ⟨Nat.zero_le _, fun j hj => absurd hj (Nat.not_lt_zero _)⟩, trivial, into_mk (by kernel_rfl) (by (repeat' first | exact trivial | exact rfl | apply And.intro)) (by (repeat' first | exact trivial | exact rfl | apply And.intro))⟩, ?_⟩
  intro z hz
  have hz : noHd s z := hz
  have hz3 := hz.1
  refine ite2_decide (fun hl => ?_) (fun hl => ends _ _ _ _ ?_ ?_ ?_)
  · have hl3 : z < 3 := by omega
    obtain ⟨e1, e2⟩ := hds_at z hl3
    refine ⟨⟨by omega, hl⟩, hl3, trivial, hl3, ⟨hn, e2⟩, into_mk (by kernel_rfl) (by (repeat' first | exact trivial | exact rfl | apply And.intro)) (by (repeat' first | exact trivial | exact rfl | apply And.intro)), fun _ _ => ite2_mk (fun h => ⟨by unfold i64ok; omega, ?_⟩) (fun h => ?_)⟩
    · have hp : Lib.hasPrefix s.data.toList (R.hd (z + 1)) = true := by
        unfold aftB at h
        split at h
        · rename_i hp; rw [e1] at hp; exact hp
        · cases h
      have er := hz.some hl3 hp
      have ea : (aftB s (rd hds z (ByteArray.mk #[]))).1 = tx (Lib.trimPrefix s.data.toList (R.hd (z + 1))) := by
        unfold aftB; rw [e1, if_pos hp]
      refine ends _ _ _ _ ?_ ?_ ?_
      · unfold readR; rw [er]
      · unfold readR; rw [er, ea]
      · unfold readR; rw [er]
    · have hp : Lib.hasPrefix s.data.toList (R.hd (z + 1)) = false := by
        unfold aftB at h
        split at h
        · cases h
        · rename_i hp; rw [e1] at hp; simpa using hp
      refine ⟨by unfold i64ok; omega, (z + 1 : Nat), [], [0, 1], ⟨by omega, fun j hj => ?_⟩, (show 3 - (z + 1) < 3 - z by omega), into_mk (by kernel_rfl) (by (repeat' first | exact trivial | exact rfl | apply And.intro)) (by (repeat' first | exact trivial | exact rfl | apply And.intro))⟩
      by_cases e : j = z
      · subst e; exact hp
      · exact hz.2 j (by omega)
  · unfold readR; rw [hz.none (by omega)]
  · unfold readR; rw [hz.none (by omega)]
  · unfold readR; rw [hz.none (by omega)]
end Go.Proofs.YtoidibkcdkdneaaGreatDoor.T
end
section
namespace Go.Proofs.YtoidibkcdkdneaaGreatDoor.T
open Go.Proofs.YtoidibkcdkdneaaGreatDoor.E Go.Proofs.YtoidibkcdkdneaaGreatDoor.MStr Go.Proofs.YtoidibkcdkdneaaGreatDoor.R
set_option maxRecDepth 100000
set_option linter.unusedVariables false
abbrev Ln := Int × ByteArray × Nat
def GoodL (φ : Bag KK) (xs : List Ln) : Prop := ∀ x ∈ xs, φ x.2.2 = some (ruleI x.1 x.2.1)
def rl (x : Ln) : Rl := (x.1, x.2.1)
def LL (xs : List Ln) : List Rl := xs.map rl
def rulesH (φ : Bag KK) (xs : List Ln) : VH KK := [.bag φ, .cells 64 [.slc 2 0 xs.length none], .arr .line xs]
theorem size_of_toList {z : ByteArray} (h : ¬ z.toList = (ByteArray.mk #[]).toList) : z.size ≠ 0 := fun e => h (by
  rw [toList_data, toList_data]
  have : z.data.toList.length = 0 := by simpa using e
  rw [List.eq_nil_of_length_eq_zero this])
theorem rd_get {α : Type} (xs : List α) (z : Nat) (d : α) (h : z < xs.length) : rd xs z d = xs[z] := by
  unfold rd
  rw [List.getD_eq_getElem?_getD, List.getElem?_eq_getElem h]
  rfl
theorem rd_in {α : Type} (xs : List α) (z : Nat) (d : α) (h : z < xs.length) : rd xs z d ∈ xs := by
  rw [rd_get xs z d h]
  exact List.getElem_mem h
theorem rd_mem {xs : List Ln} {z : Nat} (h : z < xs.length) : rd (α := KK.α Kd.line) xs z (KK.dflt Kd.line) ∈ xs := rd_in (α := Ln) xs z _ h
theorem map_succ {α β : Type} (f : α → β) (xs : List α) (z : Nat) (d : α) (h : z < xs.length) : (xs.map f).take (z + 1) = (xs.map f).take z ++ [f (rd xs z d)] := by
  have hl : z < (xs.map f).length := by rw [List.length_map]; exact h
  rw [List.take_succ_eq_append_getElem hl, List.getElem_map, rd_get xs z d h]
theorem LL_succ {xs : List Ln} {z : Nat} (h : z < xs.length) : (LL xs).take (z + 1) = (LL xs).take z ++ [rl (rd (α := KK.α Kd.line) xs z (KK.dflt Kd.line))] := map_succ rl xs z _ h
end Go.Proofs.YtoidibkcdkdneaaGreatDoor.T
end
section
namespace Go.Proofs.YtoidibkcdkdneaaGreatDoor.T
open Go.Proofs.YtoidibkcdkdneaaGreatDoor.E Go.Proofs.YtoidibkcdkdneaaGreatDoor.MStr Go.Proofs.YtoidibkcdkdneaaGreatDoor.R
set_option maxRecDepth 100000
set_option linter.unusedVariables false
def ct_list (φ : Bag KK) (xs : List Ln) : Ct KK := { need := xs.length ≤ 1000, pre := rulesH φ xs, args := [.c (.ptr 1 0 0)], Y := Unit, ok := fun _ => True, ret := fun _ => .c (.slc 3 0 (LL xs).length none), post := fun _ => [.bag φ, .cells 64 [.slc 2 0 xs.length none], .arr .line xs, .arr .rule (LL xs)] }
def inv_list (φ : Bag KK) (xs : List Ln) : Inv KK := { X := Nat, fr := fun i => [.c (.ptr 1 0 0), .any, .any, .c (.slc 3 0 ((LL xs).take i).length none), .any, .any, .any, .any, .any, .c (.slc 2 0 xs.length none), i64 xs.length, i64 i] ++ anys 10, H := fun i => [.bag φ, .cells 64 [.slc 2 0 xs.length none], .arr .line xs, .arr .rule ((LL xs).take i)], ok := fun i => i ≤ xs.length, meas := fun i : Nat => xs.length - i }
def ann_list (φ : Bag KK) (xs : List Ln) : Ann KK := { loop := fun _ _ _ => some (inv_list φ xs), cut := fun _ _ _ => none, keep := some 12 }
def lineT (r : Rl) : ByteArray := tx (lineL r)
def lineTs (xs : List Ln) (i : Nat) : List ByteArray := ((LL xs).take i).map lineT
def ct_text (t : Tb) (φ : Bag KK) (xs : List Ln) : Ct KK := { need := HasT t φ ∧ (∀ x ∈ xs, 1 ≤ x.1 ∧ x.1 ≤ 3) ∧ xs.length ≤ 1000 ∧ lsum (LL xs) ≤ 1000000, pre := rulesH φ xs, args := [.c (.ptr 1 0 0)], Y := Unit, ok := fun _ => True, ret := fun _ => strv (textB (LL xs)), post := fun _ => rulesH φ xs }
def inv_text (φ : Bag KK) (xs : List Ln) : Inv KK := { X := Nat, fr := fun i => [.c (.ptr 1 0 0), .any, .any, .c (.slc 3 0 (lineTs xs i).length none), .any, .any, .any, .any, .any, .c (.slc 2 0 xs.length none), i64 xs.length, i64 i] ++ anys 21, H := fun i => [.bag φ, .cells 64 [.slc 2 0 xs.length none], .arr .line xs, .arr .str (lineTs xs i)], ok := fun i => i ≤ xs.length, meas := fun i : Nat => xs.length - i }
def ann_text (φ : Bag KK) (xs : List Ln) : Ann KK := { loop := fun _ _ _ => some (inv_text φ xs), cut := fun _ _ _ => none, keep := some 12 }
def ct_sameR (l : List Rl) : Ct KK := { need := l.length ≤ 1000000, pre := [.ro .rule l, .ro .rule l], args := [.c (.slc 0 0 l.length none), .c (.slc 1 0 l.length none)], Y := Unit, ok := fun _ => True, ret := fun _ => boolv true, post := fun _ => [.gone, .gone] }
def inv_sameR (l : List Rl) : Inv KK := { X := Nat, fr := fun i => [.c (.slc 0 0 l.length none), .c (.slc 1 0 l.length none), .any, .any, .any, i64 i] ++ anys 20, H := fun _ => [.ro .rule l, .ro .rule l], ok := fun i => i ≤ l.length, meas := fun i : Nat => l.length - i }
def ann_sameR (l : List Rl) : Ann KK := { loop := fun _ _ _ => some (inv_sameR l), cut := fun _ _ _ => none, keep := some 6 }
def tab3 (t : Tb) : Tab Tryz.prog KK := ⟨base t, fun f args H => match f, args, at_ H 0 with
  | 54, [.one (.c (.str p)), .one (.c (.rp _ _ b _ _))], .bag φ => some (ct_speak φ b p, [], [0])
  | 49, [.one (.c (.str s)), .one (.c (.int _ n))], _ => some (ct_psplit s n, [], [])
  | 43, [.one (.c (.slc n 0 _ none)), .one (.c (.str s))], _ => match at_ H n with
    | .arr .str l => some (ct_sjoin l s, [], [n])
    | _ => none
  | _, _, _ => none, fun f args H ct ks τ h => by
    split at h
    · cases h; exact speak_ok _ _ _
    · cases h; exact psplit_ok _ _
    · split at h
      · cases h; exact sjoin_ok _ _
      · cases h
    · cases h⟩
theorem vc_list (t : Tb) (φ : Bag KK) (xs : List Ln) : evFn (tab3 t) (ann_list φ xs) Tryz.f14 (ct_list φ xs) = ( Enter 3 (inv_list φ xs) (fun (x : Nat) => True) ([VV.one (V1.c (C.ptr 1 0 0)), VV.any, VV.one (V1.c C.nils), VV.one (V1.c C.nils), VV.any, VV.any, VV.one (V1.c (C.ptr 1 0 0)), VV.one (V1.c (C.ptr 1 0
 0)), VV.one (V1.c (C.ptr 1 0 0)), VV.one (V1.c (C.slc 2 0 xs.length none)), i64 (↑xs.length : Int), i64 (0 : Int)] ++ anys 10) [Atom.bag φ, Atom.cells 64 [C.slc 2 0 xs.length none], Atom.arr Kd.line xs]
 ∧ ∀ (z : Nat), z ≤ xs.length → ite2 (decide ((↑z : Int) < (↑xs.length : Int))) (((0 : Int) ≤ (↑z : Int) ∧ (↑z : Int) < (↑xs.length : Int)) ∧ (↑z : Int).toNat < xs.length ∧ True ∧ (↑z : Int).toNat < xs.length
 ∧ (List.take z (LL xs)).length = (List.take z (LL xs)).length ∧ (1 ≤ 1 ∧ True) ∧ ((List.take z (LL xs)).length + 1) * 24 ≤ 140737488355328 ∧ i64ok ((↑z : Int) + (1 : Int)) ∧ Enter 3 (inv_list φ xs) (fun
 (z' : Nat) => xs.length - z' < xs.length - z) ([VV.one (V1.c (C.ptr 1 0 0)), VV.any, VV.any, VV.one (V1.c (C.slc 6 0 ((List.take z (LL xs)).length + 1) none)), VV.any, VV.one (V1.c (C.ptr 4 0 0)), VV.any,
 VV.any, VV.any, VV.one (V1.c (C.slc 2 0 xs.length none)), i64 (↑xs.length : Int), i64 ((↑z : Int) + (1 : Int))] ++ anys 10) [Atom.bag φ, Atom.cells 64 [C.slc 2 0 xs.length none], Atom.arr Kd.line xs, Atom.gone,
 Atom.cells 74 [C.int .i64 (rd xs (↑z : Int).toNat (KK.dflt Kd.line)).fst, C.str (rd xs (↑z : Int).toNat (KK.dflt Kd.line)).snd.fst, C.fn (54 : FuncId) [(57, (rd xs (↑z : Int).toNat (KK.dflt Kd.line)).snd.snd)]],
 Atom.arr Kd.rule [((rd xs (↑z : Int).toNat (KK.dflt Kd.line)).fst, (rd xs (↑z : Int).toNat (KK.dflt Kd.line)).snd.fst)], Atom.arr Kd.rule (List.take z (LL xs) ++ [((rd xs (↑z : Int).toNat (KK.dflt Kd.line)).fst,
 (rd xs (↑z : Int).toNat (KK.dflt Kd.line)).snd.fst)])]) (EndsAs 3 (ct_list φ xs) (VV.one (V1.c (C.slc 3 0 (List.take z (LL xs)).length none))) [Atom.bag φ, Atom.cells 64 [C.slc 2 0 xs.length none], Atom.arr
 Kd.line xs, Atom.arr Kd.rule (List.take z (LL xs))])) := by kernel_rfl
theorem vc_text (t : Tb) (φ : Bag KK) (xs : List Ln) : evFn (tab3 t) (ann_text φ xs) Tryz.f16 (ct_text t φ xs) = ( Enter 3 (inv_text φ xs) (fun (x : Nat) => True) ([VV.one (V1.c (C.ptr 1 0 0)), VV.any, VV.one (V1.c (C.str (ByteArray.mk (#[])))), VV.one (V1.c C.nils), VV.any, VV.any, VV.one (V1.c (C.ptr 1 0 0)), VV.one
 (V1.c (C.ptr 1 0 0)), VV.one (V1.c (C.ptr 1 0 0)), VV.one (V1.c (C.slc 2 0 xs.length none)), i64 (↑xs.length : Int), i64 (0 : Int)] ++ anys 21) [Atom.bag φ, Atom.cells 64 [C.slc 2 0 xs.length none], Atom.arr
 Kd.line xs] ∧ ∀ (z : Nat), z ≤ xs.length → ite2 (decide ((↑z : Int) < (↑xs.length : Int))) (((0 : Int) ≤ (↑z : Int) ∧ (↑z : Int) < (↑xs.length : Int)) ∧ (↑z : Int).toNat < xs.length ∧ True ∧ (↑z : Int).toNat
 < xs.length ∧ boxAt φ 0 0 = some (C.ls 83 t.hb t.ho 3 3) ∧ i64ok ((rd xs (↑z : Int).toNat (KK.dflt Kd.line)).fst - (1 : Int)) ∧ ((0 : Int) ≤ (rd xs (↑z : Int).toNat (KK.dflt Kd.line)).fst - (1 : Int) ∧
 (rd xs (↑z : Int).toNat (KK.dflt Kd.line)).fst - (1 : Int) < (3 : Int)) ∧ ∃ (xs_1 : List (KK.α Kd.hd)), ∃ (ob : Obj), HasV φ t.hb t.ho Kd.hd xs_1 ob ∧ ((rd xs (↑z : Int).toNat (KK.dflt Kd.line)).fst -
 (1 : Int)).toNat < xs_1.length ∧ (rd xs_1 ((rd xs (↑z : Int).toNat (KK.dflt Kd.line)).fst - (1 : Int)).toNat (KK.dflt Kd.hd)).snd.size + (rd xs (↑z : Int).toNat (KK.dflt Kd.line)).snd.fst.size ≤ 9223372036854775807
 ∧ True ∧ True ∧ (lineTs xs z).length = (lineTs xs z).length ∧ (1 ≤ 1 ∧ True) ∧ ((lineTs xs z).length + 1) * 16 ≤ 140737488355328 ∧ True ∧ True ∧ i64ok ((↑z : Int) + (1 : Int)) ∧ Enter 3 (inv_text φ xs)
 (fun (z' : Nat) => xs.length - z' < xs.length - z) ([VV.one (V1.c (C.ptr 1 0 0)), VV.any, VV.any, VV.one (V1.c (C.slc 6 0 ((lineTs xs z).length + 1) none)), VV.any, VV.one (V1.c (C.ptr 4 0 0)), VV.any,
 VV.any, VV.any, VV.one (V1.c (C.slc 2 0 xs.length none)), i64 (↑xs.length : Int), i64 ((↑z : Int) + (1 : Int))] ++ anys 21) [Atom.bag φ, Atom.cells 64 [C.slc 2 0 xs.length none], Atom.arr Kd.line xs, Atom.gone,
 Atom.cells 74 [C.int .i64 (rd xs (↑z : Int).toNat (KK.dflt Kd.line)).fst, C.str (rd xs (↑z : Int).toNat (KK.dflt Kd.line)).snd.fst, C.fn (54 : FuncId) [(57, (rd xs (↑z : Int).toNat (KK.dflt Kd.line)).snd.snd)]],
 Atom.arr Kd.str [(rd xs_1 ((rd xs (↑z : Int).toNat (KK.dflt Kd.line)).fst - (1 : Int)).toNat (KK.dflt Kd.hd)).snd.append (rd xs (↑z : Int).toNat (KK.dflt Kd.line)).snd.fst], Atom.arr Kd.str (lineTs xs
 z ++ [(rd xs_1 ((rd xs (↑z : Int).toNat (KK.dflt Kd.line)).fst - (1 : Int)).toNat (KK.dflt Kd.hd)).snd.append (rd xs (↑z : Int).toNat (KK.dflt Kd.line)).snd.fst])]) (((lineTs xs z).length ≤ 140737488355328
 ∧ (Lib.join (List.map (fun (x : ByteArray) => x.data.toList) (lineTs xs z)) [(10 : UInt8)]).length ≤ 140737488355328) ∧ Into (K := KK) 0 [] [3] [VV.one (V1.c (C.slc 3 0 (lineTs xs z).length none)), VV.one
 (V1.c (C.str (ByteArray.mk (#[(10 : UInt8)]))))] [Atom.bag φ, Atom.cells 64 [C.slc 2 0 xs.length none], Atom.arr Kd.line xs, Atom.arr Kd.str (lineTs xs z)] [VV.one (V1.c (C.slc 0 0 (lineTs xs z).length
 none)), VV.one (V1.c (C.str (ByteArray.mk (#[(10 : UInt8)]))))] [Atom.ro Kd.str (lineTs xs z)] ∧ ∀ (y : Unit), True → EndsAs 3 (ct_text t φ xs) (VV.one (V1.c (C.str (ljoin (lineTs xs z) (ByteArray.mk (#[(10
 : UInt8)])))))) [Atom.bag φ, Atom.cells 64 [C.slc 2 0 xs.length none], Atom.arr Kd.line xs, Atom.arr Kd.str (lineTs xs z)])) := by kernel_rfl
theorem vc_sameR (l : List Rl) : evFn tab0 (ann_sameR l) Tryz.f15 (ct_sameR l) = ( ite2 (decide ((↑l.length : Int) = (↑l.length : Int))) (Enter 2 (inv_sameR l) (fun (x : Nat) => True) ([VV.one (V1.c (C.slc 0 0 l.length none)), VV.one (V1.c (C.slc 1 0 l.length none)), VV.any, VV.any,
 boolv false, i64 (0 : Int)] ++ anys 20) [Atom.ro Kd.rule l, Atom.ro Kd.rule l] ∧ ∀ (z : Nat), z ≤ l.length → ite2 (decide ((↑z : Int) < (↑l.length : Int))) (((0 : Int) ≤ (↑z : Int) ∧ (↑z : Int) < (↑l.length
 : Int)) ∧ (↑z : Int).toNat < l.length ∧ True ∧ (↑z : Int).toNat < l.length ∧ ((0 : Int) ≤ (↑z : Int) ∧ (↑z : Int) < (↑l.length : Int)) ∧ (↑z : Int).toNat < l.length ∧ True ∧ (↑z : Int).toNat < l.length
 ∧ ite2 (decide ((rd l (↑z : Int).toNat (KK.dflt Kd.rule)).fst = (rd l (↑z : Int).toNat (KK.dflt Kd.rule)).fst) && (decide ((rd l (↑z : Int).toNat (KK.dflt Kd.rule)).snd.data = (rd l (↑z : Int).toNat (KK.dflt
 Kd.rule)).snd.data) && true)) (True ∧ i64ok ((↑z : Int) + (1 : Int)) ∧ Enter 2 (inv_sameR l) (fun (z' : Nat) => l.length - z' < l.length - z) ([VV.one (V1.c (C.slc 0 0 l.length none)), VV.one (V1.c (C.slc
 1 0 l.length none)), VV.any, VV.any, VV.any, i64 ((↑z : Int) + (1 : Int))] ++ anys 20) [Atom.ro Kd.rule l, Atom.ro Kd.rule l]) (True ∧ EndsAs 2 (ct_sameR l) (boolv false) [Atom.ro Kd.rule l, Atom.ro Kd.rule
 l])) (EndsAs 2 (ct_sameR l) (boolv true) [Atom.ro Kd.rule l, Atom.ro Kd.rule l])) (EndsAs 2 (ct_sameR l) (boolv false) [Atom.ro Kd.rule l, Atom.ro Kd.rule l])) := by kernel_rfl
theorem LL_len (xs : List Ln) : (LL xs).length = xs.length := by unfold LL; rw [List.length_map]
theorem list_ok (t : Tb) (φ : Bag KK) (xs : List Ln) : CtOk Tryz.prog 14 (ct_list φ xs) := CtOk_of KK_ok (tab3 t) (ann_list φ xs) (fn := Tryz.f14) rfl (fun _ _ => rfl) fun hn => by
  have hn : xs.length ≤ 1000 := hn
  rw [vc_list]
  simp only [Int.toNat_natCast]
  refine ⟨⟨(0 : Nat), [.rule], [0, 1, 2, 3], Nat.zero_le _, trivial, into_mk (by kernel_rfl) (by (repeat' first | exact trivial | exact rfl | apply And.intro)) (by (repeat' first | exact trivial | exact rfl | apply And.intro))⟩, ?_⟩
  intro i hi
  have hi : i ≤ xs.length := hi
  have hll : ((LL xs).take i).length = i := by rw [List.length_take, LL_len]; omega
  refine ite2_decide (fun hl => ?_) (fun hl => ?_)
  · have hl1 : i < xs.length := by omega
    have hq1 : ((LL xs).take i).length + 1 = ((LL xs).take (i + 1)).length := by rw [LL_succ hl1]; simp
    have hq2 := (LL_succ hl1).symm
    refine ⟨⟨by omega, hl⟩, hl1, trivial, hl1, trivial, ⟨Nat.le_refl _, trivial⟩, by rw [hll]; omega, by unfold i64ok; omega, (i + 1 : Nat), [], [0, 1, 2, 6], (show i + 1 ≤ xs.length by omega), (show xs.length - (i + 1) < xs.length - i by omega), into_mk (by kernel_rfl) (by (repeat' first | exact trivial | exact rfl | exact hq1 | exact hq2 | apply And.intro)) (by (repeat' first | exact trivial | exact rfl | exact hq1 | exact hq2 | apply And.intro))⟩
  · have hq1 : ((LL xs).take i).length = (LL xs).length := by rw [hll, LL_len]; omega
    have hq2 : (LL xs).take i = LL xs := List.take_of_length_le (by rw [LL_len]; omega)
    exact ⟨(), [], [0, 1, 2, 3], trivial, by (repeat' first | exact trivial | exact rfl | exact hq1 | exact hq2 | apply And.intro)⟩
theorem lineTs_succ {xs : List Ln} {z : Nat} (h : z < xs.length) : lineTs xs (z + 1) = lineTs xs z ++ [lineT (rl (rd (α := KK.α Kd.line) xs z (KK.dflt Kd.line)))] := by
  unfold lineTs
  rw [LL_succ h, List.map_append]
  rfl
theorem app_tx (a b : ByteArray) : a.append b = tx (a.data.toList ++ b.data.toList) := by
  apply ByteArray.ext
  apply Array.ext'
  have e : (a.append b).data = a.data ++ b.data := ByteArray.data_append
  rw [e]
  simp [tx]
theorem lsum_mem {l : List Rl} {r : Rl} (h : r ∈ l) : (lineL r).length + 1 ≤ lsum l := by
  induction l with
  | nil => simp at h
  | cons x t ih =>
    have e : lsum (x :: t) = (lineL x).length + 1 + lsum t := by unfold lsum; simp
    rcases List.mem_cons.1 h with rfl | h
    · omega
    · have := ih h; omega
theorem text_join (l : List Rl) : ljoin (l.map lineT) nl = textB l := by
  unfold ljoin textB
  rw [List.map_map]
  have e : ((fun x : ByteArray => x.data.toList) ∘ lineT) = lineL := by
    funext r
    show (tx (lineL r)).data.toList = lineL r
    exact tx_list _
  rw [e]
  rfl
theorem text_ok (t : Tb) (φ : Bag KK) (xs : List Ln) : CtOk Tryz.prog 16 (ct_text t φ xs) := CtOk_of KK_ok (tab3 t) (ann_text φ xs) (fn := Tryz.f16) rfl (fun _ _ => rfl) fun hn => by
  obtain ⟨⟨ht0, ht1, ht2⟩, hw, hn, hsum⟩ := hn
  rw [vc_text]
  simp only [Int.toNat_natCast]
  refine ⟨⟨(0 : Nat), [.str], [0, 1, 2, 3], Nat.zero_le _, trivial, into_mk (by kernel_rfl) (by (repeat' first | exact trivial | exact rfl | apply And.intro)) (by (repeat' first | exact trivial | exact rfl | apply And.intro))⟩, ?_⟩
  intro i hi
  have hi : i ≤ xs.length := hi
  have hll : (lineTs xs i).length = i := by unfold lineTs; rw [List.length_map, List.length_take, LL_len]; omega
  refine ite2_decide (fun hl => ?_) (fun hl => ?_)
  · have hl1 : i < xs.length := by omega
    have hm := rd_mem hl1
    obtain ⟨w1, w2⟩ := hw _ hm
    have hk : ((rd (α := KK.α Kd.line) xs i (KK.dflt Kd.line)).1 - 1).toNat < 3 := by omega
    have he : rd (α := KK.α Kd.hd) headsL ((rd (α := KK.α Kd.line) xs i (KK.dflt Kd.line)).1 - 1).toNat (KK.dflt Kd.hd) = ((((rd (α := KK.α Kd.line) xs i (KK.dflt Kd.line)).1 - 1).toNat : Int) + 1, ⟨(R.hd ((((rd (α := KK.α Kd.line) xs i (KK.dflt Kd.line)).1 - 1).toNat : Int) + 1)).toArray⟩) := heads_at _ hk
    have ek : (((rd (α := KK.α Kd.line) xs i (KK.dflt Kd.line)).1 - 1).toNat : Int) + 1 = (rd (α := KK.α Kd.line) xs i (KK.dflt Kd.line)).1 := by omega
    rw [ek] at he
    have hrl : rl (rd (α := KK.α Kd.line) xs i (KK.dflt Kd.line)) ∈ LL xs := List.mem_map_of_mem hm
    have hsz := lsum_mem hrl
    have hsz2 : (lineL (rl (rd (α := KK.α Kd.line) xs i (KK.dflt Kd.line)))).length = (R.hd (rd (α := KK.α Kd.line) xs i (KK.dflt Kd.line)).1).length + (rd (α := KK.α Kd.line) xs i (KK.dflt Kd.line)).2.1.size := by
      unfold lineL
      rw [List.length_append]
      simp [rl]
    have hq1 : (lineTs xs i).length + 1 = (lineTs xs (i + 1)).length := by rw [lineTs_succ hl1]; simp
    have hq2 : lineTs xs i ++ [(rd (α := KK.α Kd.hd) headsL ((rd (α := KK.α Kd.line) xs i (KK.dflt Kd.line)).1 - 1).toNat (KK.dflt Kd.hd)).2.append (rd (α := KK.α Kd.line) xs i (KK.dflt Kd.line)).2.1] = lineTs xs (i + 1) := by
      rw [lineTs_succ hl1, he, app_tx]
      rfl
    have hsz3 : (rd (α := KK.α Kd.hd) headsL ((rd (α := KK.α Kd.line) xs i (KK.dflt Kd.line)).1 - 1).toNat (KK.dflt Kd.hd)).2.size = (R.hd (rd (α := KK.α Kd.line) xs i (KK.dflt Kd.line)).1).length := by
      rw [he]; rfl
    have hsz4 : (rd (α := KK.α Kd.hd) headsL ((rd (α := KK.α Kd.line) xs i (KK.dflt Kd.line)).1 - 1).toNat (KK.dflt Kd.hd)).2.size + (rd (α := KK.α Kd.line) xs i (KK.dflt Kd.line)).2.1.size ≤ 9223372036854775807 := by rw [hsz3]; omega
    have bnd : ∀ v : Int, v = (rd (α := KK.α Kd.line) xs i (KK.dflt Kd.line)).1 → i64ok (v - 1) ∧ (0 ≤ v - 1 ∧ v - 1 < 3) := fun v hv => by
      unfold i64ok
      omega
    refine ⟨⟨by omega, hl⟩, hl1, trivial, hl1, boxAt_tab ht0, (bnd _ rfl).1, (bnd _ rfl).2, headsL, t.ob, ht2, hk, hsz4, trivial, trivial, trivial, ⟨Nat.le_refl _, trivial⟩, by rw [hll]; omega, trivial, trivial, by unfold i64ok; omega, (i + 1 : Nat), [], [0, 1, 2, 6], (show i + 1 ≤ xs.length by omega), (show xs.length - (i + 1) < xs.length - i by omega), into_mk (by kernel_rfl) (by (repeat' first | exact trivial | exact rfl | exact hq1 | exact hq2 | apply And.intro)) (by (repeat' first | exact trivial | exact rfl | exact hq1 | exact hq2 | apply And.intro))⟩
  · have e1 : lineTs xs i = (LL xs).map lineT := by
      unfold lineTs
      rw [List.take_of_length_le (by rw [LL_len]; omega)]
    have hq1 : ljoin (lineTs xs i) (ByteArray.mk #[10]) = textB (LL xs) := by rw [e1]; exact text_join _
    have h3 : (Lib.join ((lineTs xs i).map fun x => x.data.toList) [10]).length = (textB (LL xs)).size := by
      rw [← hq1]; simp [ljoin, ByteArray.size]
    have h4 := text_size (LL xs)
    refine ⟨⟨by omega, by have h5 := h3; omega⟩, into_mk (by kernel_rfl) (by (repeat' first | exact trivial | exact rfl | apply And.intro)) (by (repeat' first | exact trivial | exact rfl | apply And.intro)), fun _ _ => ?_⟩
    exact ⟨(), [], [0, 1, 2], trivial, by (repeat' first | exact trivial | exact rfl | exact hq1 | apply And.intro)⟩
theorem sameR_ok (l : List Rl) : CtOk Tryz.prog 15 (ct_sameR l) := CtOk_of KK_ok tab0 (ann_sameR l) (fn := Tryz.f15) rfl (fun _ _ => rfl) fun hn => by
  have hn : l.length ≤ 1000000 := hn
  rw [vc_sameR]
  simp only [Int.toNat_natCast]
  refine ite2_decide (fun _ => ⟨⟨(0 : Nat), [], [0, 1], Nat.zero_le _, trivial, into_mk (by kernel_rfl) (by (repeat' first | exact trivial | exact rfl | apply And.intro)) (by (repeat' first | exact trivial | exact rfl | apply And.intro))⟩, fun i hi => ?_⟩) (fun h => absurd trivial h)
  have hi : i ≤ l.length := hi
  refine ite2_decide (fun hl => ?_) (fun hl => ⟨(), [], [0, 1], trivial, by (repeat' first | exact trivial | exact rfl | apply And.intro)⟩)
  have hl1 : i < l.length := by omega
  refine ⟨⟨by omega, hl⟩, hl1, trivial, hl1, ⟨by omega, hl⟩, hl1, trivial, hl1, ite2_mk (fun _ => ⟨trivial, by unfold i64ok; omega, (i + 1 : Nat), [], [0, 1], (show i + 1 ≤ l.length by omega), (show l.length - (i + 1) < l.length - i by omega), into_mk (by kernel_rfl) (by (repeat' first | exact trivial | exact rfl | apply And.intro)) (by (repeat' first | exact trivial | exact rfl | apply And.intro))⟩) (fun h => ?_)⟩
  simp at h
end Go.Proofs.YtoidibkcdkdneaaGreatDoor.T
end
section
namespace Go.Proofs.YtoidibkcdkdneaaGreatDoor.T
open Go.Proofs.YtoidibkcdkdneaaGreatDoor.E Go.Proofs.YtoidibkcdkdneaaGreatDoor.MStr Go.Proofs.YtoidibkcdkdneaaGreatDoor.R
set_option maxRecDepth 100000
set_option linter.unusedVariables false
/-- The rules that stand at a name: their lines, what is to be laid besides, the lines' name. -/
def getR (q : Nat) (H : VH KK) : Option (List Ln × List Kd × Nat) := match at_ H q with
  | .cells _ [.slc a _ _ _] => match at_ H a with
    | .arr .line xs => some (xs, [], a)
    | _ => none
  | .cells _ [.nils] => some ([], [.line], H.length)
  | _ => none
def isGood : PR → Bool | .good _ => true | .bad _ _ => false
def badOf : PR → Int × Int | .good _ => (0, 0) | .bad k e => (k, e)
def goodOf : PR → List Rl | .good l => l | .bad _ _ => []
def ct_parse (s : ByteArray) (t : Tb) (φ : Bag KK) (g : Bool) : Ct KK := { need := s.size ≤ 1000000 ∧ HasT t φ ∧ isGood (parseB s) = g, pre := [.bag φ], args := [strv s], Y := Bag KK × List Ln, ok := fun y => Ext φ y.1 ∧ (g = true → GoodL y.1 y.2 ∧ LL y.2 = goodOf (parseB s)), ret := fun y => match g with | true => .tup [.c (.ptr 1 0 0), .c (.int .i64 0), .c (.int .i64 0)] | false => .tup [.c .nilp, .c (.int .i64 (badOf (parseB s)).1), .c (.int .i64 (badOf (parseB s)).2)], post := fun y => match g with | true => [.bag y.1, .cells 64 [.slc 2 0 y.2.length none], .arr .line y.2] | false => [.bag y.1] }
def parseOk (s : ByteArray) (φ : Bag KK) (i : Nat) (ψ : Bag KK) (ys : List Ln) : Prop := i ≤ (linesB s).length ∧ Ext φ ψ ∧ GoodL ψ ys ∧ ys.length ≤ 64 ∧ parseL i (LL ys) ((linesB s).drop i) = parseB s
def inv_parse (s : ByteArray) (φ : Bag KK) : Inv KK := { X := Nat × Bag KK × List Ln, fr := fun z => [strv s, .any, .c .nilp, i64 0, i64 0, .c (.ptr 1 0 0), .any, .any, .any, .any, .any, .any, .any, .any, .any, .any, .any, .c (.slc 3 0 (linesB s).length none), i64 (linesB s).length, i64 z.1] ++ anys 51, H := fun z => [.bag z.2.1, .cells 64 [.slc 2 0 z.2.2.length none], .arr .line z.2.2, .arr .str (linesB s)], ok := fun z => parseOk s φ z.1 z.2.1 z.2.2, meas := fun z => (linesB s).length - z.1 }
def ann_parse (s : ByteArray) (φ : Bag KK) : Ann KK := { loop := fun _ _ _ => some (inv_parse s φ), cut := fun _ _ _ => none, keep := some 20 }
def ct_mirror (φ : Bag KK) (xs : List Ln) : Ct KK := { need := xs.length ≤ 1000, pre := rulesH φ xs, args := [.c (.ptr 1 0 0)], Y := Bag KK × List Ln, ok := fun y => Ext φ y.1 ∧ GoodL y.1 y.2 ∧ LL y.2 = mirB (LL xs), ret := fun _ => .c (.ptr 3 0 0), post := fun y => [.bag y.1, .cells 64 [.slc 2 0 xs.length none], .arr .line xs, .cells 64 [.slc 4 0 y.2.length none], .arr .line y.2] }
def mirOk (φ : Bag KK) (xs : List Ln) (i : Nat) (ψ : Bag KK) (ys : List Ln) : Prop := i ≤ (LL xs).length ∧ Ext φ ψ ∧ GoodL ψ ys ∧ LL ys = mirB ((LL xs).take i)
def mirH (ψ : Bag KK) (xs ys : List Ln) : VH KK := [.bag ψ, .cells 64 [.slc 2 0 xs.length none], .arr .line xs, .cells 64 [.slc 4 0 ys.length none], .arr .line ys, .arr .rule (LL xs)]
def inv_mirror (φ : Bag KK) (xs : List Ln) : Inv KK := { X := Nat × Bag KK × List Ln, fr := fun z => [.c (.ptr 1 0 0), .any, .any, .c (.ptr 3 0 0), .any, .any, .any, .any, .c (.slc 5 0 (LL xs).length none), i64 (LL xs).length, i64 z.1] ++ anys 24, H := fun z => mirH z.2.1 xs z.2.2, ok := fun z => mirOk φ xs z.1 z.2.1 z.2.2, meas := fun z => (LL xs).length - z.1 }
def ann_mirror (φ : Bag KK) (xs : List Ln) : Ann KK := { loop := fun _ _ _ => some (inv_mirror φ xs), cut := fun id fr H => none, keep := some 11 }
def tab4 (t : Tb) : Tab Tryz.prog KK := ⟨base t, fun f args H => match f, args, at_ H 0 with
  | 5, [], _ => some (ct_none, [], [])
  | 22, [.one (.agg [.int _ w, .str q])], .bag φ => some (ct_line w q φ, [], [0])
  | 14, [.one (.c (.ptr q _ _))], .bag φ => match getR q H with
    | some (xs, ks, a) => some (ct_list φ xs, ks, [0, q, a])
    | none => none
  | 19, [.one (.c (.str s)), _], .bag φ => some (ct_ssplit s t φ, [], [0])
  | 20, [.one (.c (.str s))], .bag φ => some (ct_read s t φ, [], [0])
  | 21, [.one (.c (.str s)), .one (.c (.str p))], _ => some (ct_match s p, [], [])
  | _, _, _ => none, fun f args H ct ks τ h => by
    split at h
    · cases h; exact none_ok
    · cases h; exact line_ok _ _ _
    · split at h
      · cases h; exact list_ok t _ _
      · cases h
    · cases h; exact ssplit_ok _ _ _
    · cases h; exact read_ok _ _ _
    · cases h; exact match_ok _ _
    · cases h⟩
theorem vc_parse (s : ByteArray) (t : Tb) (φ : Bag KK) (g : Bool) : evFn (tab4 t) (ann_parse s φ) Tryz.f7 (ct_parse s t φ g) = ( ite2 (decide ((4000 : Int) < (↑s.size : Int))) (EndsAs 1 (ct_parse s t φ g) (VV.tup [V1.c C.nilp, V1.c (C.int .i64 (0 : Int)), V1.c (C.int .i64 (110 : Int))]) [Atom.bag φ]) (True ∧ Into (K := KK) 0 []
 [] [] [Atom.bag φ] [] [] ∧ ∀ (y : Unit), True → (s.size ≤ 1000000000 ∧ HasT t φ) ∧ Into (K := KK) 0 [] [0] [VV.one (V1.c (C.str s)), VV.one (V1.c (C.str (ByteArray.mk (#[(10 : UInt8)]))))] [Atom.bag φ,
 Atom.cells 64 [C.nils]] [VV.one (V1.c (C.str s)), VV.one (V1.c (C.str (ByteArray.mk (#[(10 : UInt8)]))))] [Atom.bag φ] ∧ ∀ (y : Unit), True → Enter 1 (inv_parse s φ) (fun (x : Nat × Bag KK × List Ln) =>
 True) ([VV.one (V1.c (C.str s)), VV.any, VV.one (V1.c C.nilp), i64 (0 : Int), i64 (0 : Int), VV.one (V1.c (C.ptr 1 0 0)), VV.any, VV.any, VV.any, VV.any, VV.any, VV.any, VV.one (V1.c (C.str s)), i64 (↑s.size
 : Int), boolv false, VV.one (V1.c (C.ptr 1 0 0)), VV.one (V1.c (C.str s)), VV.one (V1.c (C.slc 2 0 (linesB s).length none)), i64 (↑(linesB s).length : Int), i64 (0 : Int)] ++ anys 51) [Atom.bag φ, Atom.cells
 64 [C.nils], Atom.arr Kd.str (linesB s)] ∧ ∀ (z : Nat × Bag KK × List Ln), parseOk s φ z.fst z.snd.fst z.snd.snd → ite2 (decide ((↑z.fst : Int) < (↑(linesB s).length : Int))) (((0 : Int) ≤ (↑z.fst : Int)
 ∧ (↑z.fst : Int) < (↑(linesB s).length : Int)) ∧ (↑z.fst : Int).toNat < (linesB s).length ∧ True ∧ (↑z.fst : Int).toNat < (linesB s).length ∧ ite2 (decide (ByteArray.toList (rd (linesB s) (↑z.fst : Int).toNat
 (ByteArray.mk (#[]))) = (ByteArray.mk (#[])).toList)) (i64ok ((↑z.fst : Int) + (1 : Int)) ∧ Enter 1 (inv_parse s φ) (fun (z' : Nat × Bag KK × List Ln) => (linesB s).length - z'.fst < (linesB s).length
 - z.fst) ([VV.one (V1.c (C.str s)), VV.any, VV.one (V1.c C.nilp), i64 (0 : Int), i64 (0 : Int), VV.one (V1.c (C.ptr 1 0 0)), i64 (↑z.fst : Int), VV.one (V1.c (C.str (rd (linesB s) (↑z.fst : Int).toNat
 (ByteArray.mk (#[]))))), VV.any, VV.any, VV.any, VV.any, VV.any, VV.any, VV.any, VV.any, VV.any, VV.one (V1.c (C.slc 3 0 (linesB s).length none)), i64 (↑(linesB s).length : Int), i64 ((↑z.fst : Int) +
 (1 : Int))] ++ anys 51) [Atom.bag z.snd.fst, Atom.cells 64 [C.slc 2 0 z.snd.snd.length none], Atom.arr Kd.line z.snd.snd, Atom.arr Kd.str (linesB s)]) (((0 : Int) ≤ (0 : Int) ∧ (0 : Int) < (↑(ByteArray.size
 (rd (linesB s) (↑z.fst : Int).toNat (ByteArray.mk (#[])))) : Int)) ∧ ite2 (decide (bt (rd (linesB s) (↑z.fst : Int).toNat (ByteArray.mk (#[]))) 0 = (35 : Int))) (i64ok ((↑z.fst : Int) + (1 : Int)) ∧ Enter
 1 (inv_parse s φ) (fun (z' : Nat × Bag KK × List Ln) => (linesB s).length - z'.fst < (linesB s).length - z.fst) ([VV.one (V1.c (C.str s)), VV.any, VV.one (V1.c C.nilp), i64 (0 : Int), i64 (0 : Int), VV.one
 (V1.c (C.ptr 1 0 0)), i64 (↑z.fst : Int), VV.one (V1.c (C.str (rd (linesB s) (↑z.fst : Int).toNat (ByteArray.mk (#[]))))), VV.any, VV.any, VV.any, VV.any, VV.any, VV.any, VV.any, VV.any, VV.any, VV.one
 (V1.c (C.slc 3 0 (linesB s).length none)), i64 (↑(linesB s).length : Int), i64 ((↑z.fst : Int) + (1 : Int))] ++ anys 51) [Atom.bag z.snd.fst, Atom.cells 64 [C.slc 2 0 z.snd.snd.length none], Atom.arr Kd.line
 z.snd.snd, Atom.arr Kd.str (linesB s)]) (HasT t z.snd.fst ∧ Into (K := KK) 0 [] [0] [VV.one (V1.c (C.str (rd (linesB s) (↑z.fst : Int).toNat (ByteArray.mk (#[])))))] [Atom.bag z.snd.fst, Atom.cells 64
 [C.slc 2 0 z.snd.snd.length none], Atom.arr Kd.line z.snd.snd, Atom.arr Kd.str (linesB s)] [VV.one (V1.c (C.str (rd (linesB s) (↑z.fst : Int).toNat (ByteArray.mk (#[])))))] [Atom.bag z.snd.fst] ∧ ∀ (y
 : Unit), True → ite2 (readR (rd (linesB s) (↑z.fst : Int).toNat (ByteArray.mk (#[])))).snd.snd (ite2 (decide ((↑z.snd.snd.length : Int) = (64 : Int))) (i64ok ((↑z.fst : Int) + (1 : Int)) ∧ EndsAs 1 (ct_parse
 s t φ g) (VV.tup [V1.c C.nilp, V1.c (C.int .i64 ((↑z.fst : Int) + (1 : Int))), V1.c (C.int .i64 (111 : Int))]) [Atom.bag z.snd.fst, Atom.cells 64 [C.slc 2 0 z.snd.snd.length none], Atom.arr Kd.line z.snd.snd,
 Atom.arr Kd.str (linesB s), Atom.cells 57 [C.int .i64 (readR (rd (linesB s) (↑z.fst : Int).toNat (ByteArray.mk (#[])))).fst, C.str (readR (rd (linesB s) (↑z.fst : Int).toNat (ByteArray.mk (#[])))).snd.fst]])
 (0 ≤ 1000000000 ∧ Into (K := KK) 0 [] [] [VV.one (V1.c (C.str (readR (rd (linesB s) (↑z.fst : Int).toNat (ByteArray.mk (#[])))).snd.fst)), VV.one (V1.c (C.str (ByteArray.mk (#[]))))] [Atom.bag z.snd.fst,
 Atom.cells 64 [C.slc 2 0 z.snd.snd.length none], Atom.arr Kd.line z.snd.snd, Atom.arr Kd.str (linesB s), Atom.cells 57 [C.int .i64 (readR (rd (linesB s) (↑z.fst : Int).toNat (ByteArray.mk (#[])))).fst,
 C.str (readR (rd (linesB s) (↑z.fst : Int).toNat (ByteArray.mk (#[])))).snd.fst]] [VV.one (V1.c (C.str (readR (rd (linesB s) (↑z.fst : Int).toNat (ByteArray.mk (#[])))).snd.fst)), VV.one (V1.c (C.str (ByteArray.mk
 (#[]))))] [] ∧ ∀ (y : Unit), True → ite2 (decide ((Hand.matchB (readR (rd (linesB s) (↑z.fst : Int).toNat (ByteArray.mk (#[])))).snd.fst (ByteArray.mk (#[]))).snd = (0 : Int))) (True ∧ True ∧ Into (K :=
 KK) 0 [] [0] [VV.one (V1.agg [C.int .i64 (readR (rd (linesB s) (↑z.fst : Int).toNat (ByteArray.mk (#[])))).fst, C.str (readR (rd (linesB s) (↑z.fst : Int).toNat (ByteArray.mk (#[])))).snd.fst])] [Atom.bag
 z.snd.fst, Atom.cells 64 [C.slc 2 0 z.snd.snd.length none], Atom.arr Kd.line z.snd.snd, Atom.arr Kd.str (linesB s), Atom.cells 57 [C.int .i64 (readR (rd (linesB s) (↑z.fst : Int).toNat (ByteArray.mk (#[])))).fst,
 C.str (readR (rd (linesB s) (↑z.fst : Int).toNat (ByteArray.mk (#[])))).snd.fst]] [VV.one (V1.agg [C.int .i64 (readR (rd (linesB s) (↑z.fst : Int).toNat (ByteArray.mk (#[])))).fst, C.str (readR (rd (linesB
 s) (↑z.fst : Int).toNat (ByteArray.mk (#[])))).snd.fst])] [Atom.bag z.snd.fst] ∧ ∀ (y : Nat), z.snd.fst y = none → (VV.one (V1.c (C.slc 2 0 z.snd.snd.length none)) = VV.one (V1.c (C.slc 2 0 z.snd.snd.length
 none)) ∧ True) ∧ (VV.one (V1.c (C.slc 2 0 z.snd.snd.length none)) = VV.one (V1.c (C.slc 2 0 z.snd.snd.length none)) ∧ True) ∧ z.snd.snd.length = z.snd.snd.length ∧ (1 ≤ 1 ∧ True) ∧ (z.snd.snd.length +
 1) * 32 ≤ 140737488355328 ∧ True ∧ True ∧ i64ok ((↑z.fst : Int) + (1 : Int)) ∧ Enter 1 (inv_parse s φ) (fun (z' : Nat × Bag KK × List Ln) => (linesB s).length - z'.fst < (linesB s).length - z.fst) ([VV.one
 (V1.c (C.str s)), VV.any, VV.one (V1.c C.nilp), i64 (0 : Int), i64 (0 : Int), VV.one (V1.c (C.ptr 1 0 0)), i64 (↑z.fst : Int), VV.one (V1.c (C.str (rd (linesB s) (↑z.fst : Int).toNat (ByteArray.mk (#[]))))),
 VV.one (V1.c (C.ptr 4 0 0)), VV.one (V1.c (C.bool (readR (rd (linesB s) (↑z.fst : Int).toNat (ByteArray.mk (#[])))).snd.snd)), VV.one (V1.c (C.bool (Hand.matchB (readR (rd (linesB s) (↑z.fst : Int).toNat
 (ByteArray.mk (#[])))).snd.fst (ByteArray.mk (#[]))).fst)), VV.one (V1.c (C.int .i64 (Hand.matchB (readR (rd (linesB s) (↑z.fst : Int).toNat (ByteArray.mk (#[])))).snd.fst (ByteArray.mk (#[]))).snd)),
 VV.any, VV.any, VV.any, VV.any, VV.any, VV.one (V1.c (C.slc 3 0 (linesB s).length none)), i64 (↑(linesB s).length : Int), i64 ((↑z.fst : Int) + (1 : Int))] ++ anys 51) [Atom.bag (bput z.snd.fst y (ruleI
 (readR (rd (linesB s) (↑z.fst : Int).toNat (ByteArray.mk (#[])))).fst (readR (rd (linesB s) (↑z.fst : Int).toNat (ByteArray.mk (#[])))).snd.fst)), Atom.cells 64 [C.slc 6 0 (z.snd.snd.length + 1) none],
 Atom.gone, Atom.arr Kd.str (linesB s), Atom.cells 57 [C.int .i64 (readR (rd (linesB s) (↑z.fst : Int).toNat (ByteArray.mk (#[])))).fst, C.str (readR (rd (linesB s) (↑z.fst : Int).toNat (ByteArray.mk (#[])))).snd.fst],
 Atom.arr Kd.line [((readR (rd (linesB s) (↑z.fst : Int).toNat (ByteArray.mk (#[])))).fst, (readR (rd (linesB s) (↑z.fst : Int).toNat (ByteArray.mk (#[])))).snd.fst, y)], Atom.arr Kd.line (z.snd.snd ++
 [((readR (rd (linesB s) (↑z.fst : Int).toNat (ByteArray.mk (#[])))).fst, (readR (rd (linesB s) (↑z.fst : Int).toNat (ByteArray.mk (#[])))).snd.fst, y)])]) (i64ok ((↑z.fst : Int) + (1 : Int)) ∧ EndsAs 1
 (ct_parse s t φ g) (VV.tup [V1.c C.nilp, V1.c (C.int .i64 ((↑z.fst : Int) + (1 : Int))), V1.c (C.int .i64 (113 : Int))]) [Atom.bag z.snd.fst, Atom.cells 64 [C.slc 2 0 z.snd.snd.length none], Atom.arr Kd.line
 z.snd.snd, Atom.arr Kd.str (linesB s), Atom.cells 57 [C.int .i64 (readR (rd (linesB s) (↑z.fst : Int).toNat (ByteArray.mk (#[])))).fst, C.str (readR (rd (linesB s) (↑z.fst : Int).toNat (ByteArray.mk (#[])))).snd.fst]])))
 (i64ok ((↑z.fst : Int) + (1 : Int)) ∧ EndsAs 1 (ct_parse s t φ g) (VV.tup [V1.c C.nilp, V1.c (C.int .i64 ((↑z.fst : Int) + (1 : Int))), V1.c (C.int .i64 (112 : Int))]) [Atom.bag z.snd.fst, Atom.cells 64
 [C.slc 2 0 z.snd.snd.length none], Atom.arr Kd.line z.snd.snd, Atom.arr Kd.str (linesB s), Atom.cells 57 [C.int .i64 (readR (rd (linesB s) (↑z.fst : Int).toNat (ByteArray.mk (#[])))).fst, C.str (readR
 (rd (linesB s) (↑z.fst : Int).toNat (ByteArray.mk (#[])))).snd.fst]])))) (EndsAs 1 (ct_parse s t φ g) (VV.tup [V1.c (C.ptr 1 0 0), V1.c (C.int .i64 (0 : Int)), V1.c (C.int .i64 (0 : Int))]) [Atom.bag z.snd.fst,
 Atom.cells 64 [C.slc 2 0 z.snd.snd.length none], Atom.arr Kd.line z.snd.snd, Atom.arr Kd.str (linesB s)]))) := by kernel_rfl
theorem vc_mirror (t : Tb) (φ : Bag KK) (xs : List Ln) : evFn (tab4 t) (ann_mirror φ xs) Tryz.f8 (ct_mirror φ xs) = ( True ∧ Into (K := KK) 0 [] [] [] [Atom.bag φ, Atom.cells 64 [C.slc 2 0 xs.length none], Atom.arr Kd.line xs] [] [] ∧ ∀ (y : Unit), True → xs.length ≤ 1000 ∧ Into (K := KK) 0 [] [0, 1, 2] [VV.one (V1.c
 (C.ptr 1 0 0))] [Atom.bag φ, Atom.cells 64 [C.slc 2 0 xs.length none], Atom.arr Kd.line xs, Atom.cells 64 [C.nils]] [VV.one (V1.c (C.ptr 1 0 0))] [Atom.bag φ, Atom.cells 64 [C.slc 2 0 xs.length none],
 Atom.arr Kd.line xs] ∧ ∀ (y : Unit), True → Enter 3 (inv_mirror φ xs) (fun (x : Nat × Bag KK × List Ln) => True) ([VV.one (V1.c (C.ptr 1 0 0)), VV.any, VV.one (V1.c C.nilp), VV.one (V1.c (C.ptr 3 0 0)),
 VV.any, VV.any, VV.one (V1.c (C.ptr 3 0 0)), VV.one (V1.c (C.ptr 1 0 0)), VV.one (V1.c (C.slc 4 0 (LL xs).length none)), i64 (↑(LL xs).length : Int), i64 (0 : Int)] ++ anys 24) [Atom.bag φ, Atom.cells
 64 [C.slc 2 0 xs.length none], Atom.arr Kd.line xs, Atom.cells 64 [C.nils], Atom.arr Kd.rule (LL xs)] ∧ ∀ (z : Nat × Bag KK × List Ln), mirOk φ xs z.fst z.snd.fst z.snd.snd → ite2 (decide ((↑z.fst : Int)
 < (↑(LL xs).length : Int))) (((0 : Int) ≤ (↑z.fst : Int) ∧ (↑z.fst : Int) < (↑(LL xs).length : Int)) ∧ (↑z.fst : Int).toNat < (LL xs).length ∧ True ∧ (↑z.fst : Int).toNat < (LL xs).length ∧ ite2 (decide
 ((rd (LL xs) (↑z.fst : Int).toNat (KK.dflt Kd.rule)).fst = (2 : Int))) (True ∧ True ∧ Into (K := KK) 0 [] [0] [VV.one (V1.agg [C.int .i64 (3 : Int), C.str (rd (LL xs) (↑z.fst : Int).toNat (KK.dflt Kd.rule)).snd])]
 [Atom.bag z.snd.fst, Atom.cells 64 [C.slc 2 0 xs.length none], Atom.arr Kd.line xs, Atom.cells 64 [C.slc 4 0 z.snd.snd.length none], Atom.arr Kd.line z.snd.snd, Atom.arr Kd.rule (LL xs), Atom.cells 57
 [C.int .i64 (3 : Int), C.str (rd (LL xs) (↑z.fst : Int).toNat (KK.dflt Kd.rule)).snd]] [VV.one (V1.agg [C.int .i64 (3 : Int), C.str (rd (LL xs) (↑z.fst : Int).toNat (KK.dflt Kd.rule)).snd])] [Atom.bag
 z.snd.fst] ∧ ∀ (y : Nat), z.snd.fst y = none → (VV.one (V1.c (C.slc 4 0 z.snd.snd.length none)) = VV.one (V1.c (C.slc 4 0 z.snd.snd.length none)) ∧ True) ∧ (VV.one (V1.c (C.slc 4 0 z.snd.snd.length none))
 = VV.one (V1.c (C.slc 4 0 z.snd.snd.length none)) ∧ True) ∧ z.snd.snd.length = z.snd.snd.length ∧ (1 ≤ 1 ∧ True) ∧ (z.snd.snd.length + 1) * 32 ≤ 140737488355328 ∧ True ∧ True ∧ i64ok ((↑z.fst : Int) +
 (1 : Int)) ∧ Enter 3 (inv_mirror φ xs) (fun (z' : Nat × Bag KK × List Ln) => (LL xs).length - z'.fst < (LL xs).length - z.fst) ([VV.one (V1.c (C.ptr 1 0 0)), VV.any, VV.any, VV.one (V1.c (C.ptr 3 0 0)),
 VV.any, VV.one (V1.c (C.ptr 6 0 0)), VV.any, VV.any, VV.one (V1.c (C.slc 5 0 (LL xs).length none)), i64 (↑(LL xs).length : Int), i64 ((↑z.fst : Int) + (1 : Int))] ++ anys 24) [Atom.bag (bput z.snd.fst
 y (ruleI (3 : Int) (rd (LL xs) (↑z.fst : Int).toNat (KK.dflt Kd.rule)).snd)), Atom.cells 64 [C.slc 2 0 xs.length none], Atom.arr Kd.line xs, Atom.cells 64 [C.slc 8 0 (z.snd.snd.length + 1) none], Atom.gone,
 Atom.arr Kd.rule (LL xs), Atom.cells 57 [C.int .i64 (3 : Int), C.str (rd (LL xs) (↑z.fst : Int).toNat (KK.dflt Kd.rule)).snd], Atom.arr Kd.line [((3 : Int), (rd (LL xs) (↑z.fst : Int).toNat (KK.dflt Kd.rule)).snd,
 y)], Atom.arr Kd.line (z.snd.snd ++ [((3 : Int), (rd (LL xs) (↑z.fst : Int).toNat (KK.dflt Kd.rule)).snd, y)])]) (ite2 (decide ((rd (LL xs) (↑z.fst : Int).toNat (KK.dflt Kd.rule)).fst = (3 : Int))) (True
 ∧ True ∧ Into (K := KK) 0 [] [0] [VV.one (V1.agg [C.int .i64 (2 : Int), C.str (rd (LL xs) (↑z.fst : Int).toNat (KK.dflt Kd.rule)).snd])] [Atom.bag z.snd.fst, Atom.cells 64 [C.slc 2 0 xs.length none], Atom.arr
 Kd.line xs, Atom.cells 64 [C.slc 4 0 z.snd.snd.length none], Atom.arr Kd.line z.snd.snd, Atom.arr Kd.rule (LL xs), Atom.cells 57 [C.int .i64 (2 : Int), C.str (rd (LL xs) (↑z.fst : Int).toNat (KK.dflt Kd.rule)).snd]]
 [VV.one (V1.agg [C.int .i64 (2 : Int), C.str (rd (LL xs) (↑z.fst : Int).toNat (KK.dflt Kd.rule)).snd])] [Atom.bag z.snd.fst] ∧ ∀ (y : Nat), z.snd.fst y = none → (VV.one (V1.c (C.slc 4 0 z.snd.snd.length
 none)) = VV.one (V1.c (C.slc 4 0 z.snd.snd.length none)) ∧ True) ∧ (VV.one (V1.c (C.slc 4 0 z.snd.snd.length none)) = VV.one (V1.c (C.slc 4 0 z.snd.snd.length none)) ∧ True) ∧ z.snd.snd.length = z.snd.snd.length
 ∧ (1 ≤ 1 ∧ True) ∧ (z.snd.snd.length + 1) * 32 ≤ 140737488355328 ∧ True ∧ True ∧ i64ok ((↑z.fst : Int) + (1 : Int)) ∧ Enter 3 (inv_mirror φ xs) (fun (z' : Nat × Bag KK × List Ln) => (LL xs).length - z'.fst
 < (LL xs).length - z.fst) ([VV.one (V1.c (C.ptr 1 0 0)), VV.any, VV.any, VV.one (V1.c (C.ptr 3 0 0)), VV.any, VV.one (V1.c (C.ptr 6 0 0)), VV.any, VV.any, VV.one (V1.c (C.slc 5 0 (LL xs).length none)),
 i64 (↑(LL xs).length : Int), i64 ((↑z.fst : Int) + (1 : Int))] ++ anys 24) [Atom.bag (bput z.snd.fst y (ruleI (2 : Int) (rd (LL xs) (↑z.fst : Int).toNat (KK.dflt Kd.rule)).snd)), Atom.cells 64 [C.slc 2
 0 xs.length none], Atom.arr Kd.line xs, Atom.cells 64 [C.slc 8 0 (z.snd.snd.length + 1) none], Atom.gone, Atom.arr Kd.rule (LL xs), Atom.cells 57 [C.int .i64 (2 : Int), C.str (rd (LL xs) (↑z.fst : Int).toNat
 (KK.dflt Kd.rule)).snd], Atom.arr Kd.line [((2 : Int), (rd (LL xs) (↑z.fst : Int).toNat (KK.dflt Kd.rule)).snd, y)], Atom.arr Kd.line (z.snd.snd ++ [((2 : Int), (rd (LL xs) (↑z.fst : Int).toNat (KK.dflt
 Kd.rule)).snd, y)])]) (True ∧ True ∧ Into (K := KK) 0 [] [0] [VV.one (V1.agg [C.int .i64 (rd (LL xs) (↑z.fst : Int).toNat (KK.dflt Kd.rule)).fst, C.str (rd (LL xs) (↑z.fst : Int).toNat (KK.dflt Kd.rule)).snd])]
 [Atom.bag z.snd.fst, Atom.cells 64 [C.slc 2 0 xs.length none], Atom.arr Kd.line xs, Atom.cells 64 [C.slc 4 0 z.snd.snd.length none], Atom.arr Kd.line z.snd.snd, Atom.arr Kd.rule (LL xs), Atom.cells 57
 [C.int .i64 (rd (LL xs) (↑z.fst : Int).toNat (KK.dflt Kd.rule)).fst, C.str (rd (LL xs) (↑z.fst : Int).toNat (KK.dflt Kd.rule)).snd]] [VV.one (V1.agg [C.int .i64 (rd (LL xs) (↑z.fst : Int).toNat (KK.dflt
 Kd.rule)).fst, C.str (rd (LL xs) (↑z.fst : Int).toNat (KK.dflt Kd.rule)).snd])] [Atom.bag z.snd.fst] ∧ ∀ (y : Nat), z.snd.fst y = none → (VV.one (V1.c (C.slc 4 0 z.snd.snd.length none)) = VV.one (V1.c
 (C.slc 4 0 z.snd.snd.length none)) ∧ True) ∧ (VV.one (V1.c (C.slc 4 0 z.snd.snd.length none)) = VV.one (V1.c (C.slc 4 0 z.snd.snd.length none)) ∧ True) ∧ z.snd.snd.length = z.snd.snd.length ∧ (1 ≤ 1 ∧
 True) ∧ (z.snd.snd.length + 1) * 32 ≤ 140737488355328 ∧ True ∧ True ∧ i64ok ((↑z.fst : Int) + (1 : Int)) ∧ Enter 3 (inv_mirror φ xs) (fun (z' : Nat × Bag KK × List Ln) => (LL xs).length - z'.fst < (LL
 xs).length - z.fst) ([VV.one (V1.c (C.ptr 1 0 0)), VV.any, VV.any, VV.one (V1.c (C.ptr 3 0 0)), VV.any, VV.one (V1.c (C.ptr 6 0 0)), VV.any, VV.any, VV.one (V1.c (C.slc 5 0 (LL xs).length none)), i64 (↑(LL
 xs).length : Int), i64 ((↑z.fst : Int) + (1 : Int))] ++ anys 24) [Atom.bag (bput z.snd.fst y (ruleI (rd (LL xs) (↑z.fst : Int).toNat (KK.dflt Kd.rule)).fst (rd (LL xs) (↑z.fst : Int).toNat (KK.dflt Kd.rule)).snd)),
 Atom.cells 64 [C.slc 2 0 xs.length none], Atom.arr Kd.line xs, Atom.cells 64 [C.slc 8 0 (z.snd.snd.length + 1) none], Atom.gone, Atom.arr Kd.rule (LL xs), Atom.cells 57 [C.int .i64 (rd (LL xs) (↑z.fst
 : Int).toNat (KK.dflt Kd.rule)).fst, C.str (rd (LL xs) (↑z.fst : Int).toNat (KK.dflt Kd.rule)).snd], Atom.arr Kd.line [((rd (LL xs) (↑z.fst : Int).toNat (KK.dflt Kd.rule)).fst, (rd (LL xs) (↑z.fst : Int).toNat
 (KK.dflt Kd.rule)).snd, y)], Atom.arr Kd.line (z.snd.snd ++ [((rd (LL xs) (↑z.fst : Int).toNat (KK.dflt Kd.rule)).fst, (rd (LL xs) (↑z.fst : Int).toNat (KK.dflt Kd.rule)).snd, y)])]))) (EndsAs 3 (ct_mirror
 φ xs) (VV.one (V1.c (C.ptr 3 0 0))) [Atom.bag z.snd.fst, Atom.cells 64 [C.slc 2 0 xs.length none], Atom.arr Kd.line xs, Atom.cells 64 [C.slc 4 0 z.snd.snd.length none], Atom.arr Kd.line z.snd.snd, Atom.arr
 Kd.rule (LL xs)])) := by kernel_rfl
theorem LL_snoc (ys : List Ln) (x : Ln) : LL (ys ++ [x]) = LL ys ++ [rl x] := by unfold LL; rw [List.map_append]; rfl
theorem GoodL.put {ψ : Bag KK} {ys : List Ln} {b : Nat} {w : Int} {q : ByteArray} (h : GoodL ψ ys) (hb : ψ b = none) : GoodL (bput ψ b (ruleI w q)) (ys ++ [(w, q, b)]) := fun x hx => by
  rcases List.mem_append.1 hx with hx | hx
  · exact Ext.put hb _ _ (h x hx)
  · simp at hx
    subst hx
    exact bput_same
theorem GoodL.ext {φ ψ : Bag KK} {ys : List Ln} (h : GoodL φ ys) (e : Ext φ ψ) : GoodL ψ ys := fun x hx => e _ _ (h x hx)
theorem HasV.ext' {φ ψ : Bag KK} {b o : Nat} {k : KK.Kd} {xs : List (KK.α k)} {ob : Obj} (h : HasV φ b o k xs ob) (e : Ext φ ψ) : HasV ψ b o k xs ob := ⟨h.choose, e _ _ h.choose_spec.1, h.choose_spec.2⟩
theorem HasT.ext {t : Tb} {φ ψ : Bag KK} (h : HasT t φ) (e : Ext φ ψ) : HasT t ψ := ⟨e _ _ h.1, e _ _ h.2.1, HasV.ext' h.2.2 e⟩
theorem bt0 {x : ByteArray} : E.bt x 0 = 35 ↔ x.data.toList.head? = some 35 ∨ (x.size = 0 ∧ E.bt x 0 = 35) := by
  constructor
  · intro h
    by_cases h0 : x.size = 0
    · exact .inr ⟨h0, h⟩
    · left
      unfold E.bt at h
      have hl : 0 < x.data.size := by have : x.data.size = x.size := rfl; omega
      rw [Array.getD_eq_getD_getElem?, Array.getElem?_eq_getElem hl, Option.getD_some] at h
      have h2 : x.data[0] = 35 := UInt8.toNat_inj.1 (by show _ = 35; omega)
      rw [List.head?_eq_getElem?, Array.getElem?_toList, Array.getElem?_eq_getElem hl, h2]
  · rintro (h | ⟨_, h⟩)
    · rw [List.head?_eq_getElem?, Array.getElem?_toList] at h
      unfold E.bt
      rw [Array.getD_eq_getD_getElem?, h]
      rfl
    · exact h
theorem parse_ok (s : ByteArray) (t : Tb) (φ : Bag KK) (g : Bool) : CtOk Tryz.prog 7 (ct_parse s t φ g) := CtOk_of KK_ok (tab4 t) (ann_parse s φ) (fn := Tryz.f7) rfl (fun _ _ => rfl) fun hn => by
  obtain ⟨hs, ht, hgd⟩ := hn
  have bad : ∀ (k e : Int) (ψ : Bag KK) (A : VH KK), Ext φ ψ → parseB s = .bad k e → EndsAs 1 (ct_parse s t φ g) (.tup [.c .nilp, .c (.int .i64 k), .c (.int .i64 e)]) (.bag ψ :: A) := fun k e ψ A hE h => by
    have hg : g = false := by rw [← hgd, h]; rfl
    have hq1 : k = (badOf (parseB s)).1 := by rw [h]; rfl
    have hq2 : e = (badOf (parseB s)).2 := by rw [h]; rfl
    subst hg
    exact ⟨(ψ, []), [], [0], ⟨hE, fun h => by cases h⟩, by (repeat' first | exact trivial | exact rfl | exact hq1 | exact hq2 | apply And.intro)⟩
  rw [vc_parse]
  simp only [Int.toNat_natCast]
  refine ite2_decide (fun hl => bad _ _ _ _ (Ext.refl _) ?_) (fun hl => ?_)
  · unfold parseB; rw [if_pos (by omega)]
  have hpl : parseB s = parseL 0 [] (linesB s) := by unfold parseB; rw [if_neg (by omega)]
  refine ⟨trivial, into_mk (by kernel_rfl) (by (repeat' first | exact trivial | exact rfl | apply And.intro)) (by (repeat' first | exact trivial | exact rfl | apply And.intro)), fun _ _ => ⟨⟨by omega, ht⟩, into_mk (by kernel_rfl) (by (repeat' first | exact trivial | exact rfl | apply And.intro)) (by (repeat' first | exact trivial | exact rfl | apply And.intro)), fun _ _ => ⟨⟨((0 : Nat), φ, []), [.line], [0, 1, 3, 2], ⟨Nat.zero_le _, Ext.refl _, fun x hx => (by simp at hx), Nat.zero_le _, by rw [hpl]; rfl⟩, trivial, into_mk (by kernel_rfl) (by (repeat' first | exact trivial | exact rfl | apply And.intro)) (by (repeat' first | exact trivial | exact rfl | apply And.intro))⟩, ?_⟩⟩⟩
  rintro ⟨i, ψ, ys⟩ ⟨hi, hE, hG, h64, hp⟩
  dsimp only at hi hE hG h64 hp ⊢
  refine ite2_decide (fun hl1 => ?_) (fun hl1 => ?_)
  · have hl2 : i < (linesB s).length := by omega
    have hfew : (linesB s).length ≤ 4001 := by
      have h1 := linesB_sum s
      have h2 : ∀ l : List ByteArray, l.length ≤ (l.map fun x => x.size + 1).sum := fun l => by
        induction l with
        | nil => simp
        | cons a b ih => simp only [List.length_cons, List.map_cons, List.sum_cons]; omega
      have h3 := h2 (linesB s)
      omega
    rw [drop_rd hl2 (ByteArray.mk #[])] at hp
    rw [parseL] at hp
    have io : i64ok ((i : Int) + 1) := by unfold i64ok; omega
    have skip : ((rd (linesB s) i (ByteArray.mk #[])).data.toList = [] ∨ (rd (linesB s) i (ByteArray.mk #[])).data.toList.head? = some 35) → parseOk s φ (i + 1) ψ ys := fun h => ⟨hl2, hE, hG, h64, by rw [if_pos h] at hp; exact hp⟩
    have me : (linesB s).length - (i + 1) < (linesB s).length - i := by omega
    refine ⟨⟨by omega, hl1⟩, hl2, trivial, hl2, ite2_decide (fun h0 => ?_) (fun h0 => ?_)⟩
    · rw [toList_data, toList_data] at h0
      exact ⟨io, (i + 1, ψ, ys), [], [0, 1, 2, 3], skip (.inl h0), me, into_mk (by kernel_rfl) (by (repeat' first | exact trivial | exact rfl | apply And.intro)) (by (repeat' first | exact trivial | exact rfl | apply And.intro))⟩
    · have hsz := size_of_toList h0
      rw [toList_data, toList_data] at h0
      refine ⟨⟨Int.le_refl _, by omega⟩, ite2_decide (fun h1 => ?_) (fun h1 => ?_)⟩
      · have h1' := (bt0 (x := (rd (linesB s) i (ByteArray.mk #[]))).1 h1).resolve_right (fun e => hsz e.1)
        exact ⟨io, (i + 1, ψ, ys), [], [0, 1, 2, 3], skip (.inr h1'), me, into_mk (by kernel_rfl) (by (repeat' first | exact trivial | exact rfl | apply And.intro)) (by (repeat' first | exact trivial | exact rfl | apply And.intro))⟩
      · rw [if_neg (by rintro (e | e); exact h0 e; exact h1 (bt0 (x := (rd (linesB s) i (ByteArray.mk #[]))).2 (.inl e)))] at hp
        refine ⟨ht.ext hE, into_mk (by kernel_rfl) (by (repeat' first | exact trivial | exact rfl | apply And.intro)) (by (repeat' first | exact trivial | exact rfl | apply And.intro)), fun _ _ => ite2_mk (fun h2 => ?_) (fun h2 => ⟨io, bad _ _ _ _ hE ?_⟩)⟩
        · obtain ⟨r, hr⟩ : ∃ r, R.readL (rd (linesB s) i (ByteArray.mk #[])) = some r := by
            cases hr : R.readL (rd (linesB s) i (ByteArray.mk #[])) with
            | none => unfold readR at h2; rw [hr] at h2; cases h2
            | some r => exact ⟨r, rfl⟩
          have hR : readR (rd (linesB s) i (ByteArray.mk #[])) = (r.1, r.2, true) := by unfold readR; rw [hr]
          rw [hr] at hp
          dsimp only at hp
          refine ite2_decide (fun h3 => ⟨io, bad _ _ _ _ hE ?_⟩) (fun h3 => ⟨by decide, into_mk (by kernel_rfl) (by (repeat' first | exact trivial | exact rfl | apply And.intro)) (by (repeat' first | exact trivial | exact rfl | apply And.intro)), fun _ _ => ite2_decide (fun h4 => ⟨trivial, trivial, into_mk (by kernel_rfl) (by (repeat' first | exact trivial | exact rfl | apply And.intro)) (by (repeat' first | exact trivial | exact rfl | apply And.intro)), fun b hb => ?_⟩) (fun h4 => ⟨io, bad _ _ _ _ hE ?_⟩)⟩)
          · rw [if_pos (by rw [LL_len]; omega)] at hp; exact hp.symm
          · have h3' : ¬ (LL ys).length = 64 := by rw [LL_len]; omega
            have h4' : ¬ (patE r.2 ≠ 0) := fun e => e (by rw [hR] at h4; exact h4)
            rw [if_neg h3', if_neg h4'] at hp
            have hq1 : ys.length + 1 = (ys ++ [((readR (rd (linesB s) i (ByteArray.mk #[]))).1, (readR (rd (linesB s) i (ByteArray.mk #[]))).2.1, b)]).length := by simp
            refine ⟨by (repeat' first | exact trivial | exact rfl | exact Nat.le_refl _ | apply And.intro), by (repeat' first | exact trivial | exact rfl | exact Nat.le_refl _ | apply And.intro), by (repeat' first | exact trivial | exact rfl | exact Nat.le_refl _ | apply And.intro), by (repeat' first | exact trivial | exact rfl | exact Nat.le_refl _ | apply And.intro), by omega, trivial, trivial, io, (i + 1, bput ψ b (ruleI (readR (rd (linesB s) i (ByteArray.mk #[]))).1 (readR (rd (linesB s) i (ByteArray.mk #[]))).2.1), ys ++ [((readR (rd (linesB s) i (ByteArray.mk #[]))).1, (readR (rd (linesB s) i (ByteArray.mk #[]))).2.1, b)]), [], [0, 1, 6, 3], ⟨hl2, hE.trans (Ext.put hb), hG.put hb, by simp; omega, ?_⟩, me, into_mk (by kernel_rfl) (by (repeat' first | exact trivial | exact rfl | exact hq1 | apply And.intro)) (by (repeat' first | exact trivial | exact rfl | exact hq1 | apply And.intro))⟩
            rw [LL_snoc]
            show parseL (i + 1) (LL ys ++ [((readR (rd (linesB s) i (ByteArray.mk #[]))).1, (readR (rd (linesB s) i (ByteArray.mk #[]))).2.1)]) _ = _
            rw [hR]
            exact hp
          · have h3' : ¬ (LL ys).length = 64 := by rw [LL_len]; omega
            have h4' : patE r.2 ≠ 0 := fun e => h4 (by rw [hR]; exact e)
            rw [if_neg h3', if_pos h4'] at hp
            exact hp.symm
        · have hr : R.readL (rd (linesB s) i (ByteArray.mk #[])) = none := by
            cases hr : R.readL (rd (linesB s) i (ByteArray.mk #[])) with
            | none => rfl
            | some r => unfold readR at h2; rw [hr] at h2; cases h2
          rw [hr] at hp
          exact hp.symm
  · have hp : PR.good (LL ys) = parseB s := by
      rw [List.drop_of_length_le (by omega)] at hp
      exact hp
    have hg : g = true := by rw [← hgd, ← hp]; rfl
    subst hg
    refine ⟨(ψ, ys), [], [0, 1, 2], ⟨hE, fun _ => ⟨hG, by rw [← hp]; rfl⟩⟩, by (repeat' first | exact trivial | exact rfl | apply And.intro)⟩
theorem rdR_get {l : List Rl} {i : Nat} (d : Rl) (h : i < l.length) : l.take (i + 1) = l.take i ++ [rd l i d] := by
  have := map_succ id l i d h
  simpa using this
theorem mirror_ok (t : Tb) (φ : Bag KK) (xs : List Ln) : CtOk Tryz.prog 8 (ct_mirror φ xs) := CtOk_of KK_ok (tab4 t) (ann_mirror φ xs) (fn := Tryz.f8) rfl (fun _ _ => rfl) fun hn => by
  have hn : xs.length ≤ 1000 := hn
  rw [vc_mirror]
  simp only [Int.toNat_natCast]
  refine ⟨trivial, into_mk (by kernel_rfl) (by (repeat' first | exact trivial | exact rfl | apply And.intro)) (by (repeat' first | exact trivial | exact rfl | apply And.intro)), fun _ _ => ⟨hn, into_mk (by kernel_rfl) (by (repeat' first | exact trivial | exact rfl | apply And.intro)) (by (repeat' first | exact trivial | exact rfl | apply And.intro)), fun _ _ => ⟨⟨((0 : Nat), φ, []), [.line], [0, 1, 2, 3, 5, 4], ⟨Nat.zero_le _, Ext.refl _, fun x hx => (by simp at hx), rfl⟩, trivial, into_mk (by kernel_rfl) (by (repeat' first | exact trivial | exact rfl | apply And.intro)) (by (repeat' first | exact trivial | exact rfl | apply And.intro))⟩, ?_⟩⟩⟩
  rintro ⟨i, ψ, ys⟩ ⟨hi, hE, hG, hy⟩
  dsimp only at hi hE hG hy ⊢
  have hxl := LL_len xs
  have hyl : ys.length ≤ xs.length := by
    have := congrArg List.length hy
    rw [LL_len] at this
    unfold mirB at this
    rw [List.length_map, List.length_take] at this
    omega
  refine ite2_decide (fun hl => ?_) (fun hl => ?_)
  · have hl1 : i < (LL xs).length := by omega
    have me : (LL xs).length - (i + 1) < (LL xs).length - i := by omega
    have io : i64ok ((i : Int) + 1) := by unfold i64ok; omega
    have next : ∀ (w : Int) (b : Nat), ψ b = none → ∀ v : Int, (rd (α := Rl) (LL xs) i (KK.dflt Kd.rule)).1 = v → w = mirW v → mirOk φ xs (i + 1) (bput ψ b (ruleI w (rd (α := Rl) (LL xs) i (KK.dflt Kd.rule)).2)) (ys ++ [(w, (rd (α := Rl) (LL xs) i (KK.dflt Kd.rule)).2, b)]) := fun w b hb v hv hw => by
      refine ⟨hl1, hE.trans (Ext.put hb), hG.put hb, ?_⟩
      rw [LL_snoc, hy, rdR_get (KK.dflt Kd.rule) hl1]
      unfold mirB
      rw [List.map_append]
      subst hw hv
      rfl
    have hq1 : ∀ x : Ln, ys.length + 1 = (ys ++ [x]).length := fun x => by simp
    refine ⟨⟨by omega, hl⟩, hl1, trivial, hl1, ite2_decide (fun h2 => ?_) (fun h2 => ite2_decide (fun h3 => ?_) (fun h3 => ?_))⟩
    · refine ⟨trivial, trivial, into_mk (by kernel_rfl) (by (repeat' first | exact trivial | exact rfl | apply And.intro)) (by (repeat' first | exact trivial | exact rfl | apply And.intro)), fun b hb => ⟨by (repeat' first | exact trivial | exact rfl | exact Nat.le_refl _ | apply And.intro), by (repeat' first | exact trivial | exact rfl | exact Nat.le_refl _ | apply And.intro), by (repeat' first | exact trivial | exact rfl | exact Nat.le_refl _ | apply And.intro), by (repeat' first | exact trivial | exact rfl | exact Nat.le_refl _ | apply And.intro), by omega, trivial, trivial, io, (i + 1, _, _), [], [0, 1, 2, 3, 8, 5], next 3 b hb 2 h2 rfl, me, into_mk (by kernel_rfl) (by (repeat' first | exact trivial | exact rfl | exact hq1 _ | apply And.intro)) (by (repeat' first | exact trivial | exact rfl | exact hq1 _ | apply And.intro))⟩⟩
    · refine ⟨trivial, trivial, into_mk (by kernel_rfl) (by (repeat' first | exact trivial | exact rfl | apply And.intro)) (by (repeat' first | exact trivial | exact rfl | apply And.intro)), fun b hb => ⟨by (repeat' first | exact trivial | exact rfl | exact Nat.le_refl _ | apply And.intro), by (repeat' first | exact trivial | exact rfl | exact Nat.le_refl _ | apply And.intro), by (repeat' first | exact trivial | exact rfl | exact Nat.le_refl _ | apply And.intro), by (repeat' first | exact trivial | exact rfl | exact Nat.le_refl _ | apply And.intro), by omega, trivial, trivial, io, (i + 1, _, _), [], [0, 1, 2, 3, 8, 5], next 2 b hb 3 h3 rfl, me, into_mk (by kernel_rfl) (by (repeat' first | exact trivial | exact rfl | exact hq1 _ | apply And.intro)) (by (repeat' first | exact trivial | exact rfl | exact hq1 _ | apply And.intro))⟩⟩
    · refine ⟨trivial, trivial, into_mk (by kernel_rfl) (by (repeat' first | exact trivial | exact rfl | apply And.intro)) (by (repeat' first | exact trivial | exact rfl | apply And.intro)), fun b hb => ⟨by (repeat' first | exact trivial | exact rfl | exact Nat.le_refl _ | apply And.intro), by (repeat' first | exact trivial | exact rfl | exact Nat.le_refl _ | apply And.intro), by (repeat' first | exact trivial | exact rfl | exact Nat.le_refl _ | apply And.intro), by (repeat' first | exact trivial | exact rfl | exact Nat.le_refl _ | apply And.intro), by omega, trivial, trivial, io, (i + 1, _, _), [], [0, 1, 2, 3, 8, 5], next _ b hb _ rfl (by unfold mirW; rw [if_neg h2, if_neg h3]), me, into_mk (by kernel_rfl) (by (repeat' first | exact trivial | exact rfl | exact hq1 _ | apply And.intro)) (by (repeat' first | exact trivial | exact rfl | exact hq1 _ | apply And.intro))⟩⟩
  · refine ⟨(ψ, ys), [], [0, 1, 2, 3, 4], ⟨hE, hG, ?_⟩, by (repeat' first | exact trivial | exact rfl | apply And.intro)⟩
    rw [hy, List.take_of_length_le (by omega)]
end Go.Proofs.YtoidibkcdkdneaaGreatDoor.T
end
section
namespace Go.Proofs.YtoidibkcdkdneaaGreatDoor.T
open Go.Proofs.YtoidibkcdkdneaaGreatDoor.E Go.Proofs.YtoidibkcdkdneaaGreatDoor.MStr Go.Proofs.YtoidibkcdkdneaaGreatDoor.R
set_option maxRecDepth 100000
set_option linter.unusedVariables false
set_option linter.unusedSimpArgs false
def ct_rparse (s : ByteArray) : Ct KK := { need := s.size ≤ 1000000, pre := [], args := [strv s], Y := Unit, ok := fun _ => True, ret := fun _ => .tup [.c (.slc 0 0 (goodOf (parseB s)).length none), .c (.int .i64 (badOf (parseB s)).1), .c (.int .i64 (badOf (parseB s)).2)], post := fun _ => [.arr .rule (goodOf (parseB s))] }
def parTo (s : ByteArray) (i : Nat) (acc : List Rl) : Prop := i ≤ (linesB s).length ∧ acc.length ≤ 64 ∧ parseL i acc ((linesB s).drop i) = parseB s
def inv_rparse (s : ByteArray) : Inv KK := { X := Nat × List Rl, fr := fun z => [strv s, .any, .any, .any, .any, .c (.slc 0 0 (linesB s).length none), .c (.slc 1 0 z.2.length none), i64 z.1] ++ anys 60, H := fun z => [.arr .str (linesB s), .arr .rule z.2], ok := fun z => parTo s z.1 z.2, meas := fun z => (linesB s).length - z.1 }
def ann_rparse (s : ByteArray) : Ann KK := { loop := fun _ _ _ => some (inv_rparse s), cut := fun _ _ _ => none, keep := some 8 }
def ct_rmir (l : List Rl) : Ct KK := { need := l.length ≤ 1000, pre := [.ro .rule l], args := [.c (.slc 0 0 l.length none)], Y := Unit, ok := fun _ => True, ret := fun _ => .c (.slc 1 0 (mirB l).length none), post := fun _ => [.gone, .arr .rule (mirB l)] }
def inv_rmir (l : List Rl) : Inv KK := { X := Nat, fr := fun i => [.c (.slc 0 0 l.length none), .any, .any, .c (.slc 1 0 (mirB (l.take i)).length none), i64 i] ++ anys 24, H := fun i => [.ro .rule l, .arr .rule (mirB (l.take i))], ok := fun i => i ≤ l.length, meas := fun i : Nat => l.length - i }
def ann_rmir (l : List Rl) : Ann KK := { loop := fun _ _ _ => some (inv_rmir l), cut := fun _ _ _ => none, keep := some 5 }
def tabRy : Tab Tryz.prog KK := ⟨mixed, fun f args H => match f, args with
  | 11, [.one (.c (.str s))] => some (ct_rlines s, [], [])
  | 12, [.one (.c (.str s))] => some (ct_rrule s, [], [])
  | 13, [.one (.c (.str s)), .one (.c (.str p))] => some (ct_rmatch s p, [], [])
  | 41, [.one (.c (.str s)), .one (.c (.int _ n))] => some (ct_rsplit s n, [], [])
  | _, _ => none, fun f args H ct ks τ h => by
    split at h
    · cases h; exact rlines_ok _
    · cases h; exact rrule_ok _
    · cases h; exact rmatch_ok _ _
    · cases h; exact rsplit_ok _ _
    · cases h⟩
theorem vc_rparse (s : ByteArray) : evFn tabRy (ann_rparse s) Tryz.f4 (ct_rparse s) = ( ite2 (decide ((4000 : Int) < (↑s.size : Int))) (EndsAs 0 (ct_rparse s) (VV.tup [V1.c C.nils, V1.c (C.int .i64 (0 : Int)), V1.c (C.int .i64 (110 : Int))]) []) (s.size ≤ 1000000 ∧ Into (K := KK) 0 [] []
 [VV.one (V1.c (C.str s))] [] [VV.one (V1.c (C.str s))] [] ∧ ∀ (y : Unit), True → Enter 0 (inv_rparse s) (fun (x : Nat × List Rl) => True) ([VV.one (V1.c (C.str s)), VV.any, VV.one (V1.c C.nils), i64 (0
 : Int), i64 (0 : Int), VV.one (V1.c (C.slc 0 0 (linesB s).length none)), VV.one (V1.c C.nils), i64 (0 : Int)] ++ anys 60) [Atom.arr Kd.str (linesB s)] ∧ ∀ (z : Nat × List Rl), parTo s z.fst z.snd → ite2
 (decide ((↑z.fst : Int) < (↑(linesB s).length : Int))) (((0 : Int) ≤ (↑z.fst : Int) ∧ (↑z.fst : Int) < (↑(linesB s).length : Int)) ∧ (↑z.fst : Int).toNat < (linesB s).length ∧ True ∧ (↑z.fst : Int).toNat
 < (linesB s).length ∧ ite2 (decide (ByteArray.toList (rd (linesB s) (↑z.fst : Int).toNat (ByteArray.mk (#[]))) = (ByteArray.mk (#[])).toList)) (i64ok ((↑z.fst : Int) + (1 : Int)) ∧ Enter 0 (inv_rparse
 s) (fun (z' : Nat × List Rl) => (linesB s).length - z'.fst < (linesB s).length - z.fst) ([VV.one (V1.c (C.str s)), VV.any, VV.any, VV.any, VV.any, VV.one (V1.c (C.slc 0 0 (linesB s).length none)), VV.one
 (V1.c (C.slc 1 0 z.snd.length none)), i64 ((↑z.fst : Int) + (1 : Int))] ++ anys 60) [Atom.arr Kd.str (linesB s), Atom.arr Kd.rule z.snd]) (((0 : Int) ≤ (↑z.fst : Int) ∧ (↑z.fst : Int) < (↑(linesB s).length
 : Int)) ∧ (↑z.fst : Int).toNat < (linesB s).length ∧ True ∧ (↑z.fst : Int).toNat < (linesB s).length ∧ ((0 : Int) ≤ (0 : Int) ∧ (0 : Int) < (↑(ByteArray.size (rd (linesB s) (↑z.fst : Int).toNat (ByteArray.mk
 (#[])))) : Int)) ∧ ite2 (decide (bt (rd (linesB s) (↑z.fst : Int).toNat (ByteArray.mk (#[]))) 0 = (35 : Int))) (i64ok ((↑z.fst : Int) + (1 : Int)) ∧ Enter 0 (inv_rparse s) (fun (z' : Nat × List Rl) =>
 (linesB s).length - z'.fst < (linesB s).length - z.fst) ([VV.one (V1.c (C.str s)), VV.any, VV.any, VV.any, VV.any, VV.one (V1.c (C.slc 0 0 (linesB s).length none)), VV.one (V1.c (C.slc 1 0 z.snd.length
 none)), i64 ((↑z.fst : Int) + (1 : Int))] ++ anys 60) [Atom.arr Kd.str (linesB s), Atom.arr Kd.rule z.snd]) (((0 : Int) ≤ (↑z.fst : Int) ∧ (↑z.fst : Int) < (↑(linesB s).length : Int)) ∧ (↑z.fst : Int).toNat
 < (linesB s).length ∧ True ∧ (↑z.fst : Int).toNat < (linesB s).length ∧ ByteArray.size (rd (linesB s) (↑z.fst : Int).toNat (ByteArray.mk (#[]))) ≤ 1000000 ∧ Into (K := KK) 0 [] [] [VV.one (V1.c (C.str
 (rd (linesB s) (↑z.fst : Int).toNat (ByteArray.mk (#[])))))] [Atom.arr Kd.str (linesB s), Atom.arr Kd.rule z.snd] [VV.one (V1.c (C.str (rd (linesB s) (↑z.fst : Int).toNat (ByteArray.mk (#[])))))] [] ∧
 ∀ (y : Unit), True → ite2 (readR (rd (linesB s) (↑z.fst : Int).toNat (ByteArray.mk ((#[]))))).snd.snd (ite2 (decide ((↑z.snd.length : Int) = (64 : Int))) (i64ok ((↑z.fst : Int) + (1 : Int)) ∧ EndsAs 0
 (ct_rparse s) (VV.tup [V1.c C.nils, V1.c (C.int .i64 ((↑z.fst : Int) + (1 : Int))), V1.c (C.int .i64 (111 : Int))]) [Atom.arr Kd.str (linesB s), Atom.arr Kd.rule z.snd, Atom.cells 57 [C.int .i64 (readR
 (rd (linesB s) (↑z.fst : Int).toNat (ByteArray.mk ((#[]))))).fst, C.str (readR (rd (linesB s) (↑z.fst : Int).toNat (ByteArray.mk ((#[]))))).snd.fst]]) (((readR (rd (linesB s) (↑z.fst : Int).toNat (ByteArray.mk
 ((#[]))))).snd.fst.size ≤ 999999 ∧ 0 ≤ 999999) ∧ Into (K := KK) 0 [] [] [VV.one (V1.c (C.str (readR (rd (linesB s) (↑z.fst : Int).toNat (ByteArray.mk ((#[]))))).snd.fst)), VV.one (V1.c (C.str (ByteArray.mk
 (#[]))))] [Atom.arr Kd.str (linesB s), Atom.arr Kd.rule z.snd, Atom.cells 57 [C.int .i64 (readR (rd (linesB s) (↑z.fst : Int).toNat (ByteArray.mk ((#[]))))).fst, C.str (readR (rd (linesB s) (↑z.fst : Int).toNat
 (ByteArray.mk ((#[]))))).snd.fst]] [VV.one (V1.c (C.str (readR (rd (linesB s) (↑z.fst : Int).toNat (ByteArray.mk ((#[]))))).snd.fst)), VV.one (V1.c (C.str (ByteArray.mk (#[]))))] [] ∧ ∀ (y : Unit), True
 → ite2 (decide ((Hand.matchB (readR (rd (linesB s) (↑z.fst : Int).toNat (ByteArray.mk ((#[]))))).snd.fst (ByteArray.mk (#[]))).snd = (0 : Int))) (z.snd.length = z.snd.length ∧ (1 ≤ 1 ∧ True) ∧ (z.snd.length
 + 1) * 24 ≤ 140737488355328 ∧ i64ok ((↑z.fst : Int) + (1 : Int)) ∧ Enter 0 (inv_rparse s) (fun (z' : Nat × List Rl) => (linesB s).length - z'.fst < (linesB s).length - z.fst) ([VV.one (V1.c (C.str s)),
 VV.any, VV.any, VV.any, VV.any, VV.one (V1.c (C.slc 0 0 (linesB s).length none)), VV.one (V1.c (C.slc 4 0 (z.snd.length + 1) none)), i64 ((↑z.fst : Int) + (1 : Int))] ++ anys 60) [Atom.arr Kd.str (linesB
 s), Atom.gone, Atom.cells 57 [C.int .i64 (readR (rd (linesB s) (↑z.fst : Int).toNat (ByteArray.mk ((#[]))))).fst, C.str (readR (rd (linesB s) (↑z.fst : Int).toNat (ByteArray.mk ((#[]))))).snd.fst], Atom.arr
 Kd.rule [((readR (rd (linesB s) (↑z.fst : Int).toNat (ByteArray.mk ((#[]))))).fst, (readR (rd (linesB s) (↑z.fst : Int).toNat (ByteArray.mk ((#[]))))).snd.fst)], Atom.arr Kd.rule (z.snd ++ [((readR (rd
 (linesB s) (↑z.fst : Int).toNat (ByteArray.mk ((#[]))))).fst, (readR (rd (linesB s) (↑z.fst : Int).toNat (ByteArray.mk ((#[]))))).snd.fst)])]) (i64ok ((↑z.fst : Int) + (1 : Int)) ∧ EndsAs 0 (ct_rparse
 s) (VV.tup [V1.c C.nils, V1.c (C.int .i64 ((↑z.fst : Int) + (1 : Int))), V1.c (C.int .i64 (113 : Int))]) [Atom.arr Kd.str (linesB s), Atom.arr Kd.rule z.snd, Atom.cells 57 [C.int .i64 (readR (rd (linesB
 s) (↑z.fst : Int).toNat (ByteArray.mk ((#[]))))).fst, C.str (readR (rd (linesB s) (↑z.fst : Int).toNat (ByteArray.mk ((#[]))))).snd.fst]]))) (i64ok ((↑z.fst : Int) + (1 : Int)) ∧ EndsAs 0 (ct_rparse s)
 (VV.tup [V1.c C.nils, V1.c (C.int .i64 ((↑z.fst : Int) + (1 : Int))), V1.c (C.int .i64 (112 : Int))]) [Atom.arr Kd.str (linesB s), Atom.arr Kd.rule z.snd, Atom.cells 57 [C.int .i64 (readR (rd (linesB s)
 (↑z.fst : Int).toNat (ByteArray.mk ((#[]))))).fst, C.str (readR (rd (linesB s) (↑z.fst : Int).toNat (ByteArray.mk ((#[]))))).snd.fst]])))) (EndsAs 0 (ct_rparse s) (VV.tup [V1.c (C.slc 1 0 z.snd.length
 none), V1.c (C.int .i64 (0 : Int)), V1.c (C.int .i64 (0 : Int))]) [Atom.arr Kd.str (linesB s), Atom.arr Kd.rule z.snd]))) := by kernel_rfl
theorem vc_rmir (l : List Rl) : evFn tabRy (ann_rmir l) Tryz.f9 (ct_rmir l) = ( Enter 1 (inv_rmir l) (fun (x : Nat) => True) ([VV.one (V1.c (C.slc 0 0 l.length none)), VV.any, VV.one (V1.c C.nils), VV.one (V1.c C.nils), i64 (0 : Int)] ++ anys 24) [Atom.ro Kd.rule l] ∧ ∀ (z : Nat),
 z ≤ l.length → ite2 (decide ((↑z : Int) < (↑l.length : Int))) (((0 : Int) ≤ (↑z : Int) ∧ (↑z : Int) < (↑l.length : Int)) ∧ (↑z : Int).toNat < l.length ∧ True ∧ (↑z : Int).toNat < l.length ∧ ite2 (decide
 ((rd l (↑z : Int).toNat (KK.dflt Kd.rule)).fst = (2 : Int))) ((mirB (List.take z l)).length = (mirB (List.take z l)).length ∧ (1 ≤ 1 ∧ True) ∧ ((mirB (List.take z l)).length + 1) * 24 ≤ 140737488355328
 ∧ i64ok ((↑z : Int) + (1 : Int)) ∧ Enter 1 (inv_rmir l) (fun (z' : Nat) => l.length - z' < l.length - z) ([VV.one (V1.c (C.slc 0 0 l.length none)), VV.any, VV.any, VV.one (V1.c (C.slc 4 0 ((mirB (List.take
 z l)).length + 1) none)), i64 ((↑z : Int) + (1 : Int))] ++ anys 24) [Atom.ro Kd.rule l, Atom.gone, Atom.cells 57 [C.int .i64 (3 : Int), C.str (rd l (↑z : Int).toNat (KK.dflt Kd.rule)).snd], Atom.arr Kd.rule
 [((3 : Int), (rd l (↑z : Int).toNat (KK.dflt Kd.rule)).snd)], Atom.arr Kd.rule (mirB (List.take z l) ++ [((3 : Int), (rd l (↑z : Int).toNat (KK.dflt Kd.rule)).snd)])]) (ite2 (decide ((rd l (↑z : Int).toNat
 (KK.dflt Kd.rule)).fst = (3 : Int))) ((mirB (List.take z l)).length = (mirB (List.take z l)).length ∧ (1 ≤ 1 ∧ True) ∧ ((mirB (List.take z l)).length + 1) * 24 ≤ 140737488355328 ∧ i64ok ((↑z : Int) + (1
 : Int)) ∧ Enter 1 (inv_rmir l) (fun (z' : Nat) => l.length - z' < l.length - z) ([VV.one (V1.c (C.slc 0 0 l.length none)), VV.any, VV.any, VV.one (V1.c (C.slc 4 0 ((mirB (List.take z l)).length + 1) none)),
 i64 ((↑z : Int) + (1 : Int))] ++ anys 24) [Atom.ro Kd.rule l, Atom.gone, Atom.cells 57 [C.int .i64 (2 : Int), C.str (rd l (↑z : Int).toNat (KK.dflt Kd.rule)).snd], Atom.arr Kd.rule [((2 : Int), (rd l (↑z
 : Int).toNat (KK.dflt Kd.rule)).snd)], Atom.arr Kd.rule (mirB (List.take z l) ++ [((2 : Int), (rd l (↑z : Int).toNat (KK.dflt Kd.rule)).snd)])]) ((mirB (List.take z l)).length = (mirB (List.take z l)).length
 ∧ (1 ≤ 1 ∧ True) ∧ ((mirB (List.take z l)).length + 1) * 24 ≤ 140737488355328 ∧ i64ok ((↑z : Int) + (1 : Int)) ∧ Enter 1 (inv_rmir l) (fun (z' : Nat) => l.length - z' < l.length - z) ([VV.one (V1.c (C.slc
 0 0 l.length none)), VV.any, VV.any, VV.one (V1.c (C.slc 4 0 ((mirB (List.take z l)).length + 1) none)), i64 ((↑z : Int) + (1 : Int))] ++ anys 24) [Atom.ro Kd.rule l, Atom.gone, Atom.cells 57 [C.int .i64
 (rd l (↑z : Int).toNat (KK.dflt Kd.rule)).fst, C.str (rd l (↑z : Int).toNat (KK.dflt Kd.rule)).snd], Atom.arr Kd.rule [((rd l (↑z : Int).toNat (KK.dflt Kd.rule)).fst, (rd l (↑z : Int).toNat (KK.dflt Kd.rule)).snd)],
 Atom.arr Kd.rule (mirB (List.take z l) ++ [((rd l (↑z : Int).toNat (KK.dflt Kd.rule)).fst, (rd l (↑z : Int).toNat (KK.dflt Kd.rule)).snd)])]))) (EndsAs 1 (ct_rmir l) (VV.one (V1.c (C.slc 1 0 (mirB (List.take
 z l)).length none))) [Atom.ro Kd.rule l, Atom.arr Kd.rule (mirB (List.take z l))])) := by kernel_rfl
theorem line_size {s x : ByteArray} (h : x ∈ linesB s) : x.size ≤ s.size := by
  have h1 := linesB_sum s
  have h2 : ∀ l : List ByteArray, x ∈ l → x.size + 1 ≤ (l.map fun x => x.size + 1).sum := fun l => by
    induction l with
    | nil => intro h; cases h
    | cons a b ih =>
      intro h
      rcases List.mem_cons.1 h with rfl | h
      · simp only [List.map_cons, List.sum_cons]; omega
      · have := ih h; simp only [List.map_cons, List.sum_cons]; omega
  have := h2 _ h
  omega
theorem lines_few (s : ByteArray) : (linesB s).length ≤ s.size + 1 := by
  have h1 := linesB_sum s
  have h2 : ∀ l : List ByteArray, l.length ≤ (l.map fun x => x.size + 1).sum := fun l => by
    induction l with
    | nil => simp
    | cons a b ih => simp only [List.length_cons, List.map_cons, List.sum_cons]; omega
  have h3 := h2 (linesB s)
  omega
theorem readL_size {s : ByteArray} {r : Rl} (h : R.readL s = some r) : r.2.size ≤ s.size := by
  have h1 := congrArg List.length (R.readL_is h).1
  unfold lineL at h1
  rw [List.length_append] at h1
  have e1 : s.data.toList.length = s.size := by simp
  have e2 : r.2.data.toList.length = r.2.size := by simp
  omega
theorem rparse_ok (s : ByteArray) : CtOk Tryz.prog 4 (ct_rparse s) := CtOk_of KK_ok tabRy (ann_rparse s) (fn := Tryz.f4) rfl (fun _ _ => rfl) fun hn => by
  have hs : s.size ≤ 1000000 := hn
  have bad0 : ∀ (k e : Int), parseB s = .bad k e → EndsAs 0 (ct_rparse s) (.tup [.c .nils, .c (.int .i64 k), .c (.int .i64 e)]) [] := fun k e h => by
    have hq1 : k = (badOf (parseB s)).1 := by rw [h]; rfl
    have hq2 : e = (badOf (parseB s)).2 := by rw [h]; rfl
    have hq3 : 0 = (goodOf (parseB s)).length := by rw [h]; rfl
    have hq3' : (goodOf (parseB s)).length = 0 := hq3.symm
    have hq4 : ([] : List Rl) = goodOf (parseB s) := by rw [h]; rfl
    exact ⟨(), [.rule], [0], trivial, by (repeat' first | exact trivial | exact rfl | exact hq1 | exact hq2 | exact hq3 | exact hq3' | exact hq4 | apply And.intro)⟩
  have bad2 : ∀ (k e : Int) (a0 a1 : Atom KK), parseB s = .bad k e → EndsAs 0 (ct_rparse s) (.tup [.c .nils, .c (.int .i64 k), .c (.int .i64 e)]) [a0, a1] := fun k e a0 a1 h => by
    have hq1 : k = (badOf (parseB s)).1 := by rw [h]; rfl
    have hq2 : e = (badOf (parseB s)).2 := by rw [h]; rfl
    have hq3 : 0 = (goodOf (parseB s)).length := by rw [h]; rfl
    have hq3' : (goodOf (parseB s)).length = 0 := hq3.symm
    have hq4 : ([] : List Rl) = goodOf (parseB s) := by rw [h]; rfl
    exact ⟨(), [.rule], [2], trivial, by (repeat' first | exact trivial | exact rfl | exact hq1 | exact hq2 | exact hq3 | exact hq3' | exact hq4 | apply And.intro)⟩
  have bad3 : ∀ (k e : Int) (a0 a1 a2 : Atom KK), parseB s = .bad k e → EndsAs 0 (ct_rparse s) (.tup [.c .nils, .c (.int .i64 k), .c (.int .i64 e)]) [a0, a1, a2] := fun k e a0 a1 a2 h => by
    have hq1 : k = (badOf (parseB s)).1 := by rw [h]; rfl
    have hq2 : e = (badOf (parseB s)).2 := by rw [h]; rfl
    have hq3 : 0 = (goodOf (parseB s)).length := by rw [h]; rfl
    have hq3' : (goodOf (parseB s)).length = 0 := hq3.symm
    have hq4 : ([] : List Rl) = goodOf (parseB s) := by rw [h]; rfl
    exact ⟨(), [.rule], [3], trivial, by (repeat' first | exact trivial | exact rfl | exact hq1 | exact hq2 | exact hq3 | exact hq3' | exact hq4 | apply And.intro)⟩
  rw [vc_rparse]
  simp only [Int.toNat_natCast]
  refine ite2_decide (fun hl => bad0 _ _ ?_) (fun hl => ?_)
  · unfold parseB; rw [if_pos (by omega)]
  have hpl : parseB s = parseL 0 [] (linesB s) := by unfold parseB; rw [if_neg (by omega)]
  refine ⟨hs, into_mk (by kernel_rfl) (by (repeat' first | exact trivial | exact rfl | apply And.intro)) (by (repeat' first | exact trivial | exact rfl | apply And.intro)), fun _ _ => ⟨⟨((0 : Nat), []), [.rule], [0, 1], ⟨Nat.zero_le _, Nat.zero_le _, hpl.symm⟩, trivial, into_mk (by kernel_rfl) (by (repeat' first | exact trivial | exact rfl | apply And.intro)) (by (repeat' first | exact trivial | exact rfl | apply And.intro))⟩, ?_⟩⟩
  rintro ⟨i, acc⟩ ⟨hi, h64, hp⟩
  dsimp only at hi h64 hp ⊢
  have hfew := lines_few s
  refine ite2_decide (fun hl1 => ?_) (fun hl1 => ?_)
  · have hl2 : i < (linesB s).length := by omega
    have io : i64ok ((i : Int) + 1) := by unfold i64ok; omega
    have me : (linesB s).length - (i + 1) < (linesB s).length - i := by omega
    have hls : (rd (linesB s) i (ByteArray.mk #[])).size ≤ s.size := line_size (rd_inB (linesB s) i _ hl2)
    rw [drop_rd hl2 (ByteArray.mk #[])] at hp
    rw [parseL] at hp
    have skip : ((rd (linesB s) i (ByteArray.mk #[])).data.toList = [] ∨ (rd (linesB s) i (ByteArray.mk #[])).data.toList.head? = some 35) → parTo s (i + 1) acc := fun h => ⟨hl2, h64, by rw [if_pos h] at hp; exact hp⟩
    refine ⟨⟨by omega, hl1⟩, hl2, trivial, hl2, ite2_decide (fun h0 => ?_) (fun h0 => ?_)⟩
    · rw [toList_data, toList_data] at h0
      exact ⟨io, (i + 1, acc), [], [0, 1], skip (.inl h0), me, into_mk (by kernel_rfl) (by (repeat' first | exact trivial | exact rfl | apply And.intro)) (by (repeat' first | exact trivial | exact rfl | apply And.intro))⟩
    · have hsz := size_of_toList h0
      rw [toList_data, toList_data] at h0
      refine ⟨⟨by omega, hl1⟩, hl2, trivial, hl2, ⟨Int.le_refl _, by omega⟩, ite2_decide (fun h1 => ?_) (fun h1 => ?_)⟩
      · have h1' := (bt0 (x := (rd (linesB s) i (ByteArray.mk #[]))).1 h1).resolve_right (fun e => hsz e.1)
        exact ⟨io, (i + 1, acc), [], [0, 1], skip (.inr h1'), me, into_mk (by kernel_rfl) (by (repeat' first | exact trivial | exact rfl | apply And.intro)) (by (repeat' first | exact trivial | exact rfl | apply And.intro))⟩
      · rw [if_neg (by rintro (e | e); exact h0 e; exact h1 (bt0 (x := (rd (linesB s) i (ByteArray.mk #[]))).2 (.inl e)))] at hp
        refine ⟨⟨by omega, hl1⟩, hl2, trivial, hl2, by omega, into_mk (by kernel_rfl) (by (repeat' first | exact trivial | exact rfl | apply And.intro)) (by (repeat' first | exact trivial | exact rfl | apply And.intro)), fun _ _ => ite2_mk (fun h2 => ?_) (fun h2 => ⟨io, bad3 _ _ _ _ _ ?_⟩)⟩
        · obtain ⟨r, hr⟩ : ∃ r, R.readL (rd (linesB s) i (ByteArray.mk #[])) = some r := by
            cases hr : R.readL (rd (linesB s) i (ByteArray.mk #[])) with
            | none => unfold readR at h2; rw [hr] at h2; cases h2
            | some r => exact ⟨r, rfl⟩
          have hR : readR (rd (linesB s) i (ByteArray.mk #[])) = (r.1, r.2, true) := by unfold readR; rw [hr]
          have hrs := readL_size hr
          rw [hr] at hp
          dsimp only at hp
          simp only [hR]
          refine ite2_decide (fun h3 => ⟨io, bad3 _ _ _ _ _ ?_⟩) (fun h3 => ⟨⟨by omega, by decide⟩, into_mk (by kernel_rfl) (by (repeat' first | exact trivial | exact rfl | apply And.intro)) (by (repeat' first | exact trivial | exact rfl | apply And.intro)), fun _ _ => ite2_decide (fun h4 => ?_) (fun h4 => ⟨io, bad3 _ _ _ _ _ ?_⟩)⟩)
          · rw [if_pos (by omega)] at hp; exact hp.symm
          · have h3' : ¬ acc.length = 64 := by omega
            have h4' : ¬ (patE r.2 ≠ 0) := fun e => e h4
            rw [if_neg h3', if_neg h4'] at hp
            have hq1 : acc.length + 1 = (acc ++ [(r.1, r.2)]).length := by simp
            exact ⟨trivial, ⟨Nat.le_refl _, trivial⟩, by omega, io, (i + 1, acc ++ [(r.1, r.2)]), [], [0, 4], ⟨hl2, by simp; omega, hp⟩, me, into_mk (by kernel_rfl) (by (repeat' first | exact trivial | exact rfl | exact hq1 | apply And.intro)) (by (repeat' first | exact trivial | exact rfl | exact hq1 | apply And.intro))⟩
          · have h3' : ¬ acc.length = 64 := by omega
            have h4' : patE r.2 ≠ 0 := fun e => h4 e
            rw [if_neg h3', if_pos h4'] at hp
            exact hp.symm
        · have hr : R.readL (rd (linesB s) i (ByteArray.mk #[])) = none := by
            cases hr : R.readL (rd (linesB s) i (ByteArray.mk #[])) with
            | none => rfl
            | some r => unfold readR at h2; rw [hr] at h2; cases h2
          rw [hr] at hp
          exact hp.symm
  · have hp : PR.good acc = parseB s := by
      rw [List.drop_of_length_le (by omega)] at hp
      exact hp
    have hq1 : acc.length = (goodOf (parseB s)).length := by rw [← hp]; rfl
    have hq2 : (0 : Int) = (badOf (parseB s)).1 := by rw [← hp]; rfl
    have hq3 : (0 : Int) = (badOf (parseB s)).2 := by rw [← hp]; rfl
    have hq4 : acc = goodOf (parseB s) := by rw [← hp]; rfl
    exact ⟨(), [], [1], trivial, by (repeat' first | exact trivial | exact rfl | exact hq1 | exact hq2 | exact hq3 | exact hq4 | apply And.intro)⟩
theorem rl_at {l : List Rl} {i : Nat} (h : i < l.length) (d : Rl) : rd l i d = l[i] := by
  unfold rd
  rw [List.getD_eq_getElem?_getD, List.getElem?_eq_getElem h]
  rfl
theorem mir_take {l : List Rl} {i : Nat} (h : i < l.length) (d : Rl) : mirB (l.take (i + 1)) = mirB (l.take i) ++ [mirR (rd l i d)] := by
  unfold mirB
  rw [List.take_succ_eq_append_getElem h, List.map_append, rl_at h]
  rfl
theorem rmir_ok (l : List Rl) : CtOk Tryz.prog 9 (ct_rmir l) := CtOk_of KK_ok tabRy (ann_rmir l) (fn := Tryz.f9) rfl (fun _ _ => rfl) fun hn => by
  have hn : l.length ≤ 1000 := hn
  rw [vc_rmir]
  simp only [Int.toNat_natCast]
  refine ⟨⟨(0 : Nat), [.rule], [0, 1], Nat.zero_le _, trivial, into_mk (by kernel_rfl) (by (repeat' first | exact trivial | exact rfl | apply And.intro)) (by (repeat' first | exact trivial | exact rfl | apply And.intro))⟩, ?_⟩
  intro i hi
  have hi : i ≤ l.length := hi
  have hml : (mirB (l.take i)).length = i := by unfold mirB; rw [List.length_map, List.length_take]; omega
  refine ite2_decide (fun hl => ?_) (fun hl => ?_)
  · have hl1 : i < l.length := by omega
    have ht := mir_take hl1 (KK.dflt Kd.rule)
    have io : i64ok ((i : Int) + 1) := by unfold i64ok; omega
    have me : l.length - (i + 1) < l.length - i := by omega
    have hq1 : (mirB (l.take i)).length + 1 = (mirB (l.take (i + 1))).length := by rw [ht]; simp
    have put : ∀ w : Int, w = mirW (rd l i (KK.dflt Kd.rule)).1 → mirB (l.take i) ++ [(w, (rd l i (KK.dflt Kd.rule)).2)] = mirB (l.take (i + 1)) := fun w hw => by rw [ht, hw]; rfl
    refine ⟨⟨by omega, hl⟩, hl1, trivial, hl1, ite2_decide (fun h2 => ?_) (fun h2 => ite2_decide (fun h3 => ?_) (fun h3 => ?_))⟩
    · have hq2 := put 3 (by unfold mirW; rw [if_pos h2])
      exact ⟨trivial, ⟨Nat.le_refl _, trivial⟩, by omega, io, (i + 1 : Nat), [], [0, 4], hl1, me, into_mk (by kernel_rfl) (by (repeat' first | exact trivial | exact rfl | exact hq1 | exact hq2 | apply And.intro)) (by (repeat' first | exact trivial | exact rfl | exact hq1 | exact hq2 | apply And.intro))⟩
    · have hq2 := put 2 (by unfold mirW; rw [if_neg h2, if_pos h3])
      exact ⟨trivial, ⟨Nat.le_refl _, trivial⟩, by omega, io, (i + 1 : Nat), [], [0, 4], hl1, me, into_mk (by kernel_rfl) (by (repeat' first | exact trivial | exact rfl | exact hq1 | exact hq2 | apply And.intro)) (by (repeat' first | exact trivial | exact rfl | exact hq1 | exact hq2 | apply And.intro))⟩
    · have hq2 := put (rd l i (KK.dflt Kd.rule)).1 (by unfold mirW; rw [if_neg h2, if_neg h3])
      exact ⟨trivial, ⟨Nat.le_refl _, trivial⟩, by omega, io, (i + 1 : Nat), [], [0, 4], hl1, me, into_mk (by kernel_rfl) (by (repeat' first | exact trivial | exact rfl | exact hq1 | exact hq2 | apply And.intro)) (by (repeat' first | exact trivial | exact rfl | exact hq1 | exact hq2 | apply And.intro))⟩
  · have hq1 : (mirB (l.take i)).length = (mirB l).length := by rw [List.take_of_length_le (by omega)]
    have hq2 : mirB (l.take i) = mirB l := by rw [List.take_of_length_le (by omega)]
    exact ⟨(), [], [0, 1], trivial, by (repeat' first | exact trivial | exact rfl | exact hq1 | exact hq2 | apply And.intro)⟩
end Go.Proofs.YtoidibkcdkdneaaGreatDoor.T
end
