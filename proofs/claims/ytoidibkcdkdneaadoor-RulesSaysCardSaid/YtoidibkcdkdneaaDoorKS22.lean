/- Text 23 of 27 texts that prove the statement of RowSays; it holds without conditions beyond the statement's own. -/
import Derived.Laws.AppendOwn
import Derived.Laws.OwnMore
import Derived.Deep.MidRow
import Derived.Calls
import Derived.Deep.AppendSrc
import Derived.Maps.AppendAt
import Derived.IntWalk
import Derived.Tactics
import Derived.Laws.StructEq
import Derived.Orders
import Derived.Scope
import Derived.Deep.LoopGhost
import GoSem.Core.Utf8
import Derived.Laws.RangeAny
import Derived.Below
import Derived.Deep.Draws
import Derived.Deep.AppendLies
import Derived.OwnWalk
import Derived.Laws.BytesArg
import Derived.Laws.MakeOwn
import Derived.Deep.OwnRows
import Derived.Lib.ConvBytes
import Derived.Laws.Slices
import Derived.WalkKit
import Derived.KernelRfl
import Derived.RowKit3
import Derived.Deep.QuietTactic
import Derived.BigQuiet
import Derived.WideLaws
import Derived.Deep.DeepCutAuto
import Derived.Deep.CutBlock
import Derived.Deep.RegionHeld3
import Derived.Laws.Rows
import Derived.Lib.AppendStr
import Derived.ArgAppend
import Derived.Laws.IdiomCopy
import Derived.RowKit
import Derived.OrdersHeld
import Derived.Laws.BitsLemmas
import Derived.Test.YtoidibkcdkdneaaDoorProg
import Derived.Lib.OthersKept
import Derived.WalkSmall
import Derived.Shelf.Strings.Builder1
import Derived.Shelf.Strings.Builder2
import Derived.Shelf.Strings.OnBuilder
import Derived.Shelf.Small.Wraps
import Derived.Shelf.Strings.Search1
import Derived.Shelf.Strings.Search2
import Derived.Shelf.Strings.Search3
import Derived.Shelf.Strings.Count
import Derived.Shelf.LaysM
import Derived.Shelf.Strings.Shaped
import Derived.Shelf.Strings.LastIndex
import Derived.Shelf.Strings.Prefix
import Derived.Shelf.Strings.Split
import Derived.Shelf.Unicode.DecodeSlow
import Derived.WalkLawsBesides
import Derived.StillTailTactics
import Derived.Lib.Split
import Derived.Lib.LastIndexByte
import Derived.Lib.Join
import Derived.Test.YtoidibkcdkdneaaDoorKS20
import Derived.Test.YtoidibkcdkdneaaDoorKS21
namespace Foot
end Foot
namespace Go.Proofs
end Go.Proofs
namespace Go.Proofs.YtoidibkcdkdneaaDoor
end Go.Proofs.YtoidibkcdkdneaaDoor
namespace Go.Proofs.YtoidibkcdkdneaaDoor.E
end Go.Proofs.YtoidibkcdkdneaaDoor.E
namespace Go.Proofs.YtoidibkcdkdneaaDoor.Hand
end Go.Proofs.YtoidibkcdkdneaaDoor.Hand
namespace Go.Proofs.YtoidibkcdkdneaaDoor.MPat
end Go.Proofs.YtoidibkcdkdneaaDoor.MPat
namespace Go.Proofs.YtoidibkcdkdneaaDoor.MStr
end Go.Proofs.YtoidibkcdkdneaaDoor.MStr
namespace Go.Proofs.YtoidibkcdkdneaaDoor.PRead
end Go.Proofs.YtoidibkcdkdneaaDoor.PRead
namespace Go.Proofs.YtoidibkcdkdneaaDoor.PSplit
end Go.Proofs.YtoidibkcdkdneaaDoor.PSplit
namespace Go.Proofs.YtoidibkcdkdneaaDoor.R
end Go.Proofs.YtoidibkcdkdneaaDoor.R
namespace Go.Proofs.YtoidibkcdkdneaaDoor.T
end Go.Proofs.YtoidibkcdkdneaaDoor.T
namespace Go.Proofs.YtoidibkcdkdneaaDoor.TR
end Go.Proofs.YtoidibkcdkdneaaDoor.TR
namespace Go.Proofs.YtoidibkcdkdneaaDoor.TrulesSays
end Go.Proofs.YtoidibkcdkdneaaDoor.TrulesSays
namespace Go.Proofs.YtoidibkcdkdneaaDoorW.PrintLast
end Go.Proofs.YtoidibkcdkdneaaDoorW.PrintLast
namespace Go.Proofs.YtoidibkcdkdneaaDoorW.PrintMore
end Go.Proofs.YtoidibkcdkdneaaDoorW.PrintMore
namespace Go.Proofs.YtoidibkcdkdneaaDoorW.PrintWords
end Go.Proofs.YtoidibkcdkdneaaDoorW.PrintWords
namespace Kd
end Kd
section
namespace Go.Proofs.YtoidibkcdkdneaaDoor.T
open Go.Proofs.YtoidibkcdkdneaaDoor.E Go.Proofs.YtoidibkcdkdneaaDoor.MStr Go.Proofs.YtoidibkcdkdneaaDoor.R
set_option maxRecDepth 100000
set_option linter.unusedVariables false
theorem mt_congr {n of : Nat} {M M' : Nat → Bool} {O O' : Nat → Nat → Bool} (hM : ∀ i, i < n → M i = M' i) (hO : ∀ i k, i < n → k < of → O i k = O' i k) : ∀ i k, MPat.mt n of M O i k = MPat.mt n of M' O' i k := by
  have key : ∀ d i k, (n - i) + (of - k) ≤ d → MPat.mt n of M O i k = MPat.mt n of M' O' i k := by
    intro d
    induction d with
    | zero =>
      intro i k h
      rw [MPat.mt_end (by omega), MPat.mt_end (by omega)]
    | succ d ih =>
      intro i k h
      rcases Nat.lt_or_ge i n with hi | hi
      · cases hm : M i with
        | true =>
          rw [MPat.mt_many hi hm, MPat.mt_many hi ((hM i hi).symm.trans hm), ih (i + 1) k (by omega)]
          rcases Nat.lt_or_ge k of with hk | hk
          · rw [if_pos hk, if_pos hk, ih i (k + 1) (by omega)]
          · rw [if_neg (by omega), if_neg (by omega)]
        | false =>
          rw [MPat.mt_one hi hm, MPat.mt_one hi ((hM i hi).symm.trans hm)]
          rcases Nat.lt_or_ge k of with hk | hk
          · rw [if_pos hk, if_pos hk, hO i k hi hk, ih (i + 1) (k + 1) (by omega)]
          · rw [if_neg (by omega), if_neg (by omega)]
      · rw [MPat.mt_end (by omega), MPat.mt_end (by omega)]
  exact fun i k => key _ i k (Nat.le_refl _)
theorem bt_same (s : ByteArray) (k : Nat) (h : k < s.size) : E.bt s k = Go.Proofs.YtoidibkcdkdneaaDoorW.PrintWords.bt s (k : Int) := by
  unfold E.bt Go.Proofs.YtoidibkcdkdneaaDoorW.PrintWords.bt
  rw [dif_pos (show ((k : Int)).toNat < s.size by omega)]
  simp only [Int.toNat_natCast]
  have e : s.data.getD k 0 = s[k] := by
    rw [Array.getD, dif_pos (show k < s.data.size from h)]
    rfl
  rw [e]
theorem getD_sn (l : List Hand.Sg) (i : Nat) : (l.map toSn).getD i z0 = toSn (Hand.sgAt l i) := by
  unfold Hand.sgAt
  rw [List.getD_eq_getElem?_getD, List.getD_eq_getElem?_getD, List.getElem?_map]
  cases l[i]? <;> rfl
theorem fit_name (l : List Hand.Sg) (s : ByteArray) : fitA (l.map toSn) s 0 0 = Hand.nameM l s := by
  unfold fitA Hand.nameM
  rw [List.length_map]
  refine mt_congr (fun i _ => ?_) (fun i k _ hk => ?_) 0 0
  · unfold snMany Hand.sgMany; rw [getD_sn]; rfl
  · unfold snOne Hand.sgOne; rw [getD_sn, bt_same s k hk]; rfl
theorem any_idxL (l : List UInt8) : l.any (· == 47) = decide (0 ≤ Lib.indexByte l 47) := by
  induction l with
  | nil => rfl
  | cons c t ih =>
    have hg := Lib.indexByte_ge t 47
    rw [List.any_cons, ih, Lib.indexByte]
    by_cases hc : c = 47
    · subst hc; simp
    · have e : (c == 47) = false := beq_eq_false_iff_ne.2 hc
      rw [e, Bool.false_or, if_neg (by simp)]
      by_cases h1 : Lib.indexByte t 47 = -1
      · rw [h1]; simp
      · rw [if_neg (by simpa using h1)]
        exact decide_eq_decide.2 (by omega)
theorem any_idx (s : ByteArray) : anyTo s s.size = decide (0 ≤ Lib.indexByte s.data.toList 47) := by
  unfold anyTo
  rw [List.take_of_length_le (by simp), any_idxL]
theorem parts_map : ∀ (l : List ByteArray) r, Hand.partsL l = some r → r.1 = l.map (fun p => (⟨p.toList == [42, 42], (Hand.signsOut p).1⟩ : Hand.Pt)) ∧ ∀ p ∈ l, (Hand.signsOut p).2 = true
  | [], r, h => by
    rw [Hand.partsL] at h
    cases h
    exact ⟨rfl, fun p hp => by simp at hp⟩
  | p :: t, r, h => by
    rw [Hand.partsL] at h
    split at h
    · rename_i hp
      rw [Option.map_eq_some_iff] at h
      obtain ⟨q, hq, rfl⟩ := h
      obtain ⟨h1, h2⟩ := parts_map t q hq
      refine ⟨by rw [List.map_cons, ← h1], fun x hx => ?_⟩
      rcases List.mem_cons.1 hx with rfl | hx
      · exact hp
      · exact h2 x hx
    · cases h
theorem sig_out {p : ByteArray} (h : (Hand.signsOut p).2 = true) : rsig p = (Hand.signsOut p).1.map toSn := by
  unfold Hand.signsOut at h ⊢
  unfold rsig rsigL
  cases hs : Hand.signsL p.data.toList with
  | none => rw [hs] at h; cases h
  | some l => rfl
theorem parts_same (l names : List ByteArray) (r : List Hand.Pt × Nat) (h : Hand.partsL l = some r) : mchA l names 0 0 = Hand.partsM r.1 names := by
  obtain ⟨h1, h2⟩ := parts_map l r h
  unfold mchA Hand.partsM
  rw [h1, List.length_map]
  have at_ : ∀ i (hi : i < l.length), Hand.ptAt (l.map (fun p => (⟨p.toList == [42, 42], (Hand.signsOut p).1⟩ : Hand.Pt))) i = ⟨l[i].toList == [42, 42], (Hand.signsOut l[i]).1⟩ := fun i hi => by
    unfold Hand.ptAt
    rw [List.getD_eq_getElem?_getD, List.getElem?_map, List.getElem?_eq_getElem hi]
    rfl
  have pc : ∀ i (hi : i < l.length), pcAt l i = l[i] := fun i hi => by
    unfold pcAt
    rw [List.getD_eq_getElem?_getD, List.getElem?_eq_getElem hi]
    rfl
  refine mt_congr (fun i hi => ?_) (fun i k hi hk => ?_) 0 0
  · unfold Hand.ptMany isDeep
    rw [at_ i hi, pc i hi]
  · unfold Hand.ptOne pcOne
    rw [at_ i hi, pc i hi, sig_out (h2 _ (List.getElem_mem hi)), fit_name]
    rfl
/-- The reference's pattern answers as path.read. -/
theorem read_same (s : ByteArray) : (refP s).2.2 = (Hand.readB s).2.2 ∧ ((refP s).2.2 = true → (refP s).2.1 = (Hand.readB s).2.1 ∧ ∀ names, mchA (refP s).1 names 0 0 = Hand.partsM (Hand.readB s).1 names) := by
  unfold refP Hand.readB
  split
  · exact ⟨rfl, fun h => by cases h⟩
  · split
    · exact ⟨rfl, fun h => by cases h⟩
    · cases h : Hand.partsL (pieces (Hand.trimS s)) with
      | none => exact ⟨rfl, fun h => by cases h⟩
      | some r => exact ⟨rfl, fun _ => ⟨any_idx s, fun names => parts_same _ _ _ h⟩⟩
theorem refP_small (s : ByteArray) (hs : s.size ≤ 1000000) : (refP s).1.length ≤ 1000000 ∧ ∀ x ∈ (refP s).1, x.size ≤ 1000000 := by
  unfold refP
  split
  · exact ⟨Nat.zero_le _, fun x hx => by cases hx⟩
  · rename_i h
    split
    · exact ⟨Nat.zero_le _, fun x hx => by cases hx⟩
    · split
      · exact ⟨Nat.zero_le _, fun x hx => by cases hx⟩
      · have ht := Hand.trim_size s
        exact ⟨by have := pieces_few (Hand.trimS s) s.size ht; show (pieces (Hand.trimS s)).length ≤ 1000000; omega, fun x hx => by have := pieces_size (Hand.trimS s) x hx; omega⟩
theorem splitB_small (p : ByteArray) (hp : p.size ≤ 999999) (m : Int) : (Hand.splitB p m).1.length ≤ 1000000 ∧ ∀ x ∈ (Hand.splitB p m).1, x.size ≤ 1000000 := by
  unfold Hand.splitB
  split
  · exact ⟨Nat.zero_le _, fun x hx => by cases hx⟩
  · split
    · exact ⟨by have := pieces_few p _ hp; show (pieces p).length ≤ 1000000; omega, fun x hx => by have := pieces_size p x hx; omega⟩
    · exact ⟨Nat.zero_le _, fun x hx => by cases hx⟩
def ct_rmatch (s p : ByteArray) : Ct KK := { need := s.size ≤ 999999 ∧ p.size ≤ 999999, pre := [], args := [strv s, strv p], Y := Unit, ok := fun _ => True, ret := fun _ => .tup [.c (.bool (Hand.matchB s p).1), .c (.int .i64 (Hand.matchB s p).2)], post := fun _ => [] }
def tabRm : Tab Tryd.prog KK := ⟨mixed, fun f args H => match f, args with
  | 45, [.one (.c (.str s))] => some (ct_rpat s, [], [])
  | 38, [.one (.c (.str s)), .one (.c (.int _ n))] => some (ct_rsplit s n, [], [])
  | 46, [.one (.c (.slc a _ _ _)), .one (.c (.slc b o _ _))] => match at_ H a, at_ H b with
    | .arr .str l, .arr .str all => some (ct_rmatches l (all.drop o) all o, [], [a, b])
    | _, _ => none
  | _, _ => none, fun f args H ct ks τ h => by
    split at h
    · cases h; exact rpat_ok _
    · cases h; exact rsplit_ok _ _
    · split at h
      · cases h; exact rmatches_ok _ _ _ _
      · cases h
    · cases h⟩
/-- What Join has made of so many first names. -/
def jnS (i : Nat) (s : ByteArray) : ByteArray := if 0 < i then s.append ⟨#[47]⟩ else s
def jn (l : List ByteArray) : Nat → ByteArray
  | 0 => ⟨#[]⟩
  | i + 1 => (jnS i (jn l i)).append (rd l i (ByteArray.mk #[]))
def ct_rjoin (l : List ByteArray) (n : Nat) : Ct KK := { need := l.length ≤ 1000000 ∧ n ≤ l.length ∧ ∀ x ∈ l, x.size ≤ 1000, pre := [.ro .str l], args := [.c (.slc 0 0 n none)], Y := Unit, ok := fun _ => True, ret := fun _ => strv (jn l n), post := fun _ => [.gone] }
def inv_rjoin (l : List ByteArray) (n : Nat) : Inv KK := { X := Nat, fr := fun i => [.c (.slc 0 0 n none), .any, .any, strv (jn l i), i64 i] ++ anys 17, H := fun _ => [.ro .str l], ok := fun i => i ≤ n, meas := fun i : Nat => n - i }
def ann_rjoin (l : List ByteArray) (n : Nat) : Ann KK := { loop := fun _ _ _ => some (inv_rjoin l n), cut := fun _ _ _ => none, keep := some 5 }
theorem vc_rjoin (l : List ByteArray) (n : Nat) : evFn tabRm (ann_rjoin l n) Tryd.f39 (ct_rjoin l n) = ( Enter 1 (inv_rjoin l n) (fun (x : Nat) => True) ([VV.one (V1.c (C.slc 0 0 n none)), VV.any, VV.one (V1.c (C.str (ByteArray.mk (#[])))), VV.one (V1.c (C.str (ByteArray.mk (#[])))), i64 (0 : Int)] ++ anys
 17) [Atom.ro Kd.str l] ∧ ∀ (z : Nat), z ≤ n → ite2 (decide ((↑z : Int) < (↑n : Int))) (ite2 (decide ((0 : Int) < (↑z : Int))) ((jn l z).size + 1 ≤ 9223372036854775807 ∧ ((0 : Int) ≤ (↑z : Int) ∧ (↑z :
 Int) < (↑n : Int)) ∧ (↑z : Int).toNat < l.length ∧ True ∧ (↑z : Int).toNat < l.length ∧ ((jn l z).append (ByteArray.mk (#[(47 : UInt8)]))).size + ByteArray.size (rd l (↑z : Int).toNat (ByteArray.mk (#[])))
 ≤ 9223372036854775807 ∧ i64ok ((↑z : Int) + (1 : Int)) ∧ Enter 1 (inv_rjoin l n) (fun (z' : Nat) => n - z' < n - z) ([VV.one (V1.c (C.slc 0 0 n none)), VV.any, VV.any, VV.one (V1.c (C.str (((jn l z).append
 (ByteArray.mk (#[(47 : UInt8)]))).append (rd l (↑z : Int).toNat (ByteArray.mk (#[])))))), i64 ((↑z : Int) + (1 : Int))] ++ anys 17) [Atom.ro Kd.str l]) (((0 : Int) ≤ (↑z : Int) ∧ (↑z : Int) < (↑n : Int))
 ∧ (↑z : Int).toNat < l.length ∧ True ∧ (↑z : Int).toNat < l.length ∧ (jn l z).size + ByteArray.size (rd l (↑z : Int).toNat (ByteArray.mk (#[]))) ≤ 9223372036854775807 ∧ i64ok ((↑z : Int) + (1 : Int)) ∧
 Enter 1 (inv_rjoin l n) (fun (z' : Nat) => n - z' < n - z) ([VV.one (V1.c (C.slc 0 0 n none)), VV.any, VV.any, VV.one (V1.c (C.str ((jn l z).append (rd l (↑z : Int).toNat (ByteArray.mk (#[])))))), i64
 ((↑z : Int) + (1 : Int))] ++ anys 17) [Atom.ro Kd.str l])) (EndsAs 1 (ct_rjoin l n) (VV.one (V1.c (C.str (jn l z)))) [Atom.ro Kd.str l])) := by kernel_rfl
theorem vc_rmatch (s p : ByteArray) : evFn tabRm ann0 Tryd.f32 (ct_rmatch s p) = ( s.size ≤ 1000000 ∧ Into (K := KK) 0 [] [] [VV.one (V1.c (C.str s))] [] [VV.one (V1.c (C.str s))] [] ∧ ∀ (y : Unit), True → ite2 (refP s).snd.snd ((p.size ≤ 1000000 ∧ i64ok (64 : Int)) ∧ Into (K := KK)
 0 [] [] [VV.one (V1.c (C.str p)), i64 (64 : Int)] [Atom.arr Kd.str (refP s).fst] [VV.one (V1.c (C.str p)), i64 (64 : Int)] [] ∧ ∀ (y : Unit), True → ite2 (decide ((Hand.splitB p (64 : Int)).snd = (0 :
 Int))) (ite2 (decide ((↑(Hand.splitB p (64 : Int)).fst.length : Int) = (0 : Int))) (EndsAs 0 (ct_rmatch s p) (VV.tup [V1.c (C.bool false), V1.c (C.int .i64 (0 : Int))]) [Atom.arr Kd.str (refP s).fst, Atom.arr
 Kd.str (Hand.splitB p (64 : Int)).fst]) (ite2 (refP s).snd.fst ((((refP s).fst.length ≤ 1000000 ∧ (Hand.splitB p (64 : Int)).fst.length ≤ 1000000) ∧ (∀ (x : ByteArray), List.Mem x (refP s).fst → x.size
 ≤ 1000000) ∧ (∀ (x : ByteArray), List.Mem x (Hand.splitB p (64 : Int)).fst → x.size ≤ 1000000) ∧ (Hand.splitB p (64 : Int)).fst = (Hand.splitB p (64 : Int)).fst ∧ 0 ≤ (Hand.splitB p (64 : Int)).fst.length)
 ∧ Into (K := KK) 0 [] [0, 1] [VV.one (V1.c (C.slc 0 0 (refP s).fst.length none)), VV.one (V1.c (C.slc 1 0 (Hand.splitB p (64 : Int)).fst.length none))] [Atom.arr Kd.str (refP s).fst, Atom.arr Kd.str (Hand.splitB
 p (64 : Int)).fst] [VV.one (V1.c (C.slc 0 0 (refP s).fst.length none)), VV.one (V1.c (C.slc 1 0 (Hand.splitB p (64 : Int)).fst.length none))] [Atom.ro Kd.str (refP s).fst, Atom.ro Kd.str (Hand.splitB p
 (64 : Int)).fst] ∧ ∀ (y : Unit), True → EndsAs 0 (ct_rmatch s p) (VV.tup [V1.c (C.bool (mchA (refP s).fst (Hand.splitB p (64 : Int)).fst 0 0)), V1.c (C.int .i64 (0 : Int))]) [Atom.arr Kd.str (refP s).fst,
 Atom.arr Kd.str (Hand.splitB p (64 : Int)).fst]) (i64ok ((↑(Hand.splitB p (64 : Int)).fst.length : Int) - (1 : Int)) ∧ ((0 : Int) ≤ (↑(Hand.splitB p (64 : Int)).fst.length : Int) - (1 : Int) ∧ (↑(Hand.splitB
 p (64 : Int)).fst.length : Int) - (1 : Int) ≤ (↑(Hand.splitB p (64 : Int)).fst.length : Int)) ∧ (0 : Int) + (↑(Hand.splitB p (64 : Int)).fst.length : Int) ≤ (↑(Hand.splitB p (64 : Int)).fst.length : Int)
 ∧ (((refP s).fst.length ≤ 1000000 ∧ (List.drop (0 + ((↑(Hand.splitB p (64 : Int)).fst.length : Int) - (1 : Int)).toNat) (Hand.splitB p (64 : Int)).fst).length ≤ 1000000) ∧ (∀ (x : ByteArray), List.Mem
 x (refP s).fst → x.size ≤ 1000000) ∧ (∀ (x : ByteArray), List.Mem x (List.drop (0 + ((↑(Hand.splitB p (64 : Int)).fst.length : Int) - (1 : Int)).toNat) (Hand.splitB p (64 : Int)).fst) → x.size ≤ 1000000)
 ∧ List.drop (0 + ((↑(Hand.splitB p (64 : Int)).fst.length : Int) - (1 : Int)).toNat) (Hand.splitB p (64 : Int)).fst = List.drop (0 + ((↑(Hand.splitB p (64 : Int)).fst.length : Int) - (1 : Int)).toNat)
 (Hand.splitB p (64 : Int)).fst ∧ 0 + ((↑(Hand.splitB p (64 : Int)).fst.length : Int) - (1 : Int)).toNat ≤ (Hand.splitB p (64 : Int)).fst.length) ∧ Into (K := KK) 0 [] [0, 1] [VV.one (V1.c (C.slc 0 0 (refP
 s).fst.length none)), VV.one (V1.c (C.slc 1 (0 + ((↑(Hand.splitB p (64 : Int)).fst.length : Int) - (1 : Int)).toNat) ((↑(Hand.splitB p (64 : Int)).fst.length : Int) - ((↑(Hand.splitB p (64 : Int)).fst.length
 : Int) - (1 : Int))).toNat none))] [Atom.arr Kd.str (refP s).fst, Atom.arr Kd.str (Hand.splitB p (64 : Int)).fst] [VV.one (V1.c (C.slc 0 0 (refP s).fst.length none)), VV.one (V1.c (C.slc 1 (0 + ((↑(Hand.splitB
 p (64 : Int)).fst.length : Int) - (1 : Int)).toNat) (List.drop (0 + ((↑(Hand.splitB p (64 : Int)).fst.length : Int) - (1 : Int)).toNat) (Hand.splitB p (64 : Int)).fst).length none))] [Atom.ro Kd.str (refP
 s).fst, Atom.ro Kd.str (Hand.splitB p (64 : Int)).fst] ∧ ∀ (y : Unit), True → EndsAs 0 (ct_rmatch s p) (VV.tup [V1.c (C.bool (mchA (refP s).fst (List.drop (0 + ((↑(Hand.splitB p (64 : Int)).fst.length
 : Int) - (1 : Int)).toNat) (Hand.splitB p (64 : Int)).fst) 0 0)), V1.c (C.int .i64 (0 : Int))]) [Atom.arr Kd.str (refP s).fst, Atom.arr Kd.str (Hand.splitB p (64 : Int)).fst]))) (EndsAs 0 (ct_rmatch s
 p) (VV.tup [V1.c (C.bool false), V1.c (C.int .i64 (Hand.splitB p (64 : Int)).snd)]) [Atom.arr Kd.str (refP s).fst, Atom.arr Kd.str (Hand.splitB p (64 : Int)).fst])) (EndsAs 0 (ct_rmatch s p) (VV.tup [V1.c
 (C.bool false), V1.c (C.int .i64 (32 : Int))]) [Atom.arr Kd.str (refP s).fst])) := by kernel_rfl
theorem rmatch_ok (s p : ByteArray) : CtOk Tryd.prog 32 (ct_rmatch s p) := CtOk_of KK_ok tabRm ann0 (fn := Tryd.f32) rfl (fun _ _ => rfl) fun hn => by
  obtain ⟨hs, hp⟩ := hn
  obtain ⟨r1, r2⟩ := read_same s
  obtain ⟨w1, w2⟩ := refP_small s (by omega)
  obtain ⟨u1, u2⟩ := splitB_small p hp 64
  rw [vc_rmatch]
  have m64 : i64ok 64 := by unfold i64ok; omega
  refine ⟨by omega, into_mk (by kernel_rfl) (by (repeat' first | exact trivial | exact rfl | apply And.intro)) (by (repeat' first | exact trivial | exact rfl | apply And.intro)), fun _ _ => ite2_mk (fun hg => ?_) (fun hg => ?_)⟩
  · have hr : (Hand.readB s).2.2 = true := by rw [← r1]; exact hg
    obtain ⟨r3, r4⟩ := r2 hg
    have ends : ∀ (v : Bool) (e : Int) (a b : Atom KK), Hand.matchB s p = (v, e) → EndsAs 0 (ct_rmatch s p) (VV.tup [V1.c (C.bool v), V1.c (C.int .i64 e)]) [a, b] := fun v e a b h => by
      have q1 : v = (Hand.matchB s p).1 := by rw [h]
      have q2 : e = (Hand.matchB s p).2 := by rw [h]
      exact ⟨(), [], [], trivial, by (repeat' first | exact trivial | exact rfl | exact q1 | exact q2 | apply And.intro)⟩
    refine ⟨⟨by omega, m64⟩, into_mk (by kernel_rfl) (by (repeat' first | exact trivial | exact rfl | apply And.intro)) (by (repeat' first | exact trivial | exact rfl | apply And.intro)), fun _ _ => ite2_decide (fun he => ite2_decide (fun h0 => ends _ _ _ _ ?_) (fun h0 => ?_)) (fun he => ends _ _ _ _ ?_)⟩
    · unfold Hand.matchB
      rw [if_neg (by rw [hr]; simp), if_neg (by simpa using he), if_pos (List.eq_nil_of_length_eq_zero (by omega))]
    · have hne : ¬ (Hand.splitB p 64).1 = [] := fun e => h0 (by rw [e]; rfl)
      refine ite2_mk (fun ha => ?_) (fun ha => ?_)
      · refine ⟨⟨⟨w1, u1⟩, w2, u2, rfl, Nat.zero_le _⟩, into_mk (by kernel_rfl) (by (repeat' first | exact trivial | exact rfl | apply And.intro)) (by (repeat' first | exact trivial | exact rfl | apply And.intro)), fun _ _ => ends _ _ _ _ ?_⟩
        unfold Hand.matchB
        rw [if_neg (by rw [hr]; simp), if_neg (by simpa using he), if_neg hne, if_neg (by rw [← r3, ha]; simp), r4]
      · have e1 : 0 + (((Hand.splitB p 64).1.length : Int) - 1).toNat = (Hand.splitB p 64).1.length - 1 := by omega
        have q1 : (((Hand.splitB p 64).1.length : Int) - (((Hand.splitB p 64).1.length : Int) - 1)).toNat = (List.drop (0 + (((Hand.splitB p 64).1.length : Int) - 1).toNat) (Hand.splitB p 64).1).length := by rw [List.length_drop]; omega
        refine ⟨by unfold i64ok; omega, ⟨by omega, by omega⟩, by omega, ⟨⟨w1, by rw [List.length_drop]; omega⟩, w2, fun x hx => u2 x (List.mem_of_mem_drop hx), rfl, by omega⟩, into_mk (by kernel_rfl) (by (repeat' first | exact trivial | exact rfl | exact q1 | exact q1.symm | apply And.intro)) (by (repeat' first | exact trivial | exact rfl | apply And.intro)), fun _ _ => ends _ _ _ _ ?_⟩
        unfold Hand.matchB
        rw [if_neg (by rw [hr]; simp), if_neg (by simpa using he), if_neg hne, if_pos (by rw [← r3, ha]), r4, e1]
    · unfold Hand.matchB
      rw [if_neg (by rw [hr]; simp), if_pos he]
  · have hr : (Hand.readB s).2.2 = false := by rw [← r1]; exact hg
    have h : Hand.matchB s p = (false, 32) := by unfold Hand.matchB; rw [if_pos hr]
    have q1 : false = (Hand.matchB s p).1 := by rw [h]
    have q2 : (32 : Int) = (Hand.matchB s p).2 := by rw [h]
    exact ⟨(), [], [], trivial, by (repeat' first | exact trivial | exact rfl | exact q1 | exact q2 | apply And.intro)⟩
theorem jn_small (l : List ByteArray) (hs : ∀ x ∈ l, x.size ≤ 1000) : ∀ n, n ≤ l.length → (jn l n).size ≤ 1001 * n
  | 0, _ => Nat.le_refl _
  | i + 1, h => by
    have := jn_small l hs i (by omega)
    have h2 : (rd l i (ByteArray.mk #[])).size ≤ 1000 := hs _ (rd_inB l i _ h)
    rw [jn, ByteArray.append_eq, ByteArray.size_append]
    unfold jnS
    split
    · rw [ByteArray.append_eq, ByteArray.size_append]
      show (jn l i).size + 1 + _ ≤ _
      omega
    · omega
theorem rjoin_ok (l : List ByteArray) (n : Nat) : CtOk Tryd.prog 39 (ct_rjoin l n) := CtOk_of KK_ok tabRm (ann_rjoin l n) (fn := Tryd.f39) rfl (fun _ _ => rfl) fun hn => by
  obtain ⟨hl, hn, hs⟩ := hn
  rw [vc_rjoin]
  refine ⟨⟨(0 : Nat), [], [0], Nat.zero_le _, trivial, into_mk (by kernel_rfl) (by (repeat' first | exact trivial | exact rfl | apply And.intro)) (by (repeat' first | exact trivial | exact rfl | apply And.intro))⟩, ?_⟩
  intro i hi
  have hi : i ≤ n := hi
  simp only [Int.toNat_natCast]
  refine ite2_decide (fun hlt => ?_) (fun hlt => ?_)
  · have hj := jn_small l hs i (by omega)
    have hil : i < l.length := by omega
    have hx : (rd l i (ByteArray.mk #[])).size ≤ 1000 := hs _ (rd_inB l i _ hil)
    have me : n - (i + 1) < n - i := by omega
    refine ite2_decide (fun h0 => ?_) (fun h0 => ?_)
    · have q1 : ((jn l i).append ⟨#[47]⟩).append (rd l i (ByteArray.mk #[])) = jn l (i + 1) := by rw [jn, jnS, if_pos (by omega)]
      have e2 : ((jn l i).append ⟨#[47]⟩).size = (jn l i).size + 1 := by rw [ByteArray.append_eq, ByteArray.size_append]; rfl
      exact ⟨by omega, ⟨by omega, hlt⟩, hil, trivial, hil, by omega, by unfold i64ok; omega, (i + 1 : Nat), [], [0], (show i + 1 ≤ n by omega), me, into_mk (by kernel_rfl) (by (repeat' first | exact trivial | exact rfl | exact q1 | apply And.intro)) (by (repeat' first | exact trivial | exact rfl | apply And.intro))⟩
    · have q1 : (jn l i).append (rd l i (ByteArray.mk #[])) = jn l (i + 1) := by rw [jn, jnS, if_neg (by omega)]
      exact ⟨⟨by omega, hlt⟩, hil, trivial, hil, by omega, by unfold i64ok; omega, (i + 1 : Nat), [], [0], (show i + 1 ≤ n by omega), me, into_mk (by kernel_rfl) (by (repeat' first | exact trivial | exact rfl | exact q1 | apply And.intro)) (by (repeat' first | exact trivial | exact rfl | apply And.intro))⟩
  · obtain rfl : i = n := by omega
    exact ⟨(), [], [0], trivial, by (repeat' first | exact trivial | exact rfl | apply And.intro)⟩
end Go.Proofs.YtoidibkcdkdneaaDoor.T
end
section
namespace Go.Proofs.YtoidibkcdkdneaaDoor.T
open Go.Proofs.YtoidibkcdkdneaaDoor.E Go.Proofs.YtoidibkcdkdneaaDoor.MStr Go.Proofs.YtoidibkcdkdneaaDoor.R
set_option maxRecDepth 100000
set_option linter.unusedVariables false
set_option linter.unusedSimpArgs false
def plainN (s : ByteArray) (a b : Nat) : Prop := ∀ j, a ≤ j → j < b → j < s.size → s.get! j ≠ 10
/-- What a left-to-right cutting at line feeds has done. -/
structure CutN (s : ByteArray) (acc : List ByteArray) (a b : Nat) : Prop where
  few : acc.length ≤ a
  le : a ≤ b
  le' : b ≤ s.size
  plain : plainN s a b
  all : linesB s = acc ++ (cutsN (s.data.toList.drop a)).map tx
theorem CutN.start (s : ByteArray) : CutN s [] 0 0 := ⟨Nat.le_refl _, Nat.le_refl _, Nat.zero_le _, fun j _ h => by omega, by simp [linesB]⟩
theorem CutN.feed {s : ByteArray} {acc : List ByteArray} {a b : Nat} (h : CutN s acc a b) (hb : b < s.size) (hs : s.get! b = 10) : CutN s (acc ++ [s.extract a b]) (b + 1) (b + 1) := by
  refine ⟨by have := h.few; have := h.le; rw [List.length_append, List.length_singleton]; omega, Nat.le_refl _, by omega, fun j h1 h2 => by omega, ?_⟩
  have e : s.data.toList.drop a = (s.data.toList.drop a).take (b - a) ++ 10 :: s.data.toList.drop (b + 1) := by
    have h1 := (List.take_append_drop (b - a) (s.data.toList.drop a)).symm
    rw [List.drop_drop, show a + (b - a) = b by have := h.le; omega, drop_get s b hb, hs] at h1
    exact h1
  rw [h.all, e, cutsN_cut _ _ (fun c hc => ?_), List.map_cons, extract_tx]
  · simp
  · obtain ⟨j, h1, h2, h3, rfl⟩ := mem_mid s a b c hc
    exact h.plain j h1 h2 h3
theorem CutN.pass {s : ByteArray} {acc : List ByteArray} {a b : Nat} (h : CutN s acc a b) (hn : b < s.size) (hs : s.get! b ≠ 10) : CutN s acc a (b + 1) :=
  ⟨h.few, by have := h.le; omega, hn, fun j h1 h2 h3 => by
    by_cases e : j < b
    · exact h.plain j h1 e h3
    · obtain rfl : j = b := by omega
      exact hs, h.all⟩
theorem CutN.fin {s : ByteArray} {acc : List ByteArray} {a b : Nat} (h : CutN s acc a b) (hb : ¬ b < s.size) : linesB s = acc ++ [s.extract a s.size] := by
  have e : s.data.toList.drop a = (s.data.toList.drop a).take (s.size - a) := by
    rw [List.take_of_length_le]; rw [List.length_drop]; simp
  rw [h.all, cutsN_none _ (fun c hc => ?_), extract_tx, ← e]
  · rfl
  · rw [e] at hc
    obtain ⟨j, h1, h2, h3, rfl⟩ := mem_mid s a s.size c hc
    exact h.plain j h1 (by omega) h3
def ct_rlines (s : ByteArray) : Ct KK := { need := s.size ≤ 1000000, pre := [], args := [strv s], Y := Unit, ok := fun _ => True, ret := fun _ => .c (.slc 0 0 (linesB s).length none), post := fun _ => [.arr .str (linesB s)] }
def inv_rlines (s : ByteArray) : Inv KK := { X := List ByteArray × Nat × Nat, fr := fun z => [strv s, .any, .any, .c (.slc 0 0 z.1.length none), i64 z.2.1, i64 z.2.2] ++ anys 25, H := fun z => [.arr .str z.1], ok := fun z => CutN s z.1 z.2.1 z.2.2, meas := fun z => s.size - z.2.2 }
def ann_rlines (s : ByteArray) : Ann KK := { loop := fun _ _ _ => some (inv_rlines s), cut := fun _ _ _ => none, keep := some 6 }
def aftB (s h : ByteArray) : ByteArray × Bool := if Lib.hasPrefix s.data.toList h.data.toList = true then (tx (Lib.trimPrefix s.data.toList h.data.toList), true) else (⟨#[]⟩, false)
def ct_rafter (s h : ByteArray) : Ct KK := { need := s.size ≤ 1000000 ∧ h.size ≤ 1000000, pre := [], args := [strv s, strv h], Y := Unit, ok := fun _ => True, ret := fun _ => .tup [.c (.str (aftB s h).1), .c (.bool (aftB s h).2)], post := fun _ => [] }
def AftOk : Prop := ∀ s h, CtOk Tryd.prog 44 (ct_rafter s h)
def tabRx (AFT : AftOk) : Tab Tryd.prog KK := ⟨mixed, fun f args H => match f, args with
  | 44, [.one (.c (.str s)), .one (.c (.str h))] => some (ct_rafter s h, [], [])
  | _, _ => none, fun f args H ct ks τ h => by
    split at h
    · cases h; exact AFT _ _
    · cases h⟩
def hds : List ByteArray := [⟨#[115, 107, 105, 112, 32]⟩, ⟨#[112, 114, 101, 102, 101, 114, 32, 97, 32]⟩, ⟨#[112, 114, 101, 102, 101, 114, 32, 98, 32]⟩]
def noHd (s : ByteArray) (z : Nat) : Prop := z ≤ 3 ∧ ∀ j : Nat, j < z → Lib.hasPrefix s.data.toList (R.hd (j + 1)) = false
def ct_rrule (s : ByteArray) : Ct KK := { need := s.size ≤ 1000000, pre := [], args := [strv s], Y := Unit, ok := fun _ => True, ret := fun _ => .tup [.agg [.int .i64 (readR s).1, .str (readR s).2.1], .c (.bool (readR s).2.2)], post := fun _ => [] }
def inv_rrule (s : ByteArray) : Inv KK := { X := Nat, fr := fun i => [strv s, .any, .c (.ptr 0 0 0), .any, .c (.slc 1 0 3 none), i64 i] ++ anys 22, H := fun _ => [.cells 50 [.int .i64 0, .str ⟨#[]⟩], .arr .str hds], ok := fun i => noHd s i, meas := fun i : Nat => 3 - i }
def ann_rrule (s : ByteArray) : Ann KK := { loop := fun _ _ _ => some (inv_rrule s), cut := fun _ _ _ => none, keep := some 6 }
theorem vc_rlines (s : ByteArray) : evFn tab0 (ann_rlines s) Tryd.f30 (ct_rlines s) = ( Enter 0 (inv_rlines s) (fun (x : List ByteArray × Nat × Nat) => True) ([VV.one (V1.c (C.str s)), VV.any, VV.one (V1.c C.nils), VV.one (V1.c C.nils), i64 (0 : Int), i64 (0 : Int)] ++ anys 25) [] ∧ ∀ (z
 : List ByteArray × Nat × Nat), CutN s z.fst z.snd.fst z.snd.snd → ite2 (decide ((↑z.snd.snd : Int) < (↑s.size : Int))) (((0 : Int) ≤ (↑z.snd.snd : Int) ∧ (↑z.snd.snd : Int) < (↑s.size : Int)) ∧ ite2 (decide
 (bt s (↑z.snd.snd : Int).toNat = (10 : Int))) (((0 : Int) ≤ (↑z.snd.fst : Int) ∧ (↑z.snd.fst : Int) ≤ (↑z.snd.snd : Int) ∧ (↑z.snd.snd : Int) ≤ (↑s.size : Int)) ∧ z.fst.length = z.fst.length ∧ (1 ≤ 1 ∧
 True) ∧ (z.fst.length + 1) * 16 ≤ 140737488355328 ∧ i64ok ((↑z.snd.snd : Int) + (1 : Int)) ∧ i64ok ((↑z.snd.snd : Int) + (1 : Int)) ∧ Enter 0 (inv_rlines s) (fun (z' : List ByteArray × Nat × Nat) => s.size
 - z'.snd.snd < s.size - z.snd.snd) ([VV.one (V1.c (C.str s)), VV.any, VV.any, VV.one (V1.c (C.slc 2 0 (z.fst.length + 1) none)), i64 ((↑z.snd.snd : Int) + (1 : Int)), i64 ((↑z.snd.snd : Int) + (1 : Int))]
 ++ anys 25) [Atom.gone, Atom.arr Kd.str [s.extract (↑z.snd.fst : Int).toNat (↑z.snd.snd : Int).toNat], Atom.arr Kd.str (z.fst ++ [s.extract (↑z.snd.fst : Int).toNat (↑z.snd.snd : Int).toNat])]) (i64ok
 ((↑z.snd.snd : Int) + (1 : Int)) ∧ Enter 0 (inv_rlines s) (fun (z' : List ByteArray × Nat × Nat) => s.size - z'.snd.snd < s.size - z.snd.snd) ([VV.one (V1.c (C.str s)), VV.any, VV.any, VV.one (V1.c (C.slc
 0 0 z.fst.length none)), i64 (↑z.snd.fst : Int), i64 ((↑z.snd.snd : Int) + (1 : Int))] ++ anys 25) [Atom.arr Kd.str z.fst])) (((0 : Int) ≤ (↑z.snd.fst : Int) ∧ (↑z.snd.fst : Int) ≤ (↑s.size : Int) ∧ (↑s.size
 : Int) ≤ (↑s.size : Int)) ∧ z.fst.length = z.fst.length ∧ (1 ≤ 1 ∧ True) ∧ (z.fst.length + 1) * 16 ≤ 140737488355328 ∧ EndsAs 0 (ct_rlines s) (VV.one (V1.c (C.slc 2 0 (z.fst.length + 1) none))) [Atom.gone,
 Atom.arr Kd.str [s.extract (↑z.snd.fst : Int).toNat (↑s.size : Int).toNat], Atom.arr Kd.str (z.fst ++ [s.extract (↑z.snd.fst : Int).toNat (↑s.size : Int).toNat])])) := by kernel_rfl
theorem vc_rafter (s h : ByteArray) : evFn tab0 ann0 Tryd.f44 (ct_rafter s h) = ( ite2 (decide ((↑s.size : Int) < (↑h.size : Int))) (EndsAs 0 (ct_rafter s h) (VV.tup [V1.c (C.str (ByteArray.mk (#[]))), V1.c (C.bool false)]) []) (((0 : Int) ≤ (0 : Int) ∧ (0 : Int) ≤ (↑h.size : Int)
 ∧ (↑h.size : Int) ≤ (↑s.size : Int)) ∧ ite2 (decide ((s.extract 0 (↑h.size : Int).toNat).toList = h.toList)) (((0 : Int) ≤ (↑h.size : Int) ∧ (↑h.size : Int) ≤ (↑s.size : Int) ∧ (↑s.size : Int) ≤ (↑s.size
 : Int)) ∧ EndsAs 0 (ct_rafter s h) (VV.tup [V1.c (C.str (s.extract (↑h.size : Int).toNat (↑s.size : Int).toNat)), V1.c (C.bool true)]) []) (EndsAs 0 (ct_rafter s h) (VV.tup [V1.c (C.str (ByteArray.mk (#[]))),
 V1.c (C.bool false)]) []))) := by kernel_rfl
theorem vc_rrule (AFT : AftOk) (s : ByteArray) : evFn (tabRx AFT) (ann_rrule s) Tryd.f31 (ct_rrule s) = ( Enter 0 (inv_rrule s) (fun (x : Nat) => True) ([VV.one (V1.c (C.str s)), VV.any, VV.one (V1.c (C.ptr 0 0 0)), boolv false, VV.one (V1.c (C.slc 1 0 3 none)), i64 (0 : Int)] ++ anys 22) [Atom.cells 50 [C.int
 .i64 (0 : Int), C.str (ByteArray.mk (#[]))], Atom.arr Kd.str [(ByteArray.mk (#[(115 : UInt8), (107 : UInt8), (105 : UInt8), (112 : UInt8), (32 : UInt8)])), (ByteArray.mk (#[(112 : UInt8), (114 : UInt8),
 (101 : UInt8), (102 : UInt8), (101 : UInt8), (114 : UInt8), (32 : UInt8), (97 : UInt8), (32 : UInt8)])), (ByteArray.mk (#[(112 : UInt8), (114 : UInt8), (101 : UInt8), (102 : UInt8), (101 : UInt8), (114
 : UInt8), (32 : UInt8), (98 : UInt8), (32 : UInt8)]))]] ∧ ∀ (z : Nat), noHd s z → ite2 (decide ((↑z : Int) < (3 : Int))) (((0 : Int) ≤ (↑z : Int) ∧ (↑z : Int) < (3 : Int)) ∧ (↑z : Int).toNat < 3 ∧ True
 ∧ (↑z : Int).toNat < 3 ∧ (s.size ≤ 1000000 ∧ ByteArray.size (rd hds (↑z : Int).toNat (ByteArray.mk (#[]))) ≤ 1000000) ∧ Into (K := KK) 0 [] [] [VV.one (V1.c (C.str s)), VV.one (V1.c (C.str (rd hds (↑z
 : Int).toNat (ByteArray.mk (#[])))))] [Atom.cells 50 [C.int .i64 (0 : Int), C.str (ByteArray.mk (#[]))], Atom.arr Kd.str hds] [VV.one (V1.c (C.str s)), VV.one (V1.c (C.str (rd hds (↑z : Int).toNat (ByteArray.mk
 (#[])))))] [] ∧ ∀ (y : Unit), True → ite2 (aftB s (rd hds (↑z : Int).toNat (ByteArray.mk ((#[]))))).snd (i64ok ((↑z : Int) + (1 : Int)) ∧ EndsAs 0 (ct_rrule s) (VV.tup [V1.agg [C.int .i64 ((↑z : Int) +
 (1 : Int)), C.str (aftB s (rd hds (↑z : Int).toNat (ByteArray.mk ((#[]))))).fst], V1.c (C.bool true)]) [Atom.cells 50 [C.int .i64 ((↑z : Int) + (1 : Int)), C.str (aftB s (rd hds (↑z : Int).toNat (ByteArray.mk
 ((#[]))))).fst], Atom.arr Kd.str hds]) (i64ok ((↑z : Int) + (1 : Int)) ∧ Enter 0 (inv_rrule s) (fun (z' : Nat) => 3 - z' < 3 - z) ([VV.one (V1.c (C.str s)), VV.any, VV.one (V1.c (C.ptr 0 0 0)), VV.any,
 VV.one (V1.c (C.slc 1 0 3 none)), i64 ((↑z : Int) + (1 : Int))] ++ anys 22) [Atom.cells 50 [C.int .i64 (0 : Int), C.str (ByteArray.mk (#[]))], Atom.arr Kd.str hds])) (EndsAs 0 (ct_rrule s) (VV.tup [V1.agg
 [C.int .i64 (0 : Int), C.str (ByteArray.mk (#[]))], V1.c (C.bool false)]) [Atom.cells 50 [C.int .i64 (0 : Int), C.str (ByteArray.mk (#[]))], Atom.arr Kd.str hds])) := by kernel_rfl
theorem rlines_ok (s : ByteArray) : CtOk Tryd.prog 30 (ct_rlines s) := CtOk_of KK_ok tab0 (ann_rlines s) (fn := Tryd.f30) rfl (fun _ _ => rfl) fun hn => by
  have hn : s.size ≤ 1000000 := hn
  rw [vc_rlines]
  simp only [Int.toNat_natCast, Nat.zero_add, Nat.add_zero]
  refine ⟨⟨([], (0 : Nat), (0 : Nat)), [.str], [0], CutN.start s, trivial, into_mk (by kernel_rfl) (by (repeat' first | exact trivial | exact rfl | apply And.intro)) (by (repeat' first | exact trivial | exact rfl | apply And.intro))⟩, ?_⟩
  rintro ⟨acc, a, b⟩ hz
  have hz : CutN s acc a b := hz
  have h1 := hz.few
  have h2 := hz.le
  have h3 := hz.le'
  dsimp only
  refine ite2_decide (fun hl => ?_) (fun hl => ?_)
  · have hl1 : b < s.size := by omega
    refine ⟨⟨by omega, by omega⟩, ite2_decide (fun hs => ?_) (fun hs => ?_)⟩
    · have hs : bt s b = 10 := hs
      rw [bt_get] at hs
      have hs1 : s.get! b = 10 := by
        apply UInt8.toNat_inj.1
        show (s.get! b).toNat = 10
        omega
      have hq3 : acc.length + 1 = (acc ++ [s.extract a b]).length := by simp
      exact ⟨⟨by omega, by omega, by omega⟩, trivial, ⟨Nat.le_refl _, trivial⟩, by omega, by unfold i64ok; omega, by unfold i64ok; omega, (acc ++ [s.extract a b], b + 1, b + 1), [], [2], hz.feed hl1 hs1, by show s.size - (b + 1) < s.size - b; omega, into_mk (by kernel_rfl) (by (repeat' first | exact trivial | exact rfl | exact hq3 | apply And.intro)) (by (repeat' first | exact trivial | exact rfl | exact hq3 | apply And.intro))⟩
    · have hs : ¬ bt s b = 10 := hs
      rw [bt_get] at hs
      exact ⟨by unfold i64ok; omega, (acc, a, b + 1), [], [0], hz.pass hl1 (fun e => hs (by rw [e]; rfl)), by show s.size - (b + 1) < s.size - b; omega, into_mk (by kernel_rfl) (by (repeat' first | exact trivial | exact rfl | apply And.intro)) (by (repeat' first | exact trivial | exact rfl | apply And.intro))⟩
  · have hf := hz.fin (by omega)
    have hq1 : acc.length + 1 = (linesB s).length := by rw [hf]; simp
    have hq2 : acc ++ [s.extract a s.size] = linesB s := hf.symm
    exact ⟨⟨by omega, by omega, by omega⟩, trivial, ⟨Nat.le_refl _, trivial⟩, by omega, (), [], [2], trivial, by (repeat' first | exact trivial | exact rfl | exact hq1 | exact hq2 | apply And.intro)⟩
theorem rafter_ok (s h : ByteArray) : CtOk Tryd.prog 44 (ct_rafter s h) := CtOk_of KK_ok tab0 ann0 (fn := Tryd.f44) rfl (fun _ _ => rfl) fun hn => by
  have hr := Lib.hasPrefix_raw s h
  rw [vc_rafter]
  simp only [Int.toNat_natCast]
  have ends : ∀ x v, aftB s h = (x, v) → EndsAs 0 (ct_rafter s h) (VV.tup [V1.c (C.str x), V1.c (C.bool v)]) [] := fun x v e => by
    have q1 : x = (aftB s h).1 := by rw [e]
    have q2 : v = (aftB s h).2 := by rw [e]
    exact ⟨(), [], [], trivial, by (repeat' first | exact trivial | exact rfl | exact q1 | exact q2 | apply And.intro)⟩
  refine ite2_decide (fun h1 => ends _ _ ?_) (fun h1 => ⟨⟨by omega, by omega, by omega⟩, ite2_decide (fun h2 => ⟨⟨by omega, by omega, by omega⟩, ends _ _ ?_⟩) (fun h2 => ends _ _ ?_)⟩)
  · have : Lib.hasPrefix s.data.toList h.data.toList = false := by
      rw [← hr, decide_eq_false (by omega)]; rfl
    unfold aftB; rw [if_neg (by rw [this]; simp)]
  · have hp : Lib.hasPrefix s.data.toList h.data.toList = true := by
      rw [← hr, decide_eq_true (by omega), beq_iff_eq.2 h2]; rfl
    have hq : tx (Lib.trimPrefix s.data.toList h.data.toList) = s.extract h.size s.size := by
      unfold Lib.trimPrefix
      have e1 : h.data.toList.length = h.size := by simp
      rw [if_pos hp, extract_tx, e1, List.take_of_length_le (by rw [List.length_drop]; simp)]
    unfold aftB; rw [if_pos hp, hq]
  · have : Lib.hasPrefix s.data.toList h.data.toList = false := by
      rw [← hr, beq_eq_false_iff_ne.2 h2, Bool.and_false]
    unfold aftB; rw [if_neg (by rw [this]; simp)]
theorem aft_ok : AftOk := rafter_ok
theorem noHd.none {s : ByteArray} {z : Nat} (h : noHd s z) (h3 : 3 ≤ z) : R.readL s = Option.none := by
  have a1 : Lib.hasPrefix s.data.toList (R.hd 1) = false := h.2 0 (by omega)
  have a2 : Lib.hasPrefix s.data.toList (R.hd 2) = false := h.2 1 (by omega)
  have a3 : Lib.hasPrefix s.data.toList (R.hd 3) = false := h.2 2 (by omega)
  unfold R.readL
  rw [a1, a2, a3]
  rfl
theorem noHd.some {s : ByteArray} {z : Nat} (h : noHd s z) (h3 : z < 3) (hp : Lib.hasPrefix s.data.toList (R.hd (z + 1)) = true) : R.readL s = Option.some ((z : Int) + 1, tx (Lib.trimPrefix s.data.toList (R.hd (z + 1)))) := by
  obtain ⟨_, hz⟩ := h
  unfold R.readL
  match z, h3 with
  | 0, _ =>
    have hp : Lib.hasPrefix s.data.toList (R.hd 1) = true := hp
    rw [if_pos hp]
    rfl
  | 1, _ =>
    have hp : Lib.hasPrefix s.data.toList (R.hd 2) = true := hp
    have a1 : Lib.hasPrefix s.data.toList (R.hd 1) = false := hz 0 (by omega)
    rw [a1, if_pos hp]
    rfl
  | 2, _ =>
    have hp : Lib.hasPrefix s.data.toList (R.hd 3) = true := hp
    have a1 : Lib.hasPrefix s.data.toList (R.hd 1) = false := hz 0 (by omega)
    have a2 : Lib.hasPrefix s.data.toList (R.hd 2) = false := hz 1 (by omega)
    rw [a1, a2, if_pos hp]
    rfl
theorem hds_at : ∀ z : Nat, z < 3 → (rd hds z (ByteArray.mk #[])).data.toList = R.hd (z + 1) ∧ (rd hds z (ByteArray.mk #[])).size ≤ 1000000
  | 0, _ => ⟨rfl, by decide⟩
  | 1, _ => ⟨rfl, by decide⟩
  | 2, _ => ⟨rfl, by decide⟩
theorem rrule_ok (s : ByteArray) : CtOk Tryd.prog 31 (ct_rrule s) := CtOk_of KK_ok (tabRx aft_ok) (ann_rrule s) (fn := Tryd.f31) rfl (fun _ _ => rfl) fun hn => by
  have hn : s.size ≤ 1000000 := hn
  rw [vc_rrule]
  simp only [Int.toNat_natCast]
  have ends : ∀ a b v A, a = (readR s).1 → b = (readR s).2.1 → v = (readR s).2.2 → EndsAs 0 (ct_rrule s) (.tup [.agg [.int .i64 a, .str b], .c (.bool v)]) A := fun a b v A h1 h2 h3 => by
    exact ⟨(), [], [], trivial, by (repeat' first | exact trivial | exact rfl | exact h1 | exact h2 | exact h3 | apply And.intro)⟩
  refine ⟨⟨(0 : Nat), [], [0, 1], ⟨Nat.zero_le _, fun j hj => absurd hj (Nat.not_lt_zero _)⟩, trivial, into_mk (by kernel_rfl) (by (repeat' first | exact trivial | exact rfl | apply And.intro)) (by (repeat' first | exact trivial | exact rfl | apply And.intro))⟩, ?_⟩
  intro z hz
  have hz : noHd s z := hz
  have hz3 := hz.1
  refine ite2_decide (fun hl => ?_) (fun hl => ends _ _ _ _ ?_ ?_ ?_)
  · have hl3 : z < 3 := by omega
    obtain ⟨e1, e2⟩ := hds_at z hl3
    refine ⟨⟨by omega, hl⟩, hl3, trivial, hl3, ⟨hn, e2⟩, into_mk (by kernel_rfl) (by (repeat' first | exact trivial | exact rfl | apply And.intro)) (by (repeat' first | exact trivial | exact rfl | apply And.intro)), fun _ _ => ite2_mk (fun h => ⟨by unfold i64ok; omega, ?_⟩) (fun h => ?_)⟩
    · have hp : Lib.hasPrefix s.data.toList (R.hd (z + 1)) = true := by
        unfold aftB at h
        split at h
        · rename_i hp; rw [e1] at hp; exact hp
        · cases h
      have er := hz.some hl3 hp
      have ea : (aftB s (rd hds z (ByteArray.mk #[]))).1 = tx (Lib.trimPrefix s.data.toList (R.hd (z + 1))) := by
        unfold aftB; rw [e1, if_pos hp]
      refine ends _ _ _ _ ?_ ?_ ?_
      · unfold readR; rw [er]
      · unfold readR; rw [er, ea]
      · unfold readR; rw [er]
    · have hp : Lib.hasPrefix s.data.toList (R.hd (z + 1)) = false := by
        unfold aftB at h
        split at h
        · cases h
        · rename_i hp; rw [e1] at hp; simpa using hp
      refine ⟨by unfold i64ok; omega, (z + 1 : Nat), [], [0, 1], ⟨by omega, fun j hj => ?_⟩, (show 3 - (z + 1) < 3 - z by omega), into_mk (by kernel_rfl) (by (repeat' first | exact trivial | exact rfl | apply And.intro)) (by (repeat' first | exact trivial | exact rfl | apply And.intro))⟩
      by_cases e : j = z
      · subst e; exact hp
      · exact hz.2 j (by omega)
  · unfold readR; rw [hz.none (by omega)]
  · unfold readR; rw [hz.none (by omega)]
  · unfold readR; rw [hz.none (by omega)]
end Go.Proofs.YtoidibkcdkdneaaDoor.T
end
section
namespace Go.Proofs.YtoidibkcdkdneaaDoor.T
open Go.Proofs.YtoidibkcdkdneaaDoor.E Go.Proofs.YtoidibkcdkdneaaDoor.MStr Go.Proofs.YtoidibkcdkdneaaDoor.R
set_option linter.unusedVariables false
theorem cuts_last (a b : List UInt8) (h : ∀ c ∈ b, c ≠ 47) : cuts (a ++ 47 :: b) = cuts a ++ [b] := by
  induction a with
  | nil => simp [cuts, cuts_none b h]
  | cons c t ih =>
    rw [List.cons_append, cuts, cuts, ih]
    split
    · rfl
    · cases hx : cuts t with
      | nil => exact absurd hx (cuts_ne t)
      | cons p ps => rfl
theorem get_bang (s : ByteArray) (j : Nat) : s.data[j]! = s.get! j := rfl
theorem empty_name : nameB ⟨#[]⟩ = false := by simp [nameB, show (ByteArray.mk #[]).size = 0 from rfl]
theorem size_zero {s : ByteArray} (h : s.size = 0) : s = ⟨#[]⟩ := by
  cases s with
  | mk d =>
    have : d = #[] := Array.eq_empty_of_size_eq_zero h
    rw [this]
theorem app_list (a b : ByteArray) : (a.append b).data.toList = a.data.toList ++ b.data.toList := by
  rw [ByteArray.append_eq]; simp
theorem ba_ext {a b : ByteArray} (h : a.data.toList = b.data.toList) : a = b := by
  rw [← tx_data a, ← tx_data b, h]
/-- A good path is what is above it and its last piece. -/
theorem above_good {p : ByteArray} (h0 : p.size ≠ 0) (hg : (pieces p).all nameB = true) : ∃ x, pieces p = pieces (aboveB p) ++ [x] ∧ p = (jnS (pieces (aboveB p)).length (aboveB p)).append x := by
  have hne : ¬ p.toList = [] := fun e => h0 (by rw [toList_data] at e; have := congrArg List.length e; simpa using this)
  have hpz : pieces ⟨#[]⟩ = [] := by unfold pieces; rw [if_pos (toList_data _)]
  rcases Lib.lastIdx_spec p 47 p.size with ⟨h, hno⟩ | ⟨j, hj, h2, h3, hno⟩
  · have h : Lib.lastIndexByte p 47 = -1 := h
    have ha : aboveB p = ⟨#[]⟩ := by unfold aboveB; rw [h, if_pos (by omega)]
    refine ⟨p, ?_, ?_⟩
    · rw [ha, hpz, pieces, if_neg hne, cuts_none _ (fun c hc => ?_)]
      · simp [tx_data]
      · obtain ⟨i, hi, rfl⟩ := List.getElem_of_mem hc
        have hi' : i < p.size := by simpa using hi
        have e := get_data p i hi'
        rw [List.getElem?_eq_getElem hi] at e
        rw [Option.some.inj e]
        intro e2
        have := hno i hi'
        rw [get_bang, e2] at this
        exact this rfl
    · rw [ha, hpz]
      refine ba_ext ?_
      rw [app_list]
      rfl
  · have h2 : Lib.lastIndexByte p 47 = j := h2
    have hsl : p.get! j = 47 := by
      apply UInt8.toNat_inj.1
      show (p.get! j).toNat = 47
      rw [get_bang] at h3
      omega
    have ha : aboveB p = tx (p.data.toList.take j) := by
      unfold aboveB
      rw [h2, if_neg (by omega), Int.toNat_natCast, extract_tx, List.drop_zero, Nat.sub_zero]
    have hl : p.data.toList = p.data.toList.take j ++ 47 :: p.data.toList.drop (j + 1) := by
      have e := (List.take_append_drop j p.data.toList).symm
      rw [drop_get p j hj, hsl] at e
      exact e
    have hp : pieces p = (cuts (p.data.toList.take j)).map tx ++ [tx (p.data.toList.drop (j + 1))] := by
      rw [pieces, if_neg hne]
      have e := congrArg cuts hl
      rw [cuts_last _ _ (fun c hc => ?_)] at e
      · rw [e]; simp
      · obtain ⟨i, hi, rfl⟩ := List.getElem_of_mem hc
        have hsz : p.data.toList.length = p.size := by simp
        rw [List.length_drop] at hi
        have hi' : j + 1 + i < p.size := by omega
        have e := get_data p (j + 1 + i) hi'
        rw [List.getElem_drop]
        rw [List.getElem?_eq_getElem (by rw [hsz]; exact hi')] at e
        rw [Option.some.inj e]
        intro e2
        have := hno (j + 1 + i) (by omega) hi'
        rw [get_bang, e2] at this
        exact this rfl
    have hnz : ¬ p.data.toList.take j = [] := fun e => by
      rw [hp, e] at hg
      have : nameB (tx []) = true := by
        simp only [cuts, List.map_cons, List.map_nil, List.all_append, List.all_cons, Bool.and_eq_true] at hg
        exact hg.1.1
      rw [show tx [] = ⟨#[]⟩ from rfl, empty_name] at this
      cases this
    have hpa : pieces (aboveB p) = (cuts (p.data.toList.take j)).map tx := by
      rw [ha, pieces, if_neg (by rw [toList_data, tx_list]; exact hnz), tx_list]
    refine ⟨tx (p.data.toList.drop (j + 1)), by rw [hpa]; exact hp, ?_⟩
    have hpos : 0 < (pieces (aboveB p)).length := by
      rw [hpa, List.length_map]
      exact List.length_pos_iff.2 (cuts_ne _)
    unfold jnS
    rw [if_pos hpos, ha]
    refine ba_ext ?_
    rw [app_list, app_list, tx_list, tx_list]
    rw [List.append_assoc]
    exact hl
theorem jn_pre (a b : List ByteArray) : ∀ n, n ≤ a.length → jn (a ++ b) n = jn a n
  | 0, _ => rfl
  | n + 1, h => by
    rw [jn, jn, jn_pre a b n (by omega)]
    congr 1
    unfold rd
    rw [List.getD_eq_getElem?_getD, List.getD_eq_getElem?_getD, List.getElem?_append_left (by omega)]
theorem chain_jn (k : Nat) : ∀ p : ByteArray, p.size ≤ k → (pieces p).all nameB = true → jn (pieces p) (pieces p).length = p ∧ ∀ f : ByteArray → Bool, (chain p).any f = (List.range (pieces p).length).any fun n => f (jn (pieces p) (n + 1)) := by
  have z : ∀ p : ByteArray, p.size = 0 → jn (pieces p) (pieces p).length = p ∧ ∀ f : ByteArray → Bool, (chain p).any f = (List.range (pieces p).length).any fun n => f (jn (pieces p) (n + 1)) := fun p h => by
    rw [size_zero h]
    have hpz : pieces ⟨#[]⟩ = [] := by unfold pieces; rw [if_pos (toList_data _)]
    rw [hpz]
    exact ⟨rfl, fun f => by rw [chain_nil rfl]; rfl⟩
  induction k with
  | zero => intro p h _; exact z p (by omega)
  | succ k ih =>
    intro p hk hg
    by_cases h0 : p.size = 0
    · exact z p h0
    · obtain ⟨x, h1, h2⟩ := above_good h0 hg
      have hsz := above_size p h0
      have hga : (pieces (aboveB p)).all nameB = true := by
        rw [h1, List.all_append, Bool.and_eq_true] at hg
        exact hg.1
      obtain ⟨i1, i2⟩ := ih (aboveB p) (by omega) hga
      have e1 : jn (pieces p) ((pieces (aboveB p)).length + 1) = p := by
        rw [jn, h1, jn_pre _ _ _ (Nat.le_refl _), i1]
        conv => rhs; rw [h2]
        congr 1
        unfold rd
        rw [List.getD_eq_getElem?_getD, List.getElem?_append_right (Nat.le_refl _), Nat.sub_self]
        rfl
      have hl : (pieces p).length = (pieces (aboveB p)).length + 1 := by rw [h1]; simp
      refine ⟨by rw [hl]; exact e1, fun f => ?_⟩
      rw [chain_cons h0, hl, List.range_succ, List.any_append, List.any_cons, i2 f, Bool.or_comm]
      congr 1
      · apply Bool.eq_iff_iff.2
        simp only [List.any_eq_true, List.mem_range]
        have ej : ∀ n, n < (pieces (aboveB p)).length → jn (pieces p) (n + 1) = jn (pieces (aboveB p)) (n + 1) := fun n hn => by rw [h1, jn_pre _ _ _ hn]
        exact ⟨fun ⟨n, a, b⟩ => ⟨n, a, by rw [ej n a]; exact b⟩, fun ⟨n, a, b⟩ => ⟨n, a, by rw [← ej n a]; exact b⟩⟩
      · simp [e1]
theorem chain_any {p : ByteArray} (h : (pieces p).all nameB = true) (f : ByteArray → Bool) : (chain p).any f = (List.range (pieces p).length).any fun n => f (jn (pieces p) (n + 1)) := (chain_jn _ p (Nat.le_refl _) h).2 f
theorem split_ok {p : ByteArray} (h : (Hand.splitB p 64).2 = 0) : (Hand.splitB p 64).1 = pieces p ∧ (pieces p).all nameB = true ∧ (pieces p).length ≤ 64 := by
  unfold Hand.splitB at h ⊢
  split at h
  · cases h
  · rename_i h1
    split at h
    · rename_i h2
      rw [if_neg h1, if_pos h2]
      refine ⟨rfl, h2, ?_⟩
      rw [mx_if] at h1
      omega
    · cases h
theorem sp_ok (r : Rl) (p : ByteArray) : sp r p = (Hand.matchB r.2 p).1 := by
  unfold sp
  by_cases h : (Hand.matchB r.2 p).1 = true
  · rw [h, Bool.true_and]
    apply decide_eq_true
    unfold Hand.matchB at h ⊢
    split
    · rename_i h1; rw [if_pos h1] at h; cases h
    · rename_i h1
      rw [if_neg h1] at h
      split
      · rename_i h2; rw [if_pos h2] at h; cases h
      · rename_i h2
        rw [if_neg h2] at h
        split
        · rfl
        · split <;> rfl
  · rw [Bool.not_eq_true] at h
    rw [h]; rfl
end Go.Proofs.YtoidibkcdkdneaaDoor.T
end
section
namespace Go.Proofs.YtoidibkcdkdneaaDoor.T
open Go.Proofs.YtoidibkcdkdneaaDoor.E Go.Proofs.YtoidibkcdkdneaaDoor.MStr Go.Proofs.YtoidibkcdkdneaaDoor.R
set_option maxRecDepth 100000
set_option linter.unusedVariables false
set_option linter.unusedSimpArgs false
def ct_rparse (s : ByteArray) : Ct KK := { need := s.size ≤ 1000000, pre := [], args := [strv s], Y := Unit, ok := fun _ => True, ret := fun _ => .tup [.c (.slc 0 0 (goodOf (parseB s)).length none), .c (.int .i64 (badOf (parseB s)).1), .c (.int .i64 (badOf (parseB s)).2)], post := fun _ => [.arr .rule (goodOf (parseB s))] }
def parTo (s : ByteArray) (i : Nat) (acc : List Rl) : Prop := i ≤ (linesB s).length ∧ acc.length ≤ 64 ∧ parseL i acc ((linesB s).drop i) = parseB s
def inv_rparse (s : ByteArray) : Inv KK := { X := Nat × List Rl, fr := fun z => [strv s, .any, .any, .any, .any, .c (.slc 0 0 (linesB s).length none), .c (.slc 1 0 z.2.length none), i64 z.1] ++ anys 60, H := fun z => [.arr .str (linesB s), .arr .rule z.2], ok := fun z => parTo s z.1 z.2, meas := fun z => (linesB s).length - z.1 }
def ann_rparse (s : ByteArray) : Ann KK := { loop := fun _ _ _ => some (inv_rparse s), cut := fun _ _ _ => none, keep := some 8 }
def ct_rmir (l : List Rl) : Ct KK := { need := l.length ≤ 1000, pre := [.ro .rule l], args := [.c (.slc 0 0 l.length none)], Y := Unit, ok := fun _ => True, ret := fun _ => .c (.slc 1 0 (mirB l).length none), post := fun _ => [.gone, .arr .rule (mirB l)] }
def inv_rmir (l : List Rl) : Inv KK := { X := Nat, fr := fun i => [.c (.slc 0 0 l.length none), .any, .any, .c (.slc 1 0 (mirB (l.take i)).length none), i64 i] ++ anys 24, H := fun i => [.ro .rule l, .arr .rule (mirB (l.take i))], ok := fun i => i ≤ l.length, meas := fun i : Nat => l.length - i }
def ann_rmir (l : List Rl) : Ann KK := { loop := fun _ _ _ => some (inv_rmir l), cut := fun _ _ _ => none, keep := some 5 }
/-- Rules of which the reference can speak. -/
def Fine (l : List Rl) : Prop := l.length ≤ 1000 ∧ ∀ r ∈ l, (1 ≤ r.1 ∧ r.1 ≤ 3) ∧ r.2.size ≤ 999999
def ct_rpref (l : List Rl) (p : ByteArray) : Ct KK := { need := Fine l ∧ p.size ≤ 999999, pre := [.ro .rule l], args := [.c (.slc 0 0 l.length none), strv p], Y := Unit, ok := fun _ => True, ret := fun _ => i64 (preferB l p), post := fun _ => [.gone] }
def inv_rpref (l : List Rl) (p : ByteArray) : Inv KK := { X := Nat, fr := fun i => [.c (.slc 0 0 l.length none), strv p, .any, .any, .any, i64 (preferB (l.take i) p), i64 i] ++ anys 32, H := fun i => [.ro .rule l], ok := fun i => i ≤ l.length, meas := fun i : Nat => l.length - i }
def ann_rpref (l : List Rl) (p : ByteArray) : Ann KK := { loop := fun _ _ _ => some (inv_rpref l p), cut := fun _ _ _ => none, keep := some 7 }
def ct_rskip (l : List Rl) (p : ByteArray) : Ct KK := { need := Fine l ∧ p.size ≤ 999999, pre := [.ro .rule l], args := [.c (.slc 0 0 l.length none), strv p], Y := Unit, ok := fun _ => True, ret := fun _ => boolv (skipB l p), post := fun _ => [.gone] }
def noSkip (l : List Rl) (names : List ByteArray) (z : Nat) : Prop := z ≤ names.length ∧ ∀ m, m < z → skipAt l (jn names (m + 1)) = false
def inv_rskO (l : List Rl) (p : ByteArray) : Inv KK := { X := Nat, fr := fun z => [.c (.slc 0 0 l.length none), strv p, .any, .any, .any, .c (.slc 1 0 (pieces p).length none), .any, i64 ((z : Int) + 1)] ++ anys 44, H := fun _ => [.ro .rule l, .arr .str (pieces p)], ok := fun z => noSkip l (pieces p) z, meas := fun z : Nat => (pieces p).length - z }
def noSkipI (l : List Rl) (q : ByteArray) (i : Nat) : Prop := i ≤ l.length ∧ skipAt (l.take i) q = false
def inv_rskI (l : List Rl) (p q : ByteArray) (v : Int) : Inv KK := { X := Nat, fr := fun i => [.c (.slc 0 0 l.length none), strv p, .any, .any, .any, .c (.slc 1 0 (pieces p).length none), .any, i64 v, strv q, i64 i] ++ anys 42, H := fun _ => [.ro .rule l, .arr .str (pieces p)], ok := fun i => noSkipI l q i, meas := fun i : Nat => l.length - i }
def loop_rsk (l : List Rl) (p : ByteArray) (id : Nat) (fr : List VV) (H : VH KK) : Option (Inv KK) := match id, fr.getD 7 .any, fr.getD 8 .any with
  | 5, _, _ => some (inv_rskO l p)
  | 9, .one (.c (.int _ v)), .one (.c (.str q)) => some (inv_rskI l p q v)
  | _, _, _ => none
def ann_rskip (l : List Rl) (p : ByteArray) : Ann KK := { loop := loop_rsk l p, cut := fun _ _ _ => none, keep := some 12 }
def ct_rwhy (l : List Rl) (p : ByteArray) : Ct KK := { need := Fine l ∧ p.size ≤ 999999, pre := [.ro .rule l], args := [.c (.slc 0 0 l.length none), strv p], Y := Unit, ok := fun _ => True, ret := fun _ => .tup [.c (.int .i64 (whyB l p).1), .c (.int .i64 (whyB l p).2)], post := fun _ => [.gone] }
def whyTo (l : List Rl) (p : ByteArray) (i : Nat) : Int × Int := whyL p 0 (l.take i) (0, 0)
def inv_rwhO (l : List Rl) (p : ByteArray) : Inv KK := { X := Nat, fr := fun i => [.c (.slc 0 0 l.length none), strv p, .any, .any, .any, .any, .c (.slc 1 0 (pieces p).length none), .any, i64 (whyTo l p i).1, i64 (whyTo l p i).2, i64 i] ++ anys 65, H := fun _ => [.ro .rule l, .arr .str (pieces p)], ok := fun i => i ≤ l.length, meas := fun i : Nat => l.length - i }
def firstTo (r : Rl) (names : List ByteArray) (f0 i : Int) (z : Nat) : Int := if f0 = 0 ∧ ((List.range z).any fun n => sp r (jn names (n + 1))) = true then i + 1 else f0
def inv_rwhI (l : List Rl) (p : ByteArray) (f0 g0 i : Int) (r : Rl) : Inv KK := { X := Nat, fr := fun z => [.c (.slc 0 0 l.length none), strv p, .any, .any, .any, .any, .c (.slc 1 0 (pieces p).length none), .any, i64 (firstTo r (pieces p) f0 i z), i64 g0, i64 i, .any, .any, i64 ((z : Int) + 1)] ++ anys 62, H := fun _ => [.ro .rule l, .arr .str (pieces p)], ok := fun z => z ≤ (pieces p).length, meas := fun z : Nat => (pieces p).length - z }
def loop_rwh (l : List Rl) (p : ByteArray) (id : Nat) (fr : List VV) (H : VH KK) : Option (Inv KK) := match id, fr.getD 8 .any, fr.getD 9 .any, fr.getD 10 .any with
  | 6, _, _, _ => some (inv_rwhO l p)
  | 13, .one (.c (.int _ f0)), .one (.c (.int _ g0)), .one (.c (.int _ i)) => some (inv_rwhI l p f0 g0 i (rd (α := Rl) l i.toNat ((0 : Int), ByteArray.empty)))
  | _, _, _, _ => none
def ann_rwhy (l : List Rl) (p : ByteArray) : Ann KK := { loop := loop_rwh l p, cut := fun _ _ _ => none, keep := some 16 }
def tabRy : Tab Tryd.prog KK := ⟨mixed, fun f args H => match f, args with
  | 30, [.one (.c (.str s))] => some (ct_rlines s, [], [])
  | 31, [.one (.c (.str s))] => some (ct_rrule s, [], [])
  | 32, [.one (.c (.str s)), .one (.c (.str p))] => some (ct_rmatch s p, [], [])
  | 38, [.one (.c (.str s)), .one (.c (.int _ n))] => some (ct_rsplit s n, [], [])
  | 39, [.one (.c (.slc a _ n _))] => match at_ H a with
    | .arr .str l => some (ct_rjoin l n, [], [a])
    | _ => none
  | _, _ => none, fun f args H ct ks τ h => by
    split at h
    · cases h; exact rlines_ok _
    · cases h; exact rrule_ok _
    · cases h; exact rmatch_ok _ _
    · cases h; exact rsplit_ok _ _
    · split at h
      · cases h; exact rjoin_ok _ _
      · cases h
    · cases h⟩
theorem vc_rparse (s : ByteArray) : evFn tabRy (ann_rparse s) Tryd.f11 (ct_rparse s) = ( ite2 (decide ((4000 : Int) < (↑s.size : Int))) (EndsAs 0 (ct_rparse s) (VV.tup [V1.c C.nils, V1.c (C.int .i64 (0 : Int)), V1.c (C.int .i64 (110 : Int))]) []) (s.size ≤ 1000000 ∧ Into (K := KK) 0 [] []
 [VV.one (V1.c (C.str s))] [] [VV.one (V1.c (C.str s))] [] ∧ ∀ (y : Unit), True → Enter 0 (inv_rparse s) (fun (x : Nat × List Rl) => True) ([VV.one (V1.c (C.str s)), VV.any, VV.one (V1.c C.nils), i64 (0
 : Int), i64 (0 : Int), VV.one (V1.c (C.slc 0 0 (linesB s).length none)), VV.one (V1.c C.nils), i64 (0 : Int)] ++ anys 60) [Atom.arr Kd.str (linesB s)] ∧ ∀ (z : Nat × List Rl), parTo s z.fst z.snd → ite2
 (decide ((↑z.fst : Int) < (↑(linesB s).length : Int))) (((0 : Int) ≤ (↑z.fst : Int) ∧ (↑z.fst : Int) < (↑(linesB s).length : Int)) ∧ (↑z.fst : Int).toNat < (linesB s).length ∧ True ∧ (↑z.fst : Int).toNat
 < (linesB s).length ∧ ite2 (decide (ByteArray.toList (rd (linesB s) (↑z.fst : Int).toNat (ByteArray.mk (#[]))) = (ByteArray.mk (#[])).toList)) (i64ok ((↑z.fst : Int) + (1 : Int)) ∧ Enter 0 (inv_rparse
 s) (fun (z' : Nat × List Rl) => (linesB s).length - z'.fst < (linesB s).length - z.fst) ([VV.one (V1.c (C.str s)), VV.any, VV.any, VV.any, VV.any, VV.one (V1.c (C.slc 0 0 (linesB s).length none)), VV.one
 (V1.c (C.slc 1 0 z.snd.length none)), i64 ((↑z.fst : Int) + (1 : Int))] ++ anys 60) [Atom.arr Kd.str (linesB s), Atom.arr Kd.rule z.snd]) (((0 : Int) ≤ (↑z.fst : Int) ∧ (↑z.fst : Int) < (↑(linesB s).length
 : Int)) ∧ (↑z.fst : Int).toNat < (linesB s).length ∧ True ∧ (↑z.fst : Int).toNat < (linesB s).length ∧ ((0 : Int) ≤ (0 : Int) ∧ (0 : Int) < (↑(ByteArray.size (rd (linesB s) (↑z.fst : Int).toNat (ByteArray.mk
 (#[])))) : Int)) ∧ ite2 (decide (bt (rd (linesB s) (↑z.fst : Int).toNat (ByteArray.mk (#[]))) 0 = (35 : Int))) (i64ok ((↑z.fst : Int) + (1 : Int)) ∧ Enter 0 (inv_rparse s) (fun (z' : Nat × List Rl) =>
 (linesB s).length - z'.fst < (linesB s).length - z.fst) ([VV.one (V1.c (C.str s)), VV.any, VV.any, VV.any, VV.any, VV.one (V1.c (C.slc 0 0 (linesB s).length none)), VV.one (V1.c (C.slc 1 0 z.snd.length
 none)), i64 ((↑z.fst : Int) + (1 : Int))] ++ anys 60) [Atom.arr Kd.str (linesB s), Atom.arr Kd.rule z.snd]) (((0 : Int) ≤ (↑z.fst : Int) ∧ (↑z.fst : Int) < (↑(linesB s).length : Int)) ∧ (↑z.fst : Int).toNat
 < (linesB s).length ∧ True ∧ (↑z.fst : Int).toNat < (linesB s).length ∧ ByteArray.size (rd (linesB s) (↑z.fst : Int).toNat (ByteArray.mk (#[]))) ≤ 1000000 ∧ Into (K := KK) 0 [] [] [VV.one (V1.c (C.str
 (rd (linesB s) (↑z.fst : Int).toNat (ByteArray.mk (#[])))))] [Atom.arr Kd.str (linesB s), Atom.arr Kd.rule z.snd] [VV.one (V1.c (C.str (rd (linesB s) (↑z.fst : Int).toNat (ByteArray.mk (#[])))))] [] ∧
 ∀ (y : Unit), True → ite2 (readR (rd (linesB s) (↑z.fst : Int).toNat (ByteArray.mk ((#[]))))).snd.snd (ite2 (decide ((↑z.snd.length : Int) = (64 : Int))) (i64ok ((↑z.fst : Int) + (1 : Int)) ∧ EndsAs 0
 (ct_rparse s) (VV.tup [V1.c C.nils, V1.c (C.int .i64 ((↑z.fst : Int) + (1 : Int))), V1.c (C.int .i64 (111 : Int))]) [Atom.arr Kd.str (linesB s), Atom.arr Kd.rule z.snd, Atom.cells 50 [C.int .i64 (readR
 (rd (linesB s) (↑z.fst : Int).toNat (ByteArray.mk ((#[]))))).fst, C.str (readR (rd (linesB s) (↑z.fst : Int).toNat (ByteArray.mk ((#[]))))).snd.fst]]) (((readR (rd (linesB s) (↑z.fst : Int).toNat (ByteArray.mk
 ((#[]))))).snd.fst.size ≤ 999999 ∧ 0 ≤ 999999) ∧ Into (K := KK) 0 [] [] [VV.one (V1.c (C.str (readR (rd (linesB s) (↑z.fst : Int).toNat (ByteArray.mk ((#[]))))).snd.fst)), VV.one (V1.c (C.str (ByteArray.mk
 (#[]))))] [Atom.arr Kd.str (linesB s), Atom.arr Kd.rule z.snd, Atom.cells 50 [C.int .i64 (readR (rd (linesB s) (↑z.fst : Int).toNat (ByteArray.mk ((#[]))))).fst, C.str (readR (rd (linesB s) (↑z.fst : Int).toNat
 (ByteArray.mk ((#[]))))).snd.fst]] [VV.one (V1.c (C.str (readR (rd (linesB s) (↑z.fst : Int).toNat (ByteArray.mk ((#[]))))).snd.fst)), VV.one (V1.c (C.str (ByteArray.mk (#[]))))] [] ∧ ∀ (y : Unit), True
 → ite2 (decide ((Hand.matchB (readR (rd (linesB s) (↑z.fst : Int).toNat (ByteArray.mk ((#[]))))).snd.fst (ByteArray.mk (#[]))).snd = (0 : Int))) (z.snd.length = z.snd.length ∧ (1 ≤ 1 ∧ True) ∧ (z.snd.length
 + 1) * 24 ≤ 140737488355328 ∧ i64ok ((↑z.fst : Int) + (1 : Int)) ∧ Enter 0 (inv_rparse s) (fun (z' : Nat × List Rl) => (linesB s).length - z'.fst < (linesB s).length - z.fst) ([VV.one (V1.c (C.str s)),
 VV.any, VV.any, VV.any, VV.any, VV.one (V1.c (C.slc 0 0 (linesB s).length none)), VV.one (V1.c (C.slc 4 0 (z.snd.length + 1) none)), i64 ((↑z.fst : Int) + (1 : Int))] ++ anys 60) [Atom.arr Kd.str (linesB
 s), Atom.gone, Atom.cells 50 [C.int .i64 (readR (rd (linesB s) (↑z.fst : Int).toNat (ByteArray.mk ((#[]))))).fst, C.str (readR (rd (linesB s) (↑z.fst : Int).toNat (ByteArray.mk ((#[]))))).snd.fst], Atom.arr
 Kd.rule [((readR (rd (linesB s) (↑z.fst : Int).toNat (ByteArray.mk ((#[]))))).fst, (readR (rd (linesB s) (↑z.fst : Int).toNat (ByteArray.mk ((#[]))))).snd.fst)], Atom.arr Kd.rule (z.snd ++ [((readR (rd
 (linesB s) (↑z.fst : Int).toNat (ByteArray.mk ((#[]))))).fst, (readR (rd (linesB s) (↑z.fst : Int).toNat (ByteArray.mk ((#[]))))).snd.fst)])]) (i64ok ((↑z.fst : Int) + (1 : Int)) ∧ EndsAs 0 (ct_rparse
 s) (VV.tup [V1.c C.nils, V1.c (C.int .i64 ((↑z.fst : Int) + (1 : Int))), V1.c (C.int .i64 (113 : Int))]) [Atom.arr Kd.str (linesB s), Atom.arr Kd.rule z.snd, Atom.cells 50 [C.int .i64 (readR (rd (linesB
 s) (↑z.fst : Int).toNat (ByteArray.mk ((#[]))))).fst, C.str (readR (rd (linesB s) (↑z.fst : Int).toNat (ByteArray.mk ((#[]))))).snd.fst]]))) (i64ok ((↑z.fst : Int) + (1 : Int)) ∧ EndsAs 0 (ct_rparse s)
 (VV.tup [V1.c C.nils, V1.c (C.int .i64 ((↑z.fst : Int) + (1 : Int))), V1.c (C.int .i64 (112 : Int))]) [Atom.arr Kd.str (linesB s), Atom.arr Kd.rule z.snd, Atom.cells 50 [C.int .i64 (readR (rd (linesB s)
 (↑z.fst : Int).toNat (ByteArray.mk ((#[]))))).fst, C.str (readR (rd (linesB s) (↑z.fst : Int).toNat (ByteArray.mk ((#[]))))).snd.fst]])))) (EndsAs 0 (ct_rparse s) (VV.tup [V1.c (C.slc 1 0 z.snd.length
 none), V1.c (C.int .i64 (0 : Int)), V1.c (C.int .i64 (0 : Int))]) [Atom.arr Kd.str (linesB s), Atom.arr Kd.rule z.snd]))) := by kernel_rfl
theorem vc_rmir (l : List Rl) : evFn tabRy (ann_rmir l) Tryd.f21 (ct_rmir l) = ( Enter 1 (inv_rmir l) (fun (x : Nat) => True) ([VV.one (V1.c (C.slc 0 0 l.length none)), VV.any, VV.one (V1.c C.nils), VV.one (V1.c C.nils), i64 (0 : Int)] ++ anys 24) [Atom.ro Kd.rule l] ∧ ∀ (z : Nat),
 z ≤ l.length → ite2 (decide ((↑z : Int) < (↑l.length : Int))) (((0 : Int) ≤ (↑z : Int) ∧ (↑z : Int) < (↑l.length : Int)) ∧ (↑z : Int).toNat < l.length ∧ True ∧ (↑z : Int).toNat < l.length ∧ ite2 (decide
 ((rd l (↑z : Int).toNat (KK.dflt Kd.rule)).fst = (2 : Int))) ((mirB (List.take z l)).length = (mirB (List.take z l)).length ∧ (1 ≤ 1 ∧ True) ∧ ((mirB (List.take z l)).length + 1) * 24 ≤ 140737488355328
 ∧ i64ok ((↑z : Int) + (1 : Int)) ∧ Enter 1 (inv_rmir l) (fun (z' : Nat) => l.length - z' < l.length - z) ([VV.one (V1.c (C.slc 0 0 l.length none)), VV.any, VV.any, VV.one (V1.c (C.slc 4 0 ((mirB (List.take
 z l)).length + 1) none)), i64 ((↑z : Int) + (1 : Int))] ++ anys 24) [Atom.ro Kd.rule l, Atom.gone, Atom.cells 50 [C.int .i64 (3 : Int), C.str (rd l (↑z : Int).toNat (KK.dflt Kd.rule)).snd], Atom.arr Kd.rule
 [((3 : Int), (rd l (↑z : Int).toNat (KK.dflt Kd.rule)).snd)], Atom.arr Kd.rule (mirB (List.take z l) ++ [((3 : Int), (rd l (↑z : Int).toNat (KK.dflt Kd.rule)).snd)])]) (ite2 (decide ((rd l (↑z : Int).toNat
 (KK.dflt Kd.rule)).fst = (3 : Int))) ((mirB (List.take z l)).length = (mirB (List.take z l)).length ∧ (1 ≤ 1 ∧ True) ∧ ((mirB (List.take z l)).length + 1) * 24 ≤ 140737488355328 ∧ i64ok ((↑z : Int) + (1
 : Int)) ∧ Enter 1 (inv_rmir l) (fun (z' : Nat) => l.length - z' < l.length - z) ([VV.one (V1.c (C.slc 0 0 l.length none)), VV.any, VV.any, VV.one (V1.c (C.slc 4 0 ((mirB (List.take z l)).length + 1) none)),
 i64 ((↑z : Int) + (1 : Int))] ++ anys 24) [Atom.ro Kd.rule l, Atom.gone, Atom.cells 50 [C.int .i64 (2 : Int), C.str (rd l (↑z : Int).toNat (KK.dflt Kd.rule)).snd], Atom.arr Kd.rule [((2 : Int), (rd l (↑z
 : Int).toNat (KK.dflt Kd.rule)).snd)], Atom.arr Kd.rule (mirB (List.take z l) ++ [((2 : Int), (rd l (↑z : Int).toNat (KK.dflt Kd.rule)).snd)])]) ((mirB (List.take z l)).length = (mirB (List.take z l)).length
 ∧ (1 ≤ 1 ∧ True) ∧ ((mirB (List.take z l)).length + 1) * 24 ≤ 140737488355328 ∧ i64ok ((↑z : Int) + (1 : Int)) ∧ Enter 1 (inv_rmir l) (fun (z' : Nat) => l.length - z' < l.length - z) ([VV.one (V1.c (C.slc
 0 0 l.length none)), VV.any, VV.any, VV.one (V1.c (C.slc 4 0 ((mirB (List.take z l)).length + 1) none)), i64 ((↑z : Int) + (1 : Int))] ++ anys 24) [Atom.ro Kd.rule l, Atom.gone, Atom.cells 50 [C.int .i64
 (rd l (↑z : Int).toNat (KK.dflt Kd.rule)).fst, C.str (rd l (↑z : Int).toNat (KK.dflt Kd.rule)).snd], Atom.arr Kd.rule [((rd l (↑z : Int).toNat (KK.dflt Kd.rule)).fst, (rd l (↑z : Int).toNat (KK.dflt Kd.rule)).snd)],
 Atom.arr Kd.rule (mirB (List.take z l) ++ [((rd l (↑z : Int).toNat (KK.dflt Kd.rule)).fst, (rd l (↑z : Int).toNat (KK.dflt Kd.rule)).snd)])]))) (EndsAs 1 (ct_rmir l) (VV.one (V1.c (C.slc 1 0 (mirB (List.take
 z l)).length none))) [Atom.ro Kd.rule l, Atom.arr Kd.rule (mirB (List.take z l))])) := by kernel_rfl
theorem vc_rpref (l : List Rl) (p : ByteArray) : evFn tabRy (ann_rpref l p) Tryd.f20 (ct_rpref l p) = ( Enter 1 (inv_rpref l p) (fun (x : Nat) => True) ([VV.one (V1.c (C.slc 0 0 l.length none)), VV.one (V1.c (C.str p)), VV.any, VV.any, i64 (0 : Int), i64 (0 : Int), i64 (0 : Int)] ++ anys 32) [Atom.ro Kd.rule
 l] ∧ ∀ (z : Nat), z ≤ l.length → ite2 (decide ((↑z : Int) < (↑l.length : Int))) (((0 : Int) ≤ (↑z : Int) ∧ (↑z : Int) < (↑l.length : Int)) ∧ (↑z : Int).toNat < l.length ∧ True ∧ (↑z : Int).toNat < l.length
 ∧ ite2 (decide ((rd l (↑z : Int).toNat (KK.dflt Kd.rule)).fst = (1 : Int))) (i64ok ((↑z : Int) + (1 : Int)) ∧ Enter 1 (inv_rpref l p) (fun (z' : Nat) => l.length - z' < l.length - z) ([VV.one (V1.c (C.slc
 0 0 l.length none)), VV.one (V1.c (C.str p)), VV.any, VV.any, VV.any, i64 (preferB (List.take z l) p), i64 ((↑z : Int) + (1 : Int))] ++ anys 32) [Atom.ro Kd.rule l]) (((0 : Int) ≤ (↑z : Int) ∧ (↑z : Int)
 < (↑l.length : Int)) ∧ (↑z : Int).toNat < l.length ∧ True ∧ (↑z : Int).toNat < l.length ∧ ((rd l (↑z : Int).toNat (KK.dflt Kd.rule)).snd.size ≤ 999999 ∧ p.size ≤ 999999) ∧ Into (K := KK) 0 [] [] [VV.one
 (V1.c (C.str (rd l (↑z : Int).toNat (KK.dflt Kd.rule)).snd)), VV.one (V1.c (C.str p))] [Atom.ro Kd.rule l] [VV.one (V1.c (C.str (rd l (↑z : Int).toNat (KK.dflt Kd.rule)).snd)), VV.one (V1.c (C.str p))]
 [] ∧ ∀ (y : Unit), True → ite2 (Hand.matchB (rd l (↑z : Int).toNat (KK.dflt Kd.rule)).snd p).fst (((0 : Int) ≤ (↑z : Int) ∧ (↑z : Int) < (↑l.length : Int)) ∧ (↑z : Int).toNat < l.length ∧ True ∧ (↑z :
 Int).toNat < l.length ∧ i64ok ((rd l (↑z : Int).toNat (KK.dflt Kd.rule)).fst - (1 : Int)) ∧ i64ok ((↑z : Int) + (1 : Int)) ∧ Enter 1 (inv_rpref l p) (fun (z' : Nat) => l.length - z' < l.length - z) ([VV.one
 (V1.c (C.slc 0 0 l.length none)), VV.one (V1.c (C.str p)), VV.any, VV.any, VV.any, i64 ((rd l (↑z : Int).toNat (KK.dflt Kd.rule)).fst - (1 : Int)), i64 ((↑z : Int) + (1 : Int))] ++ anys 32) [Atom.ro Kd.rule
 l]) (i64ok ((↑z : Int) + (1 : Int)) ∧ Enter 1 (inv_rpref l p) (fun (z' : Nat) => l.length - z' < l.length - z) ([VV.one (V1.c (C.slc 0 0 l.length none)), VV.one (V1.c (C.str p)), VV.any, VV.any, VV.any,
 i64 (preferB (List.take z l) p), i64 ((↑z : Int) + (1 : Int))] ++ anys 32) [Atom.ro Kd.rule l]))) (EndsAs 1 (ct_rpref l p) (i64 (preferB (List.take z l) p)) [Atom.ro Kd.rule l])) := by kernel_rfl
theorem vc_rskip (l : List Rl) (p : ByteArray) : evFn tabRy (ann_rskip l p) Tryd.f18 (ct_rskip l p) = ( (p.size ≤ 1000000 ∧ i64ok (64 : Int)) ∧ Into (K := KK) 0 [] [] [VV.one (V1.c (C.str p)), i64 (64 : Int)] [Atom.ro Kd.rule l] [VV.one (V1.c (C.str p)), i64 (64 : Int)] [] ∧ ∀ (y : Unit), True → ite2 (decide
 ((Hand.splitB p (64 : Int)).snd = (0 : Int))) (Enter 1 (inv_rskO l p) (fun (x : Nat) => True) ([VV.one (V1.c (C.slc 0 0 l.length none)), VV.one (V1.c (C.str p)), VV.any, VV.any, boolv false, VV.one (V1.c
 (C.slc 1 0 (Hand.splitB p (64 : Int)).fst.length none)), i64 (Hand.splitB p (64 : Int)).snd, i64 (1 : Int)] ++ anys 44) [Atom.ro Kd.rule l, Atom.arr Kd.str (Hand.splitB p (64 : Int)).fst] ∧ ∀ (z : Nat),
 noSkip l (pieces p) z → ite2 (decide ((↑z : Int) + (1 : Int) ≤ (↑(pieces p).length : Int))) (((0 : Int) ≤ (0 : Int) ∧ (0 : Int) ≤ (↑z : Int) + (1 : Int)) ∧ (0 : Int) + ((↑z : Int) + (1 : Int)) ≤ (↑(pieces
 p).length : Int) ∧ ((pieces p).length ≤ 1000000 ∧ ((↑z : Int) + (1 : Int) - (0 : Int)).toNat ≤ (pieces p).length ∧ ∀ (x : ByteArray), List.Mem x (pieces p) → x.size ≤ 1000) ∧ Into (K := KK) 0 [] [1] [VV.one
 (V1.c (C.slc 1 0 ((↑z : Int) + (1 : Int) - (0 : Int)).toNat none))] [Atom.ro Kd.rule l, Atom.arr Kd.str (pieces p)] [VV.one (V1.c (C.slc 0 0 ((↑z : Int) + (1 : Int) - (0 : Int)).toNat none))] [Atom.ro
 Kd.str (pieces p)] ∧ ∀ (y : Unit), True → Enter 1 (inv_rskI l p (jn (pieces p) ((↑z : Int) + (1 : Int) - (0 : Int)).toNat) ((↑z : Int) + (1 : Int))) (fun (x : Nat) => True) ([VV.one (V1.c (C.slc 0 0 l.length
 none)), VV.one (V1.c (C.str p)), VV.any, VV.any, VV.any, VV.one (V1.c (C.slc 1 0 (pieces p).length none)), VV.any, i64 ((↑z : Int) + (1 : Int)), VV.one (V1.c (C.str (jn (pieces p) ((↑z : Int) + (1 : Int)
 - (0 : Int)).toNat))), i64 (0 : Int)] ++ anys 42) [Atom.ro Kd.rule l, Atom.arr Kd.str (pieces p)] ∧ ∀ (z_1 : Nat), noSkipI l (jn (pieces p) ((↑z : Int) + (1 : Int) - (0 : Int)).toNat) z_1 → ite2 (decide
 ((↑z_1 : Int) < (↑l.length : Int))) (((0 : Int) ≤ (↑z_1 : Int) ∧ (↑z_1 : Int) < (↑l.length : Int)) ∧ (↑z_1 : Int).toNat < l.length ∧ True ∧ (↑z_1 : Int).toNat < l.length ∧ ite2 (decide ((rd l (↑z_1 : Int).toNat
 (KK.dflt Kd.rule)).fst = (1 : Int))) (((0 : Int) ≤ (↑z_1 : Int) ∧ (↑z_1 : Int) < (↑l.length : Int)) ∧ (↑z_1 : Int).toNat < l.length ∧ True ∧ (↑z_1 : Int).toNat < l.length ∧ ((rd l (↑z_1 : Int).toNat (KK.dflt
 Kd.rule)).snd.size ≤ 999999 ∧ (jn (pieces p) ((↑z : Int) + (1 : Int) - (0 : Int)).toNat).size ≤ 999999) ∧ Into (K := KK) 0 [] [] [VV.one (V1.c (C.str (rd l (↑z_1 : Int).toNat (KK.dflt Kd.rule)).snd)),
 VV.one (V1.c (C.str (jn (pieces p) ((↑z : Int) + (1 : Int) - (0 : Int)).toNat)))] [Atom.ro Kd.rule l, Atom.arr Kd.str (pieces p)] [VV.one (V1.c (C.str (rd l (↑z_1 : Int).toNat (KK.dflt Kd.rule)).snd)),
 VV.one (V1.c (C.str (jn (pieces p) ((↑z : Int) + (1 : Int) - (0 : Int)).toNat)))] [] ∧ ∀ (y : Unit), True → ite2 (Hand.matchB (rd l (↑z_1 : Int).toNat (KK.dflt Kd.rule)).snd (jn (pieces p) ((↑z : Int)
 + (1 : Int) - (0 : Int)).toNat)).fst (EndsAs 1 (ct_rskip l p) (boolv true) [Atom.ro Kd.rule l, Atom.arr Kd.str (pieces p)]) (i64ok ((↑z_1 : Int) + (1 : Int)) ∧ Enter 1 (inv_rskI l p (jn (pieces p) ((↑z
 : Int) + (1 : Int) - (0 : Int)).toNat) ((↑z : Int) + (1 : Int))) (fun (z' : Nat) => l.length - z' < l.length - z_1) ([VV.one (V1.c (C.slc 0 0 l.length none)), VV.one (V1.c (C.str p)), VV.any, VV.any, VV.any,
 VV.one (V1.c (C.slc 1 0 (pieces p).length none)), VV.any, i64 ((↑z : Int) + (1 : Int)), VV.one (V1.c (C.str (jn (pieces p) ((↑z : Int) + (1 : Int) - (0 : Int)).toNat))), i64 ((↑z_1 : Int) + (1 : Int)),
 VV.one (V1.c (C.bool (Hand.matchB (rd l (↑z_1 : Int).toNat (KK.dflt Kd.rule)).snd (jn (pieces p) ((↑z : Int) + (1 : Int) - (0 : Int)).toNat)).fst)), VV.one (V1.c (C.int .i64 (Hand.matchB (rd l (↑z_1 :
 Int).toNat (KK.dflt Kd.rule)).snd (jn (pieces p) ((↑z : Int) + (1 : Int) - (0 : Int)).toNat)).snd))] ++ anys 40) [Atom.ro Kd.rule l, Atom.arr Kd.str (pieces p)])) (i64ok ((↑z_1 : Int) + (1 : Int)) ∧ Enter
 1 (inv_rskI l p (jn (pieces p) ((↑z : Int) + (1 : Int) - (0 : Int)).toNat) ((↑z : Int) + (1 : Int))) (fun (z' : Nat) => l.length - z' < l.length - z_1) ([VV.one (V1.c (C.slc 0 0 l.length none)), VV.one
 (V1.c (C.str p)), VV.any, VV.any, VV.any, VV.one (V1.c (C.slc 1 0 (pieces p).length none)), VV.any, i64 ((↑z : Int) + (1 : Int)), VV.one (V1.c (C.str (jn (pieces p) ((↑z : Int) + (1 : Int) - (0 : Int)).toNat))),
 i64 ((↑z_1 : Int) + (1 : Int))] ++ anys 42) [Atom.ro Kd.rule l, Atom.arr Kd.str (pieces p)])) (i64ok ((↑z : Int) + (1 : Int) + (1 : Int)) ∧ Enter 1 (inv_rskO l p) (fun (z' : Nat) => (pieces p).length -
 z' < (pieces p).length - z) ([VV.one (V1.c (C.slc 0 0 l.length none)), VV.one (V1.c (C.str p)), VV.any, VV.any, VV.any, VV.one (V1.c (C.slc 1 0 (pieces p).length none)), VV.any, i64 ((↑z : Int) + (1 :
 Int) + (1 : Int)), VV.one (V1.c (C.str (jn (pieces p) ((↑z : Int) + (1 : Int) - (0 : Int)).toNat))), i64 (↑z_1 : Int)] ++ anys 42) [Atom.ro Kd.rule l, Atom.arr Kd.str (pieces p)])) (EndsAs 1 (ct_rskip
 l p) (boolv false) [Atom.ro Kd.rule l, Atom.arr Kd.str (pieces p)])) (EndsAs 1 (ct_rskip l p) (boolv false) [Atom.ro Kd.rule l, Atom.arr Kd.str (Hand.splitB p (64 : Int)).fst])) := by kernel_rfl
theorem vc_rwhy (l : List Rl) (p : ByteArray) : evFn tabRy (ann_rwhy l p) Tryd.f16 (ct_rwhy l p) = ( (p.size ≤ 1000000 ∧ i64ok (64 : Int)) ∧ Into (K := KK) 0 [] [] [VV.one (V1.c (C.str p)), i64 (64 : Int)] [Atom.ro Kd.rule l] [VV.one (V1.c (C.str p)), i64 (64 : Int)] [] ∧ ∀ (y : Unit), True → ite2 (decide
 ((Hand.splitB p (64 : Int)).snd = (0 : Int))) (Enter 1 (inv_rwhO l p) (fun (x : Nat) => True) ([VV.one (V1.c (C.slc 0 0 l.length none)), VV.one (V1.c (C.str p)), VV.any, VV.any, i64 (0 : Int), i64 (0 :
 Int), VV.one (V1.c (C.slc 1 0 (Hand.splitB p (64 : Int)).fst.length none)), i64 (Hand.splitB p (64 : Int)).snd, i64 (0 : Int), i64 (0 : Int), i64 (0 : Int)] ++ anys 65) [Atom.ro Kd.rule l, Atom.arr Kd.str
 (Hand.splitB p (64 : Int)).fst] ∧ ∀ (z : Nat), z ≤ l.length → ite2 (decide ((↑z : Int) < (↑l.length : Int))) (((0 : Int) ≤ (↑z : Int) ∧ (↑z : Int) < (↑l.length : Int)) ∧ (↑z : Int).toNat < l.length ∧ True
 ∧ (↑z : Int).toNat < l.length ∧ ite2 (decide ((rd l (↑z : Int).toNat (KK.dflt Kd.rule)).fst = (1 : Int))) (Enter 1 (inv_rwhI l p (whyTo l p z).fst (whyTo l p z).snd (↑z : Int) (rd l (↑z : Int).toNat ((0
 : Int), ByteArray.empty))) (fun (x : Nat) => True) ([VV.one (V1.c (C.slc 0 0 l.length none)), VV.one (V1.c (C.str p)), VV.any, VV.any, VV.any, VV.any, VV.one (V1.c (C.slc 1 0 (pieces p).length none)),
 VV.any, i64 (whyTo l p z).fst, i64 (whyTo l p z).snd, i64 (↑z : Int), VV.any, VV.any, i64 (1 : Int)] ++ anys 62) [Atom.ro Kd.rule l, Atom.arr Kd.str (pieces p)] ∧ ∀ (z_1 : Nat), z_1 ≤ (pieces p).length
 → ite2 (decide ((↑z_1 : Int) + (1 : Int) ≤ (↑(pieces p).length : Int))) (ite2 (decide (firstTo (rd l (↑z : Int).toNat ((0 : Int), (ByteArray.mk (#[])))) (pieces p) (whyTo l p z).fst (↑z : Int) z_1 = (0
 : Int))) (((0 : Int) ≤ (↑z : Int) ∧ (↑z : Int) < (↑l.length : Int)) ∧ (↑z : Int).toNat < l.length ∧ True ∧ (↑z : Int).toNat < l.length ∧ ((0 : Int) ≤ (0 : Int) ∧ (0 : Int) ≤ (↑z_1 : Int) + (1 : Int)) ∧
 (0 : Int) + ((↑z_1 : Int) + (1 : Int)) ≤ (↑(pieces p).length : Int) ∧ True ∧ ((pieces p).length ≤ 1000000 ∧ ((↑z_1 : Int) + (1 : Int) - (0 : Int)).toNat ≤ (pieces p).length ∧ ∀ (x : ByteArray), List.Mem
 x (pieces p) → x.size ≤ 1000) ∧ Into (K := KK) 0 [] [1] [VV.one (V1.c (C.slc 1 0 ((↑z_1 : Int) + (1 : Int) - (0 : Int)).toNat none))] [Atom.ro Kd.rule l, Atom.arr Kd.str (pieces p)] [VV.one (V1.c (C.slc
 0 0 ((↑z_1 : Int) + (1 : Int) - (0 : Int)).toNat none))] [Atom.ro Kd.str (pieces p)] ∧ ∀ (y : Unit), True → ((((0 : Int) ≤ (↑z : Int) ∧ (↑z : Int) < (↑l.length : Int)) ∧ (↑z : Int).toNat < l.length ∧ True
 ∧ VV.one (V1.c (C.ptr 0 (↑z : Int).toNat 0)) = VV.one (V1.c (C.ptr 0 (↑z : Int).toNat 0))) ∧ ((↑z : Int).toNat < l.length ∧ VV.one (V1.c (C.str (rd l (↑z : Int).toNat (KK.dflt Kd.rule)).snd)) = VV.one
 (V1.c (C.str (rd l (↑z : Int).toNat (KK.dflt Kd.rule)).snd))) ∧ True) ∧ ((rd l (↑z : Int).toNat (KK.dflt Kd.rule)).snd.size ≤ 999999 ∧ (jn (pieces p) ((↑z_1 : Int) + (1 : Int) - (0 : Int)).toNat).size
 ≤ 999999) ∧ Into (K := KK) 0 [] [] [VV.one (V1.c (C.str (rd l (↑z : Int).toNat (KK.dflt Kd.rule)).snd)), VV.one (V1.c (C.str (jn (pieces p) ((↑z_1 : Int) + (1 : Int) - (0 : Int)).toNat)))] [Atom.ro Kd.rule
 l, Atom.arr Kd.str (pieces p)] [VV.one (V1.c (C.str (rd l (↑z : Int).toNat (KK.dflt Kd.rule)).snd)), VV.one (V1.c (C.str (jn (pieces p) ((↑z_1 : Int) + (1 : Int) - (0 : Int)).toNat)))] [] ∧ ∀ (y : Unit),
 True → ite2 (Hand.matchB (rd l (↑z : Int).toNat (KK.dflt Kd.rule)).snd (jn (pieces p) ((↑z_1 : Int) + (1 : Int) - (0 : Int)).toNat)).fst (True ∧ True ∧ True ∧ i64ok ((↑z : Int) + (1 : Int)) ∧ i64ok ((↑z_1
 : Int) + (1 : Int) + (1 : Int)) ∧ Enter 1 (inv_rwhI l p (whyTo l p z).fst (whyTo l p z).snd (↑z : Int) (rd l (↑z : Int).toNat ((0 : Int), ByteArray.empty))) (fun (z' : Nat) => (pieces p).length - z' <
 (pieces p).length - z_1) ([VV.one (V1.c (C.slc 0 0 l.length none)), VV.one (V1.c (C.str p)), VV.any, VV.any, VV.any, VV.any, VV.one (V1.c (C.slc 1 0 (pieces p).length none)), VV.any, i64 ((↑z : Int) +
 (1 : Int)), i64 (whyTo l p z).snd, i64 (↑z : Int), VV.any, VV.any, VV.one (V1.c (C.int .i64 ((↑z_1 : Int) + (1 : Int) + (1 : Int)))), boolv true, VV.one (V1.c (C.int .i64 (Hand.matchB (rd l (↑z : Int).toNat
 (KK.dflt Kd.rule)).snd (jn (pieces p) ((↑z_1 : Int) + (1 : Int) - (0 : Int)).toNat)).snd))] ++ anys 60) [Atom.ro Kd.rule l, Atom.arr Kd.str (pieces p)]) (True ∧ True ∧ True ∧ i64ok ((↑z_1 : Int) + (1 :
 Int) + (1 : Int)) ∧ Enter 1 (inv_rwhI l p (whyTo l p z).fst (whyTo l p z).snd (↑z : Int) (rd l (↑z : Int).toNat ((0 : Int), ByteArray.empty))) (fun (z' : Nat) => (pieces p).length - z' < (pieces p).length
 - z_1) ([VV.one (V1.c (C.slc 0 0 l.length none)), VV.one (V1.c (C.str p)), VV.any, VV.any, VV.any, VV.any, VV.one (V1.c (C.slc 1 0 (pieces p).length none)), VV.any, VV.one (V1.c (C.int .i64 (firstTo (rd
 l (↑z : Int).toNat ((0 : Int), (ByteArray.mk (#[])))) (pieces p) (whyTo l p z).fst (↑z : Int) z_1))), i64 (whyTo l p z).snd, i64 (↑z : Int), VV.any, VV.any, i64 ((↑z_1 : Int) + (1 : Int) + (1 : Int)),
 boolv false, VV.one (V1.c (C.int .i64 (Hand.matchB (rd l (↑z : Int).toNat (KK.dflt Kd.rule)).snd (jn (pieces p) ((↑z_1 : Int) + (1 : Int) - (0 : Int)).toNat)).snd))] ++ anys 60) [Atom.ro Kd.rule l, Atom.arr
 Kd.str (pieces p)])) (i64ok ((↑z : Int) + (1 : Int)) ∧ Enter 1 (inv_rwhO l p) (fun (z' : Nat) => l.length - z' < l.length - z) ([VV.one (V1.c (C.slc 0 0 l.length none)), VV.one (V1.c (C.str p)), VV.any,
 VV.any, VV.any, VV.any, VV.one (V1.c (C.slc 1 0 (pieces p).length none)), VV.any, VV.one (V1.c (C.int .i64 (firstTo (rd l (↑z : Int).toNat ((0 : Int), (ByteArray.mk (#[])))) (pieces p) (whyTo l p z).fst
 (↑z : Int) z_1))), i64 (whyTo l p z).snd, i64 ((↑z : Int) + (1 : Int)), VV.any, VV.any, i64 ((↑z_1 : Int) + (1 : Int))] ++ anys 62) [Atom.ro Kd.rule l, Atom.arr Kd.str (pieces p)])) (i64ok ((↑z : Int)
 + (1 : Int)) ∧ Enter 1 (inv_rwhO l p) (fun (z' : Nat) => l.length - z' < l.length - z) ([VV.one (V1.c (C.slc 0 0 l.length none)), VV.one (V1.c (C.str p)), VV.any, VV.any, VV.any, VV.any, VV.one (V1.c (C.slc
 1 0 (pieces p).length none)), VV.any, VV.one (V1.c (C.int .i64 (firstTo (rd l (↑z : Int).toNat ((0 : Int), (ByteArray.mk (#[])))) (pieces p) (whyTo l p z).fst (↑z : Int) z_1))), i64 (whyTo l p z).snd,
 i64 ((↑z : Int) + (1 : Int)), VV.any, VV.any, i64 ((↑z_1 : Int) + (1 : Int))] ++ anys 62) [Atom.ro Kd.rule l, Atom.arr Kd.str (pieces p)])) (((0 : Int) ≤ (↑z : Int) ∧ (↑z : Int) < (↑l.length : Int)) ∧
 (↑z : Int).toNat < l.length ∧ True ∧ (↑z : Int).toNat < l.length ∧ ((rd l (↑z : Int).toNat (KK.dflt Kd.rule)).snd.size ≤ 999999 ∧ p.size ≤ 999999) ∧ Into (K := KK) 0 [] [] [VV.one (V1.c (C.str (rd l (↑z
 : Int).toNat (KK.dflt Kd.rule)).snd)), VV.one (V1.c (C.str p))] [Atom.ro Kd.rule l, Atom.arr Kd.str (pieces p)] [VV.one (V1.c (C.str (rd l (↑z : Int).toNat (KK.dflt Kd.rule)).snd)), VV.one (V1.c (C.str
 p))] [] ∧ ∀ (y : Unit), True → ite2 (Hand.matchB (rd l (↑z : Int).toNat (KK.dflt Kd.rule)).snd p).fst (i64ok ((↑z : Int) + (1 : Int)) ∧ i64ok ((↑z : Int) + (1 : Int)) ∧ Enter 1 (inv_rwhO l p) (fun (z'
 : Nat) => l.length - z' < l.length - z) ([VV.one (V1.c (C.slc 0 0 l.length none)), VV.one (V1.c (C.str p)), VV.any, VV.any, VV.any, VV.any, VV.one (V1.c (C.slc 1 0 (pieces p).length none)), VV.any, i64
 (whyTo l p z).fst, i64 ((↑z : Int) + (1 : Int)), i64 ((↑z : Int) + (1 : Int)), boolv (Hand.matchB (rd l (↑z : Int).toNat (KK.dflt Kd.rule)).snd p).fst, i64 (Hand.matchB (rd l (↑z : Int).toNat (KK.dflt
 Kd.rule)).snd p).snd] ++ anys 63) [Atom.ro Kd.rule l, Atom.arr Kd.str (pieces p)]) (i64ok ((↑z : Int) + (1 : Int)) ∧ Enter 1 (inv_rwhO l p) (fun (z' : Nat) => l.length - z' < l.length - z) ([VV.one (V1.c
 (C.slc 0 0 l.length none)), VV.one (V1.c (C.str p)), VV.any, VV.any, VV.any, VV.any, VV.one (V1.c (C.slc 1 0 (pieces p).length none)), VV.any, i64 (whyTo l p z).fst, i64 (whyTo l p z).snd, i64 ((↑z : Int)
 + (1 : Int)), boolv (Hand.matchB (rd l (↑z : Int).toNat (KK.dflt Kd.rule)).snd p).fst, i64 (Hand.matchB (rd l (↑z : Int).toNat (KK.dflt Kd.rule)).snd p).snd] ++ anys 63) [Atom.ro Kd.rule l, Atom.arr Kd.str
 (pieces p)]))) (EndsAs 1 (ct_rwhy l p) (VV.tup [V1.c (C.int .i64 (whyTo l p z).fst), V1.c (C.int .i64 (whyTo l p z).snd)]) [Atom.ro Kd.rule l, Atom.arr Kd.str (pieces p)])) (EndsAs 1 (ct_rwhy l p) (VV.tup
 [V1.c (C.int .i64 (0 : Int)), V1.c (C.int .i64 (0 : Int))]) [Atom.ro Kd.rule l, Atom.arr Kd.str (Hand.splitB p (64 : Int)).fst])) := by kernel_rfl
theorem line_size {s x : ByteArray} (h : x ∈ linesB s) : x.size ≤ s.size := by
  have h1 := linesB_sum s
  have h2 : ∀ l : List ByteArray, x ∈ l → x.size + 1 ≤ (l.map fun x => x.size + 1).sum := fun l => by
    induction l with
    | nil => intro h; cases h
    | cons a b ih =>
      intro h
      rcases List.mem_cons.1 h with rfl | h
      · simp only [List.map_cons, List.sum_cons]; omega
      · have := ih h; simp only [List.map_cons, List.sum_cons]; omega
  have := h2 _ h
  omega
theorem lines_few (s : ByteArray) : (linesB s).length ≤ s.size + 1 := by
  have h1 := linesB_sum s
  have h2 : ∀ l : List ByteArray, l.length ≤ (l.map fun x => x.size + 1).sum := fun l => by
    induction l with
    | nil => simp
    | cons a b ih => simp only [List.length_cons, List.map_cons, List.sum_cons]; omega
  have h3 := h2 (linesB s)
  omega
theorem readL_size {s : ByteArray} {r : Rl} (h : R.readL s = some r) : r.2.size ≤ s.size := by
  have h1 := congrArg List.length (R.readL_is h).1
  unfold lineL at h1
  rw [List.length_append] at h1
  have e1 : s.data.toList.length = s.size := by simp
  have e2 : r.2.data.toList.length = r.2.size := by simp
  omega
theorem rparse_ok (s : ByteArray) : CtOk Tryd.prog 11 (ct_rparse s) := CtOk_of KK_ok tabRy (ann_rparse s) (fn := Tryd.f11) rfl (fun _ _ => rfl) fun hn => by
  have hs : s.size ≤ 1000000 := hn
  have bad0 : ∀ (k e : Int), parseB s = .bad k e → EndsAs 0 (ct_rparse s) (.tup [.c .nils, .c (.int .i64 k), .c (.int .i64 e)]) [] := fun k e h => by
    have hq1 : k = (badOf (parseB s)).1 := by rw [h]; rfl
    have hq2 : e = (badOf (parseB s)).2 := by rw [h]; rfl
    have hq3 : 0 = (goodOf (parseB s)).length := by rw [h]; rfl
    have hq3' : (goodOf (parseB s)).length = 0 := hq3.symm
    have hq4 : ([] : List Rl) = goodOf (parseB s) := by rw [h]; rfl
    exact ⟨(), [.rule], [0], trivial, by (repeat' first | exact trivial | exact rfl | exact hq1 | exact hq2 | exact hq3 | exact hq3' | exact hq4 | apply And.intro)⟩
  have bad2 : ∀ (k e : Int) (a0 a1 : Atom KK), parseB s = .bad k e → EndsAs 0 (ct_rparse s) (.tup [.c .nils, .c (.int .i64 k), .c (.int .i64 e)]) [a0, a1] := fun k e a0 a1 h => by
    have hq1 : k = (badOf (parseB s)).1 := by rw [h]; rfl
    have hq2 : e = (badOf (parseB s)).2 := by rw [h]; rfl
    have hq3 : 0 = (goodOf (parseB s)).length := by rw [h]; rfl
    have hq3' : (goodOf (parseB s)).length = 0 := hq3.symm
    have hq4 : ([] : List Rl) = goodOf (parseB s) := by rw [h]; rfl
    exact ⟨(), [.rule], [2], trivial, by (repeat' first | exact trivial | exact rfl | exact hq1 | exact hq2 | exact hq3 | exact hq3' | exact hq4 | apply And.intro)⟩
  have bad3 : ∀ (k e : Int) (a0 a1 a2 : Atom KK), parseB s = .bad k e → EndsAs 0 (ct_rparse s) (.tup [.c .nils, .c (.int .i64 k), .c (.int .i64 e)]) [a0, a1, a2] := fun k e a0 a1 a2 h => by
    have hq1 : k = (badOf (parseB s)).1 := by rw [h]; rfl
    have hq2 : e = (badOf (parseB s)).2 := by rw [h]; rfl
    have hq3 : 0 = (goodOf (parseB s)).length := by rw [h]; rfl
    have hq3' : (goodOf (parseB s)).length = 0 := hq3.symm
    have hq4 : ([] : List Rl) = goodOf (parseB s) := by rw [h]; rfl
    exact ⟨(), [.rule], [3], trivial, by (repeat' first | exact trivial | exact rfl | exact hq1 | exact hq2 | exact hq3 | exact hq3' | exact hq4 | apply And.intro)⟩
  rw [vc_rparse]
  simp only [Int.toNat_natCast]
  refine ite2_decide (fun hl => bad0 _ _ ?_) (fun hl => ?_)
  · unfold parseB; rw [if_pos (by omega)]
  have hpl : parseB s = parseL 0 [] (linesB s) := by unfold parseB; rw [if_neg (by omega)]
  refine ⟨hs, into_mk (by kernel_rfl) (by (repeat' first | exact trivial | exact rfl | apply And.intro)) (by (repeat' first | exact trivial | exact rfl | apply And.intro)), fun _ _ => ⟨⟨((0 : Nat), []), [.rule], [0, 1], ⟨Nat.zero_le _, Nat.zero_le _, hpl.symm⟩, trivial, into_mk (by kernel_rfl) (by (repeat' first | exact trivial | exact rfl | apply And.intro)) (by (repeat' first | exact trivial | exact rfl | apply And.intro))⟩, ?_⟩⟩
  rintro ⟨i, acc⟩ ⟨hi, h64, hp⟩
  dsimp only at hi h64 hp ⊢
  have hfew := lines_few s
  refine ite2_decide (fun hl1 => ?_) (fun hl1 => ?_)
  · have hl2 : i < (linesB s).length := by omega
    have io : i64ok ((i : Int) + 1) := by unfold i64ok; omega
    have me : (linesB s).length - (i + 1) < (linesB s).length - i := by omega
    have hls : (rd (linesB s) i (ByteArray.mk #[])).size ≤ s.size := line_size (rd_inB (linesB s) i _ hl2)
    rw [drop_rd hl2 (ByteArray.mk #[])] at hp
    rw [parseL] at hp
    have skip : ((rd (linesB s) i (ByteArray.mk #[])).data.toList = [] ∨ (rd (linesB s) i (ByteArray.mk #[])).data.toList.head? = some 35) → parTo s (i + 1) acc := fun h => ⟨hl2, h64, by rw [if_pos h] at hp; exact hp⟩
    refine ⟨⟨by omega, hl1⟩, hl2, trivial, hl2, ite2_decide (fun h0 => ?_) (fun h0 => ?_)⟩
    · rw [toList_data, toList_data] at h0
      exact ⟨io, (i + 1, acc), [], [0, 1], skip (.inl h0), me, into_mk (by kernel_rfl) (by (repeat' first | exact trivial | exact rfl | apply And.intro)) (by (repeat' first | exact trivial | exact rfl | apply And.intro))⟩
    · have hsz := size_of_toList h0
      rw [toList_data, toList_data] at h0
      refine ⟨⟨by omega, hl1⟩, hl2, trivial, hl2, ⟨Int.le_refl _, by omega⟩, ite2_decide (fun h1 => ?_) (fun h1 => ?_)⟩
      · have h1' := (bt0 (x := (rd (linesB s) i (ByteArray.mk #[]))).1 h1).resolve_right (fun e => hsz e.1)
        exact ⟨io, (i + 1, acc), [], [0, 1], skip (.inr h1'), me, into_mk (by kernel_rfl) (by (repeat' first | exact trivial | exact rfl | apply And.intro)) (by (repeat' first | exact trivial | exact rfl | apply And.intro))⟩
      · rw [if_neg (by rintro (e | e); exact h0 e; exact h1 (bt0 (x := (rd (linesB s) i (ByteArray.mk #[]))).2 (.inl e)))] at hp
        refine ⟨⟨by omega, hl1⟩, hl2, trivial, hl2, by omega, into_mk (by kernel_rfl) (by (repeat' first | exact trivial | exact rfl | apply And.intro)) (by (repeat' first | exact trivial | exact rfl | apply And.intro)), fun _ _ => ite2_mk (fun h2 => ?_) (fun h2 => ⟨io, bad3 _ _ _ _ _ ?_⟩)⟩
        · obtain ⟨r, hr⟩ : ∃ r, R.readL (rd (linesB s) i (ByteArray.mk #[])) = some r := by
            cases hr : R.readL (rd (linesB s) i (ByteArray.mk #[])) with
            | none => unfold readR at h2; rw [hr] at h2; cases h2
            | some r => exact ⟨r, rfl⟩
          have hR : readR (rd (linesB s) i (ByteArray.mk #[])) = (r.1, r.2, true) := by unfold readR; rw [hr]
          have hrs := readL_size hr
          rw [hr] at hp
          dsimp only at hp
          simp only [hR]
          refine ite2_decide (fun h3 => ⟨io, bad3 _ _ _ _ _ ?_⟩) (fun h3 => ⟨⟨by omega, by decide⟩, into_mk (by kernel_rfl) (by (repeat' first | exact trivial | exact rfl | apply And.intro)) (by (repeat' first | exact trivial | exact rfl | apply And.intro)), fun _ _ => ite2_decide (fun h4 => ?_) (fun h4 => ⟨io, bad3 _ _ _ _ _ ?_⟩)⟩)
          · rw [if_pos (by omega)] at hp; exact hp.symm
          · have h3' : ¬ acc.length = 64 := by omega
            have h4' : ¬ (patE r.2 ≠ 0) := fun e => e h4
            rw [if_neg h3', if_neg h4'] at hp
            have hq1 : acc.length + 1 = (acc ++ [(r.1, r.2)]).length := by simp
            exact ⟨trivial, ⟨Nat.le_refl _, trivial⟩, by omega, io, (i + 1, acc ++ [(r.1, r.2)]), [], [0, 4], ⟨hl2, by simp; omega, hp⟩, me, into_mk (by kernel_rfl) (by (repeat' first | exact trivial | exact rfl | exact hq1 | apply And.intro)) (by (repeat' first | exact trivial | exact rfl | exact hq1 | apply And.intro))⟩
          · have h3' : ¬ acc.length = 64 := by omega
            have h4' : patE r.2 ≠ 0 := fun e => h4 e
            rw [if_neg h3', if_pos h4'] at hp
            exact hp.symm
        · have hr : R.readL (rd (linesB s) i (ByteArray.mk #[])) = none := by
            cases hr : R.readL (rd (linesB s) i (ByteArray.mk #[])) with
            | none => rfl
            | some r => unfold readR at h2; rw [hr] at h2; cases h2
          rw [hr] at hp
          exact hp.symm
  · have hp : PR.good acc = parseB s := by
      rw [List.drop_of_length_le (by omega)] at hp
      exact hp
    have hq1 : acc.length = (goodOf (parseB s)).length := by rw [← hp]; rfl
    have hq2 : (0 : Int) = (badOf (parseB s)).1 := by rw [← hp]; rfl
    have hq3 : (0 : Int) = (badOf (parseB s)).2 := by rw [← hp]; rfl
    have hq4 : acc = goodOf (parseB s) := by rw [← hp]; rfl
    exact ⟨(), [], [1], trivial, by (repeat' first | exact trivial | exact rfl | exact hq1 | exact hq2 | exact hq3 | exact hq4 | apply And.intro)⟩
theorem rl_at {l : List Rl} {i : Nat} (h : i < l.length) (d : Rl) : rd l i d = l[i] := by
  unfold rd
  rw [List.getD_eq_getElem?_getD, List.getElem?_eq_getElem h]
  rfl
theorem mir_take {l : List Rl} {i : Nat} (h : i < l.length) (d : Rl) : mirB (l.take (i + 1)) = mirB (l.take i) ++ [mirR (rd l i d)] := by
  unfold mirB
  rw [List.take_succ_eq_append_getElem h, List.map_append, rl_at h]
  rfl
theorem rmir_ok (l : List Rl) : CtOk Tryd.prog 21 (ct_rmir l) := CtOk_of KK_ok tabRy (ann_rmir l) (fn := Tryd.f21) rfl (fun _ _ => rfl) fun hn => by
  have hn : l.length ≤ 1000 := hn
  rw [vc_rmir]
  simp only [Int.toNat_natCast]
  refine ⟨⟨(0 : Nat), [.rule], [0, 1], Nat.zero_le _, trivial, into_mk (by kernel_rfl) (by (repeat' first | exact trivial | exact rfl | apply And.intro)) (by (repeat' first | exact trivial | exact rfl | apply And.intro))⟩, ?_⟩
  intro i hi
  have hi : i ≤ l.length := hi
  have hml : (mirB (l.take i)).length = i := by unfold mirB; rw [List.length_map, List.length_take]; omega
  refine ite2_decide (fun hl => ?_) (fun hl => ?_)
  · have hl1 : i < l.length := by omega
    have ht := mir_take hl1 (KK.dflt Kd.rule)
    have io : i64ok ((i : Int) + 1) := by unfold i64ok; omega
    have me : l.length - (i + 1) < l.length - i := by omega
    have hq1 : (mirB (l.take i)).length + 1 = (mirB (l.take (i + 1))).length := by rw [ht]; simp
    have put : ∀ w : Int, w = mirW (rd l i (KK.dflt Kd.rule)).1 → mirB (l.take i) ++ [(w, (rd l i (KK.dflt Kd.rule)).2)] = mirB (l.take (i + 1)) := fun w hw => by rw [ht, hw]; rfl
    refine ⟨⟨by omega, hl⟩, hl1, trivial, hl1, ite2_decide (fun h2 => ?_) (fun h2 => ite2_decide (fun h3 => ?_) (fun h3 => ?_))⟩
    · have hq2 := put 3 (by unfold mirW; rw [if_pos h2])
      exact ⟨trivial, ⟨Nat.le_refl _, trivial⟩, by omega, io, (i + 1 : Nat), [], [0, 4], hl1, me, into_mk (by kernel_rfl) (by (repeat' first | exact trivial | exact rfl | exact hq1 | exact hq2 | apply And.intro)) (by (repeat' first | exact trivial | exact rfl | exact hq1 | exact hq2 | apply And.intro))⟩
    · have hq2 := put 2 (by unfold mirW; rw [if_neg h2, if_pos h3])
      exact ⟨trivial, ⟨Nat.le_refl _, trivial⟩, by omega, io, (i + 1 : Nat), [], [0, 4], hl1, me, into_mk (by kernel_rfl) (by (repeat' first | exact trivial | exact rfl | exact hq1 | exact hq2 | apply And.intro)) (by (repeat' first | exact trivial | exact rfl | exact hq1 | exact hq2 | apply And.intro))⟩
    · have hq2 := put (rd l i (KK.dflt Kd.rule)).1 (by unfold mirW; rw [if_neg h2, if_neg h3])
      exact ⟨trivial, ⟨Nat.le_refl _, trivial⟩, by omega, io, (i + 1 : Nat), [], [0, 4], hl1, me, into_mk (by kernel_rfl) (by (repeat' first | exact trivial | exact rfl | exact hq1 | exact hq2 | apply And.intro)) (by (repeat' first | exact trivial | exact rfl | exact hq1 | exact hq2 | apply And.intro))⟩
  · have hq1 : (mirB (l.take i)).length = (mirB l).length := by rw [List.take_of_length_le (by omega)]
    have hq2 : mirB (l.take i) = mirB l := by rw [List.take_of_length_le (by omega)]
    exact ⟨(), [], [0, 1], trivial, by (repeat' first | exact trivial | exact rfl | exact hq1 | exact hq2 | apply And.intro)⟩
theorem pref_take {l : List Rl} {i : Nat} (h : i < l.length) (p : ByteArray) (d : Rl) : preferB (l.take (i + 1)) p = prefStep p (preferB (l.take i) p) (rd l i d) := by
  unfold preferB
  rw [List.take_succ_eq_append_getElem h, List.foldl_append, rl_at h]
  rfl
theorem Fine.at_ {l : List Rl} (h : Fine l) {i : Nat} (hi : i < l.length) (d : Rl) : (1 ≤ (rd l i d).1 ∧ (rd l i d).1 ≤ 3) ∧ (rd l i d).2.size ≤ 999999 := by
  rw [rl_at hi]; exact h.2 _ (List.getElem_mem hi)
theorem rpref_ok (l : List Rl) (p : ByteArray) : CtOk Tryd.prog 20 (ct_rpref l p) := CtOk_of KK_ok tabRy (ann_rpref l p) (fn := Tryd.f20) rfl (fun _ _ => rfl) fun hn => by
  obtain ⟨hF, hp⟩ := hn
  have hn := hF.1
  rw [vc_rpref]
  simp only [Int.toNat_natCast]
  refine ⟨⟨(0 : Nat), [], [0], Nat.zero_le _, trivial, into_mk (by kernel_rfl) (by (repeat' first | exact trivial | exact rfl | apply And.intro)) (by (repeat' first | exact trivial | exact rfl | apply And.intro))⟩, ?_⟩
  intro i hi
  have hi : i ≤ l.length := hi
  refine ite2_decide (fun hl => ?_) (fun hl => ?_)
  · have hl1 : i < l.length := by omega
    have ht := pref_take hl1 p (KK.dflt Kd.rule)
    obtain ⟨⟨f1, f2⟩, f3⟩ := hF.at_ hl1 (KK.dflt Kd.rule)
    have io : i64ok ((i : Int) + 1) := by unfold i64ok; omega
    have me : l.length - (i + 1) < l.length - i := by omega
    unfold prefStep at ht
    rw [sp_ok] at ht
    refine ⟨⟨by omega, hl⟩, hl1, trivial, hl1, ite2_decide (fun h1 => ?_) (fun h1 => ?_)⟩
    · have hq1 : preferB (l.take i) p = preferB (l.take (i + 1)) p := by rw [ht, if_neg (by omega), if_neg (by omega)]
      exact ⟨io, (i + 1 : Nat), [], [0], hl1, me, into_mk (by kernel_rfl) (by (repeat' first | exact trivial | exact rfl | exact hq1 | apply And.intro)) (by (repeat' first | exact trivial | exact rfl | apply And.intro))⟩
    · refine ⟨⟨by omega, hl⟩, hl1, trivial, hl1, ⟨f3, hp⟩, into_mk (by kernel_rfl) (by (repeat' first | exact trivial | exact rfl | apply And.intro)) (by (repeat' first | exact trivial | exact rfl | apply And.intro)), fun _ _ => ite2_mk (fun h2 => ?_) (fun h2 => ?_)⟩
      · have hq1 : (rd l i (KK.dflt Kd.rule)).1 - 1 = preferB (l.take (i + 1)) p := by
          rw [ht]
          rcases (show (rd l i (KK.dflt Kd.rule)).1 = 2 ∨ (rd l i (KK.dflt Kd.rule)).1 = 3 by omega) with e | e
          · rw [if_pos ⟨e, h2⟩, e]; rfl
          · rw [if_neg (by omega), if_pos ⟨e, h2⟩, e]; rfl
        exact ⟨⟨by omega, hl⟩, hl1, trivial, hl1, by unfold i64ok; omega, io, (i + 1 : Nat), [], [0], hl1, me, into_mk (by kernel_rfl) (by (repeat' first | exact trivial | exact rfl | exact hq1 | apply And.intro)) (by (repeat' first | exact trivial | exact rfl | apply And.intro))⟩
      · have hq1 : preferB (l.take i) p = preferB (l.take (i + 1)) p := by
          rw [ht, if_neg (by rintro ⟨_, e⟩; rw [h2] at e; cases e), if_neg (by rintro ⟨_, e⟩; rw [h2] at e; cases e)]
        exact ⟨io, (i + 1 : Nat), [], [0], hl1, me, into_mk (by kernel_rfl) (by (repeat' first | exact trivial | exact rfl | exact hq1 | apply And.intro)) (by (repeat' first | exact trivial | exact rfl | apply And.intro))⟩
  · have hq1 : preferB (l.take i) p = preferB l p := by rw [List.take_of_length_le (by omega)]
    exact ⟨(), [], [0], trivial, by (repeat' first | exact trivial | exact rfl | exact hq1 | apply And.intro)⟩
end Go.Proofs.YtoidibkcdkdneaaDoor.T
end
section
namespace Go.Proofs.YtoidibkcdkdneaaDoor.T
open Go.Proofs.YtoidibkcdkdneaaDoor.E Go.Proofs.YtoidibkcdkdneaaDoor.MStr Go.Proofs.YtoidibkcdkdneaaDoor.R
set_option maxRecDepth 100000
set_option linter.unusedVariables false
set_option linter.unusedSimpArgs false
theorem skipAt_next {l : List Rl} {i : Nat} (h : i < l.length) (q : ByteArray) (d : Rl) : skipAt (l.take (i + 1)) q = (skipAt (l.take i) q || (decide ((rd l i d).1 = 1) && sp (rd l i d) q)) := by
  unfold skipAt
  rw [List.take_succ_eq_append_getElem h, List.any_append, rl_at h]
  simp
theorem good_small {p : ByteArray} (h : (pieces p).all nameB = true) : ∀ x ∈ pieces p, x.size ≤ 1000 := fun x hx => by
  have := List.all_eq_true.1 h x hx
  unfold nameB at this
  simp only [Bool.and_eq_true, decide_eq_true_eq] at this
  omega
theorem rskip_ok (l : List Rl) (p : ByteArray) : CtOk Tryd.prog 18 (ct_rskip l p) := CtOk_of KK_ok tabRy (ann_rskip l p) (fn := Tryd.f18) rfl (fun _ _ => rfl) fun hn => by
  obtain ⟨hF, hp⟩ := hn
  have hn := hF.1
  have m64 : i64ok 64 := by unfold i64ok; omega
  rw [vc_rskip]
  refine ⟨⟨by omega, m64⟩, into_mk (by kernel_rfl) (by (repeat' first | exact trivial | exact rfl | apply And.intro)) (by (repeat' first | exact trivial | exact rfl | apply And.intro)), fun _ _ => ite2_decide (fun he => ?_) (fun he => ?_)⟩
  · obtain ⟨hs, hg, h64⟩ := split_ok he
    have ends : ∀ (v : Bool), v = skipB l p → EndsAs 1 (ct_rskip l p) (boolv v) [Atom.ro Kd.rule l, Atom.arr Kd.str (pieces p)] := fun v hv => by
      exact ⟨(), [], [0], trivial, by (repeat' first | exact trivial | exact rfl | exact hv | apply And.intro)⟩
    have hsk : skipB l p = (List.range (pieces p).length).any fun n => skipAt l (jn (pieces p) (n + 1)) := by
      unfold skipB; rw [decide_eq_true he, Bool.true_and, chain_any hg]
    have q1 : (Hand.splitB p 64).1.length = (pieces p).length := by rw [hs]
    refine ⟨⟨(0 : Nat), [], [0, 1], ⟨Nat.zero_le _, fun m hm => absurd hm (Nat.not_lt_zero _)⟩, trivial, into_mk (by kernel_rfl) (by (repeat' first | exact trivial | exact rfl | exact q1 | apply And.intro)) (by (repeat' first | exact trivial | exact rfl | exact hs | apply And.intro))⟩, ?_⟩
    intro z hz
    obtain ⟨z1, z2⟩ : z ≤ (pieces p).length ∧ ∀ m, m < z → skipAt l (jn (pieces p) (m + 1)) = false := hz
    have sm := good_small hg
    refine ite2_decide (fun hl => ?_) (fun hl => ?_)
    · have hl1 : z < (pieces p).length := by omega
      have ez : ((z : Int) + 1 - 0).toNat = z + 1 := by omega
      have hj := jn_small (pieces p) sm (z + 1) hl1
      simp only [ez, Int.toNat_natCast]
      refine ⟨⟨Int.le_refl _, by omega⟩, by omega, ⟨by omega, hl1, sm⟩, into_mk (by kernel_rfl) (by (repeat' first | exact trivial | exact rfl | apply And.intro)) (by (repeat' first | exact trivial | exact rfl | apply And.intro)), fun _ _ => ⟨⟨(0 : Nat), [], [0, 1], ⟨Nat.zero_le _, rfl⟩, trivial, into_mk (by kernel_rfl) (by (repeat' first | exact trivial | exact rfl | apply And.intro)) (by (repeat' first | exact trivial | exact rfl | apply And.intro))⟩, ?_⟩⟩
      intro i hi
      obtain ⟨i1, i2⟩ : i ≤ l.length ∧ skipAt (l.take i) (jn (pieces p) (z + 1)) = false := hi
      refine ite2_decide (fun hk => ?_) (fun hk => ?_)
      · have hk1 : i < l.length := by omega
        have ht := skipAt_next hk1 (jn (pieces p) (z + 1)) (KK.dflt Kd.rule)
        rw [i2, Bool.false_or] at ht
        obtain ⟨_, f3⟩ := hF.at_ hk1 (KK.dflt Kd.rule)
        have io : i64ok ((i : Int) + 1) := by unfold i64ok; omega
        have me : l.length - (i + 1) < l.length - i := by omega
        refine ⟨⟨by omega, hk⟩, hk1, trivial, hk1, ite2_decide (fun h1 => ?_) (fun h1 => ?_)⟩
        · rw [decide_eq_true h1, Bool.true_and, sp_ok] at ht
          refine ⟨⟨by omega, hk⟩, hk1, trivial, hk1, ⟨f3, by omega⟩, into_mk (by kernel_rfl) (by (repeat' first | exact trivial | exact rfl | apply And.intro)) (by (repeat' first | exact trivial | exact rfl | apply And.intro)), fun _ _ => ite2_mk (fun h2 => ends _ ?_) (fun h2 => ?_)⟩
          · rw [hsk]
            symm
            refine List.any_eq_true.2 ⟨z, List.mem_range.2 hl1, ?_⟩
            rw [h2] at ht
            have e : l = l.take (i + 1) ++ l.drop (i + 1) := (List.take_append_drop _ _).symm
            unfold skipAt at ht ⊢
            rw [e, List.any_append, ht]; rfl
          · rw [h2] at ht
            exact ⟨io, (i + 1 : Nat), [], [0, 1], ⟨hk1, ht⟩, me, into_mk (by kernel_rfl) (by (repeat' first | exact trivial | exact rfl | apply And.intro)) (by (repeat' first | exact trivial | exact rfl | apply And.intro))⟩
        · rw [decide_eq_false h1, Bool.false_and] at ht
          exact ⟨io, (i + 1 : Nat), [], [0, 1], ⟨hk1, ht⟩, me, into_mk (by kernel_rfl) (by (repeat' first | exact trivial | exact rfl | apply And.intro)) (by (repeat' first | exact trivial | exact rfl | apply And.intro))⟩
      · have hno : skipAt l (jn (pieces p) (z + 1)) = false := by rw [List.take_of_length_le (by omega)] at i2; exact i2
        exact ⟨by unfold i64ok; omega, (z + 1 : Nat), [], [0, 1], ⟨hl1, fun m hm => by
          by_cases e : m = z
          · subst e; exact hno
          · exact z2 m (by omega)⟩, (show (pieces p).length - (z + 1) < (pieces p).length - z by omega), into_mk (by kernel_rfl) (by (repeat' first | exact trivial | exact rfl | apply And.intro)) (by (repeat' first | exact trivial | exact rfl | apply And.intro))⟩
    · refine ends _ ?_
      rw [hsk]
      symm
      refine List.any_eq_false.2 fun n hn => ?_
      rw [z2 n (by have := List.mem_range.1 hn; omega)]
      simp
  · have hv : false = skipB l p := by unfold skipB; rw [decide_eq_false he]; rfl
    exact ⟨(), [], [0], trivial, by (repeat' first | exact trivial | exact rfl | exact hv | apply And.intro)⟩
theorem why_take {l : List Rl} {i : Nat} (h : i < l.length) (p : ByteArray) (d : Rl) : whyTo l p (i + 1) = whyStep p i (rd l i d) (whyTo l p i) := by
  unfold whyTo
  rw [List.take_succ_eq_append_getElem h, whyL_app', rl_at h, List.length_take, Nat.min_eq_left (by omega), Nat.zero_add]
theorem rwhy_ok (l : List Rl) (p : ByteArray) : CtOk Tryd.prog 16 (ct_rwhy l p) := CtOk_of KK_ok tabRy (ann_rwhy l p) (fn := Tryd.f16) rfl (fun _ _ => rfl) fun hn => by
  obtain ⟨hF, hp⟩ := hn
  have hn := hF.1
  have m64 : i64ok 64 := by unfold i64ok; omega
  have ends : ∀ (a b : Int) (A : Atom KK), a = (whyB l p).1 → b = (whyB l p).2 → EndsAs 1 (ct_rwhy l p) (VV.tup [V1.c (C.int .i64 a), V1.c (C.int .i64 b)]) [Atom.ro Kd.rule l, A] := fun a b A h1 h2 => by
    exact ⟨(), [], [0], trivial, by (repeat' first | exact trivial | exact rfl | exact h1 | exact h2 | apply And.intro)⟩
  rw [vc_rwhy]
  refine ⟨⟨by omega, m64⟩, into_mk (by kernel_rfl) (by (repeat' first | exact trivial | exact rfl | apply And.intro)) (by (repeat' first | exact trivial | exact rfl | apply And.intro)), fun _ _ => ite2_decide (fun he => ?_) (fun he => ?_)⟩
  · obtain ⟨hs, hg, h64⟩ := split_ok he
    have hw : whyB l p = whyTo l p l.length := by unfold whyB whyTo; rw [if_pos he, List.take_length]
    have q1 : (Hand.splitB p 64).1.length = (pieces p).length := by rw [hs]
    refine ⟨⟨(0 : Nat), [], [0, 1], Nat.zero_le _, trivial, into_mk (by kernel_rfl) (by (repeat' first | exact trivial | exact rfl | exact q1 | apply And.intro)) (by (repeat' first | exact trivial | exact rfl | exact hs | apply And.intro))⟩, ?_⟩
    intro i hi
    have hi : i ≤ l.length := hi
    have sm := good_small hg
    refine ite2_decide (fun hk => ?_) (fun hk => ?_)
    · have hk1 : i < l.length := by omega
      have ht := why_take hk1 p (KK.dflt Kd.rule)
      obtain ⟨_, f3⟩ := hF.at_ hk1 (KK.dflt Kd.rule)
      have io : i64ok ((i : Int) + 1) := by unfold i64ok; omega
      have me : l.length - (i + 1) < l.length - i := by omega
      have sk : skipsB (rd l i (KK.dflt Kd.rule)) p = (decide ((rd l i (KK.dflt Kd.rule)).1 = 1) && (List.range (pieces p).length).any fun n => sp (rd l i (KK.dflt Kd.rule)) (jn (pieces p) (n + 1))) := by
        unfold skipsB; rw [chain_any hg]
      simp only [Int.toNat_natCast]
      refine ⟨⟨by omega, hk⟩, hk1, trivial, hk1, ite2_decide (fun h1 => ?_) (fun h1 => ?_)⟩
      · rw [decide_eq_true h1, Bool.true_and] at sk
        unfold whyStep at ht
        rw [sk] at ht
        have e0 : whyTo l p i = ((whyTo l p i).1, (whyTo l p i).2) := rfl
        generalize hr : (rd l i (KK.dflt Kd.rule)) = r at *
        have hr2 : rd (α := Rl) l i ((0 : Int), ByteArray.empty) = r := hr
        have hr3 : rd (α := Rl) l i ((0 : Int), (ByteArray.mk #[])) = r := hr
        generalize hf0 : (whyTo l p i).1 = f0 at *
        generalize hg0 : (whyTo l p i).2 = g0 at *
        have q0 : f0 = firstTo r (pieces p) f0 i 0 := by
          unfold firstTo; rw [if_neg]; rintro ⟨_, h⟩; simp at h
        simp only [hr2, hr3]
        refine ⟨⟨(0 : Nat), [], [0, 1], Nat.zero_le _, trivial, into_mk (by kernel_rfl) (by (repeat' first | exact trivial | exact rfl | exact q0 | apply And.intro)) (by (repeat' first | exact trivial | exact rfl | apply And.intro))⟩, ?_⟩
        intro z hz
        have hz : z ≤ (pieces p).length := hz
        have fin : ∀ z, z ≤ (pieces p).length → (z = (pieces p).length ∨ firstTo r (pieces p) f0 i z ≠ 0) → firstTo r (pieces p) f0 i z = (whyTo l p (i + 1)).1 ∧ g0 = (whyTo l p (i + 1)).2 := fun z hz h => by
          rw [if_neg (c := r.1 ≠ 1 ∧ sp r p = true) (fun e => e.1 h1), e0] at ht
          by_cases hf : f0 = 0
          · by_cases hA : ((List.range z).any fun n => sp r (jn (pieces p) (n + 1))) = true
            · have hB : ((List.range (pieces p).length).any fun n => sp r (jn (pieces p) (n + 1))) = true := by
                obtain ⟨n, n1, n2⟩ := List.any_eq_true.1 hA
                exact List.any_eq_true.2 ⟨n, List.mem_range.2 (by have := List.mem_range.1 n1; omega), n2⟩
              rw [if_pos ⟨hf, hB⟩] at ht
              unfold firstTo
              rw [if_pos ⟨hf, hA⟩, ht]
              exact ⟨rfl, rfl⟩
            · have e : firstTo r (pieces p) f0 i z = f0 := by unfold firstTo; rw [if_neg (fun e => hA e.2)]
              have hzl : z = (pieces p).length := h.resolve_right (by rw [e]; exact fun k => k hf)
              rw [hzl] at hA
              rw [if_neg (fun e => hA e.2)] at ht
              rw [e, ht]
              exact ⟨rfl, rfl⟩
          · have e : firstTo r (pieces p) f0 i z = f0 := by unfold firstTo; rw [if_neg (fun e => hf e.1)]
            rw [if_neg (fun e => hf e.1)] at ht
            rw [e, ht]
            exact ⟨rfl, rfl⟩
        have out : ∀ z, z ≤ (pieces p).length → (z = (pieces p).length ∨ firstTo r (pieces p) f0 i z ≠ 0) → i64ok ((i : Int) + 1) ∧ Enter 1 (inv_rwhO l p) (fun (z' : Nat) => l.length - z' < l.length - i) ([VV.one (V1.c (C.slc 0 0 l.length none)), VV.one (V1.c (C.str p)), VV.any, VV.any, VV.any, VV.any, VV.one (V1.c (C.slc 1 0 (pieces p).length none)), VV.any, VV.one (V1.c (C.int .i64 (firstTo r (pieces p) f0 i z))), i64 g0, i64 ((i : Int) + 1), VV.any, VV.any, i64 ((z : Int) + 1)] ++ anys 62) [Atom.ro Kd.rule l, Atom.arr Kd.str (pieces p)] := fun z hz h => by
          obtain ⟨q5, q6⟩ := fin z hz h
          exact ⟨io, (i + 1 : Nat), [], [0, 1], hk1, me, into_mk (by kernel_rfl) (by (repeat' first | exact trivial | exact rfl | exact q5 | exact q6 | apply And.intro)) (by (repeat' first | exact trivial | exact rfl | apply And.intro))⟩
        refine ite2_decide (fun hl => ite2_decide (fun h0 => ?_) (fun h0 => out z hz (.inr h0))) (fun hl => out z hz (.inl (by omega)))
        have hl1 : z < (pieces p).length := by omega
        have ez : ((z : Int) + 1 - 0).toNat = z + 1 := by omega
        have hj := jn_small (pieces p) sm (z + 1) hl1
        have hf : f0 = 0 := by
          unfold firstTo at h0
          split at h0
          · rename_i h; exact h.1
          · exact h0
        have hA : ((List.range z).any fun n => sp r (jn (pieces p) (n + 1))) = false := by
          unfold firstTo at h0
          split at h0
          · omega
          · rename_i h
            rw [← Bool.not_eq_true]
            exact fun e => h ⟨hf, e⟩
        have hA1 : ((List.range (z + 1)).any fun n => sp r (jn (pieces p) (n + 1))) = (Hand.matchB r.2 (jn (pieces p) (z + 1))).1 := by
          rw [List.range_succ, List.any_append, hA, ← sp_ok]; simp
        simp only [ez]
        refine ⟨⟨by omega, hk⟩, hk1, trivial, hk1, ⟨Int.le_refl _, by omega⟩, by omega, trivial, ⟨by omega, hl1, sm⟩, into_mk (by kernel_rfl) (by (repeat' first | exact trivial | exact rfl | apply And.intro)) (by (repeat' first | exact trivial | exact rfl | apply And.intro)), fun _ _ => ⟨⟨⟨⟨by omega, hk⟩, hk1, trivial, trivial⟩, ⟨hk1, trivial⟩, trivial⟩, ⟨f3, by omega⟩, into_mk (by kernel_rfl) (by (repeat' first | exact trivial | exact rfl | apply And.intro)) (by (repeat' first | exact trivial | exact rfl | apply And.intro)), fun _ _ => ite2_mk (fun h2 => ?_) (fun h2 => ?_)⟩⟩
        · have q5 : (i : Int) + 1 = firstTo (rd (α := Rl) l i ((0 : Int), ByteArray.empty)) (pieces p) f0 i (z + 1) := by
            rw [hr2]; unfold firstTo; rw [if_pos ⟨hf, by rw [hA1]; exact h2⟩]
          exact ⟨trivial, trivial, trivial, io, by unfold i64ok; omega, (z + 1 : Nat), [], [0, 1], hl1, (show (pieces p).length - (z + 1) < (pieces p).length - z by omega), into_mk (by kernel_rfl) (by (repeat' first | exact trivial | exact rfl | exact q5 | apply And.intro)) (by (repeat' first | exact trivial | exact rfl | apply And.intro))⟩
        · have q5 : firstTo r (pieces p) f0 i z = firstTo (rd (α := Rl) l i ((0 : Int), ByteArray.empty)) (pieces p) f0 i (z + 1) := by
            rw [hr2, h0]; unfold firstTo; rw [if_neg (by rintro ⟨_, e⟩; rw [hA1, h2] at e; cases e), hf]
          exact ⟨trivial, trivial, trivial, by unfold i64ok; omega, (z + 1 : Nat), [], [0, 1], hl1, (show (pieces p).length - (z + 1) < (pieces p).length - z by omega), into_mk (by kernel_rfl) (by (repeat' first | exact trivial | exact rfl | exact q5 | apply And.intro)) (by (repeat' first | exact trivial | exact rfl | apply And.intro))⟩
      · rw [decide_eq_false h1, Bool.false_and] at sk
        unfold whyStep at ht
        rw [sk, sp_ok, if_neg (by rintro ⟨_, e⟩; cases e)] at ht
        refine ⟨⟨by omega, hk⟩, hk1, trivial, hk1, ⟨f3, hp⟩, into_mk (by kernel_rfl) (by (repeat' first | exact trivial | exact rfl | apply And.intro)) (by (repeat' first | exact trivial | exact rfl | apply And.intro)), fun _ _ => ite2_mk (fun h2 => ?_) (fun h2 => ?_)⟩
        · rw [if_pos ⟨h1, h2⟩] at ht
          have q5 : (whyTo l p i).1 = (whyTo l p (i + 1)).1 := by rw [ht]
          have q6 : (i : Int) + 1 = (whyTo l p (i + 1)).2 := by rw [ht]
          exact ⟨io, io, (i + 1 : Nat), [], [0, 1], hk1, me, into_mk (by kernel_rfl) (by (repeat' first | exact trivial | exact rfl | exact q5 | exact q6 | apply And.intro)) (by (repeat' first | exact trivial | exact rfl | apply And.intro))⟩
        · rw [if_neg (by rintro ⟨_, e⟩; rw [h2] at e; cases e)] at ht
          have q5 : (whyTo l p i).1 = (whyTo l p (i + 1)).1 := by rw [ht]
          have q6 : (whyTo l p i).2 = (whyTo l p (i + 1)).2 := by rw [ht]
          exact ⟨io, (i + 1 : Nat), [], [0, 1], hk1, me, into_mk (by kernel_rfl) (by (repeat' first | exact trivial | exact rfl | exact q5 | exact q6 | apply And.intro)) (by (repeat' first | exact trivial | exact rfl | apply And.intro))⟩
    · have q2 : i = l.length := by omega
      subst q2
      exact ends _ _ _ (by rw [hw]) (by rw [hw])
  · have h : whyB l p = (0, 0) := by unfold whyB; rw [if_neg he]
    exact ends _ _ _ (by rw [h]) (by rw [h])
end Go.Proofs.YtoidibkcdkdneaaDoor.T
end
section
namespace Go.Proofs.YtoidibkcdkdneaaDoor.T
open Go.Proofs.YtoidibkcdkdneaaDoor.E Go.Proofs.YtoidibkcdkdneaaDoor.MStr Go.Proofs.YtoidibkcdkdneaaDoor.R
set_option maxRecDepth 100000
set_option linter.unusedVariables false
set_option linter.unusedSimpArgs false
def addC (n k : Int) : Int := if 0 ≤ n then n - k else n
def textC (n : Int) (s : ByteArray) : Int := addC (addC n 1) (s.size : Int)
def textsC (n : Int) (l : List ByteArray) : Int := l.foldl textC n
def okN (n : Int) : Prop := -9223372036854775807 ≤ n ∧ n ≤ 1000000
def ct_many (n : Int) : Ct KK := { need := i64ok n, pre := [], args := [i64 n], Y := Unit, ok := fun _ => True, ret := fun _ => .c (.ptr 0 0 0), post := fun _ => [.cells 57 [.int .i64 n]] }
def ct_cok (n : Int) : Ct KK := { need := True, pre := [.cells 57 [.int .i64 n]], args := [.c (.ptr 0 0 0)], Y := Unit, ok := fun _ => True, ret := fun _ => boolv (decide (0 ≤ n)), post := fun _ => [.cells 57 [.int .i64 n]] }
def ct_add (n k : Int) : Ct KK := { need := okN n ∧ 0 ≤ k ∧ k ≤ 9223372036854775807, pre := [.cells 57 [.int .i64 n]], args := [.c (.ptr 0 0 0), i64 k], Y := Unit, ok := fun _ => True, ret := fun _ => boolv (decide (0 ≤ addC n k)), post := fun _ => [.cells 57 [.int .i64 (addC n k)]] }
def tabC0 : Tab Tryd.prog KK := ⟨mixed, fun f args H => match f, args with
  | _, _ => none, fun f args H ct ks τ h => by cases h⟩
def AddOk : Prop := ∀ n k, CtOk Tryd.prog 29 (ct_add n k)
def OkOk : Prop := ∀ n, CtOk Tryd.prog 10 (ct_cok n)
def ct_ctext (n : Int) (s : ByteArray) : Ct KK := { need := okN n ∧ s.size ≤ 9223372036854775807, pre := [.cells 57 [.int .i64 n]], args := [.c (.ptr 0 0 0), strv s], Y := Unit, ok := fun _ => True, ret := fun _ => .tup [], post := fun _ => [.cells 57 [.int .i64 (textC n s)]] }
def TextOk : Prop := ∀ n s, CtOk Tryd.prog 8 (ct_ctext n s)
def ct_ctexts (n : Int) (l : List ByteArray) : Ct KK := { need := okN n ∧ l.length ≤ 9223372036854775807 ∧ ∀ x ∈ l, x.size ≤ 9223372036854775807, pre := [.cells 57 [.int .i64 n], .ro .str l], args := [.c (.ptr 0 0 0), .c (.slc 1 0 l.length none)], Y := Unit, ok := fun _ => True, ret := fun _ => .tup [], post := fun _ => [.cells 57 [.int .i64 (textsC n l)], .gone] }
def tabC1 (A : AddOk) (O : OkOk) (X : TextOk) : Tab Tryd.prog KK := ⟨mixed, fun f args H => match f, args with
  | 29, [.one (.c (.ptr q 0 0)), .one (.c (.int _ k))] => match at_ H q with
    | .cells 57 [.int _ n] => some (ct_add n k, [], [q])
    | _ => none
  | 10, [.one (.c (.ptr q 0 0))] => match at_ H q with
    | .cells 57 [.int _ n] => some (ct_cok n, [], [q])
    | _ => none
  | 8, [.one (.c (.ptr q 0 0)), .one (.c (.str s))] => match at_ H q with
    | .cells 57 [.int _ n] => some (ct_ctext n s, [], [q])
    | _ => none
  | _, _ => none, fun f args H ct ks τ h => by
    split at h
    · split at h
      · cases h; exact A _ _
      · cases h
    · split at h
      · cases h; exact O _
      · cases h
    · split at h
      · cases h; exact X _ _
      · cases h
    · cases h⟩
def tabC2 (A : AddOk) (O : OkOk) : Tab Tryd.prog KK := ⟨mixed, fun f args H => match f, args with
  | 29, [.one (.c (.ptr q 0 0)), .one (.c (.int _ k))] => match at_ H q with
    | .cells 57 [.int _ n] => some (ct_add n k, [], [q])
    | _ => none
  | _, _ => none, fun f args H ct ks τ h => by
    split at h
    · split at h
      · cases h; exact A _ _
      · cases h
    · cases h⟩
def inv_ctexts (n : Int) (l : List ByteArray) : Inv KK := { X := Nat, fr := fun i => [.c (.ptr 0 0 0), .c (.slc 1 0 l.length none), .any, .any, i64 i] ++ anys 16, H := fun i => [.cells 57 [.int .i64 (textsC n (l.take i))], .ro .str l], ok := fun i => i ≤ l.length, meas := fun i : Nat => l.length - i }
def ann_ctexts (n : Int) (l : List ByteArray) : Ann KK := { loop := fun _ _ _ => some (inv_ctexts n l), cut := fun _ _ _ => none, keep := some 5 }
theorem vc_many (n : Int) : evFn tabC0 ann0 Tryd.f7 (ct_many n) = ( EndsAs 0 (ct_many n) (VV.one (V1.c (C.ptr 0 0 0))) [Atom.cells 57 [C.int .i64 n]]) := by kernel_rfl
theorem vc_cok (n : Int) : evFn tabC0 ann0 Tryd.f10 (ct_cok n) = ( ite2 (decide ((0 : Int) ≤ n)) (EndsAs 1 (ct_cok n) (boolv true) [Atom.cells 57 [C.int .i64 n]]) (EndsAs 1 (ct_cok n) (boolv false) [Atom.cells 57 [C.int .i64 n]])) := by kernel_rfl
theorem vc_add (n k : Int) : evFn tabC0 ann0 Tryd.f29 (ct_add n k) = ( ite2 (decide ((0 : Int) ≤ n)) (i64ok (n - k) ∧ ite2 (decide ((0 : Int) ≤ n - k)) (EndsAs 1 (ct_add n k) (boolv true) [Atom.cells 57 [C.int .i64 (n - k)]]) (EndsAs 1 (ct_add n k) (boolv false) [Atom.cells
 57 [C.int .i64 (n - k)]])) (ite2 (decide ((0 : Int) ≤ n)) (EndsAs 1 (ct_add n k) (boolv true) [Atom.cells 57 [C.int .i64 n]]) (EndsAs 1 (ct_add n k) (boolv false) [Atom.cells 57 [C.int .i64 n]]))) := by kernel_rfl
theorem vc_ctext (A : AddOk) (O : OkOk) (n : Int) (s : ByteArray) : evFn (tabC2 A O) ann0 Tryd.f8 (ct_ctext n s) = ( (okN n ∧ (0 : Int) ≤ (1 : Int) ∧ (1 : Int) ≤ (9223372036854775807 : Int)) ∧ Into (K := KK) 0 [] [0] [VV.one (V1.c (C.ptr 0 0 0)), i64 (1 : Int)] [Atom.cells 57 [C.int .i64 n]] [VV.one (V1.c (C.ptr 0 0
 0)), i64 (1 : Int)] [Atom.cells 57 [C.int .i64 n]] ∧ ∀ (y : Unit), True → (okN (addC n (1 : Int)) ∧ (0 : Int) ≤ (↑s.size : Int) ∧ (↑s.size : Int) ≤ (9223372036854775807 : Int)) ∧ Into (K := KK) 0 [] [0]
 [VV.one (V1.c (C.ptr 0 0 0)), i64 (↑s.size : Int)] [Atom.cells 57 [C.int .i64 (addC n (1 : Int))]] [VV.one (V1.c (C.ptr 0 0 0)), i64 (↑s.size : Int)] [Atom.cells 57 [C.int .i64 (addC n (1 : Int))]] ∧ ∀
 (y : Unit), True → EndsAs 1 (ct_ctext n s) (VV.tup []) [Atom.cells 57 [C.int .i64 (addC (addC n (1 : Int)) (↑s.size : Int))]]) := by kernel_rfl
theorem vc_ctexts (A : AddOk) (O : OkOk) (X : TextOk) (n : Int) (l : List ByteArray) : evFn (tabC1 A O X) (ann_ctexts n l) Tryd.f9 (ct_ctexts n l) = ( Enter 2 (inv_ctexts n l) (fun (x : Nat) => True) ([VV.one (V1.c (C.ptr 0 0 0)), VV.one (V1.c (C.slc 1 0 l.length none)), VV.any, VV.any, i64 (0 : Int)] ++ anys 16) [Atom.cells 57 [C.int .i64 n], Atom.ro
 Kd.str l] ∧ ∀ (z : Nat), z ≤ l.length → ite2 (decide ((↑z : Int) < (↑l.length : Int))) (True ∧ Into (K := KK) 0 [] [0] [VV.one (V1.c (C.ptr 0 0 0))] [Atom.cells 57 [C.int .i64 (textsC n (List.take z l))],
 Atom.ro Kd.str l] [VV.one (V1.c (C.ptr 0 0 0))] [Atom.cells 57 [C.int .i64 (textsC n (List.take z l))]] ∧ ∀ (y : Unit), True → ite2 (decide ((0 : Int) ≤ textsC n (List.take z l))) (((0 : Int) ≤ (↑z : Int)
 ∧ (↑z : Int) < (↑l.length : Int)) ∧ (↑z : Int).toNat < l.length ∧ True ∧ (↑z : Int).toNat < l.length ∧ (okN (textsC n (List.take z l)) ∧ ByteArray.size (rd l (↑z : Int).toNat (ByteArray.mk (#[]))) ≤ 9223372036854775807)
 ∧ Into (K := KK) 0 [] [0] [VV.one (V1.c (C.ptr 0 0 0)), VV.one (V1.c (C.str (rd l (↑z : Int).toNat (ByteArray.mk (#[])))))] [Atom.cells 57 [C.int .i64 (textsC n (List.take z l))], Atom.ro Kd.str l] [VV.one
 (V1.c (C.ptr 0 0 0)), VV.one (V1.c (C.str (rd l (↑z : Int).toNat (ByteArray.mk (#[])))))] [Atom.cells 57 [C.int .i64 (textsC n (List.take z l))]] ∧ ∀ (y : Unit), True → i64ok ((↑z : Int) + (1 : Int)) ∧
 Enter 2 (inv_ctexts n l) (fun (z' : Nat) => l.length - z' < l.length - z) ([VV.one (V1.c (C.ptr 0 0 0)), VV.one (V1.c (C.slc 1 0 l.length none)), VV.any, VV.any, i64 ((↑z : Int) + (1 : Int))] ++ anys 16)
 [Atom.cells 57 [C.int .i64 (textC (textsC n (List.take z l)) (rd l (↑z : Int).toNat (ByteArray.mk (#[]))))], Atom.ro Kd.str l]) (EndsAs 2 (ct_ctexts n l) (VV.tup []) [Atom.cells 57 [C.int .i64 (textsC
 n (List.take z l))], Atom.ro Kd.str l])) (EndsAs 2 (ct_ctexts n l) (VV.tup []) [Atom.cells 57 [C.int .i64 (textsC n (List.take z l))], Atom.ro Kd.str l])) := by kernel_rfl
theorem many_ok (n : Int) : CtOk Tryd.prog 7 (ct_many n) := CtOk_of KK_ok tabC0 ann0 (fn := Tryd.f7) rfl (fun _ _ => rfl) fun hn => by
  rw [vc_many]
  exact ⟨(), [], [0], trivial, by (repeat' first | exact trivial | exact rfl | apply And.intro)⟩
theorem cok_ok (n : Int) : CtOk Tryd.prog 10 (ct_cok n) := CtOk_of KK_ok tabC0 ann0 (fn := Tryd.f10) rfl (fun _ _ => rfl) fun hn => by
  rw [vc_cok]
  refine ite2_decide (fun h => ?_) (fun h => ?_)
  · have q : true = decide (0 ≤ n) := (decide_eq_true h).symm
    exact ⟨(), [], [0], trivial, by (repeat' first | exact trivial | exact rfl | exact q | apply And.intro)⟩
  · have q : false = decide (0 ≤ n) := (decide_eq_false h).symm
    exact ⟨(), [], [0], trivial, by (repeat' first | exact trivial | exact rfl | exact q | apply And.intro)⟩
theorem addC_ok {n k : Int} (h : okN n) (h0 : 0 ≤ k) (hk : k ≤ 9223372036854775807) : okN (addC n k) ∧ addC n k ≤ n := by
  obtain ⟨h1, h2⟩ := h
  unfold addC okN
  split <;> omega
theorem add_ok (n k : Int) : CtOk Tryd.prog 29 (ct_add n k) := CtOk_of KK_ok tabC0 ann0 (fn := Tryd.f29) rfl (fun _ _ => rfl) fun hn => by
  obtain ⟨⟨h1, h2⟩, h3, h4⟩ := hn
  rw [vc_add]
  have ends : ∀ v m, v = decide (0 ≤ addC n k) → m = addC n k → EndsAs 1 (ct_add n k) (boolv v) [Atom.cells 57 [C.int .i64 m]] := fun v m a b => ⟨(), [], [0], trivial, by (repeat' first | exact trivial | exact rfl | exact a | exact b | apply And.intro)⟩
  refine ite2_decide (fun h => ?_) (fun h => ?_)
  · have e : n - k = addC n k := by unfold addC; rw [if_pos h]
    refine ⟨by unfold i64ok; omega, ite2_decide (fun g => ends _ _ ?_ e) (fun g => ends _ _ ?_ e)⟩
    · rw [← e]; exact (decide_eq_true g).symm
    · rw [← e]; exact (decide_eq_false g).symm
  · have e : n = addC n k := by unfold addC; rw [if_neg h]
    refine ite2_decide (fun g => ends _ _ ?_ e) (fun g => ends _ _ ?_ e)
    · rw [← e]; exact (decide_eq_true g).symm
    · rw [← e]; exact (decide_eq_false g).symm
theorem textC_ok {n : Int} {s : ByteArray} (h : okN n) (hs : s.size ≤ 9223372036854775807) : okN (textC n s) ∧ textC n s ≤ n := by
  unfold textC
  obtain ⟨a, b⟩ := addC_ok h (k := 1) (by omega) (by omega)
  obtain ⟨c, d⟩ := addC_ok a (k := s.size) (by omega) (by omega)
  exact ⟨c, by omega⟩
theorem AddOk.is : AddOk := add_ok
theorem OkOk.is : OkOk := cok_ok
theorem ctext_ok (n : Int) (s : ByteArray) : CtOk Tryd.prog 8 (ct_ctext n s) := CtOk_of KK_ok (tabC2 AddOk.is OkOk.is) ann0 (fn := Tryd.f8) rfl (fun _ _ => rfl) fun hn => by
  obtain ⟨h1, h2⟩ := hn
  have h3 := (addC_ok h1 (k := 1) (by omega) (by omega)).1
  rw [vc_ctext]
  exact ⟨⟨h1, by omega, by omega⟩, into_mk (by kernel_rfl) (by (repeat' first | exact trivial | exact rfl | apply And.intro)) (by (repeat' first | exact trivial | exact rfl | apply And.intro)), fun _ _ => ⟨⟨h3, by omega, by omega⟩, into_mk (by kernel_rfl) (by (repeat' first | exact trivial | exact rfl | apply And.intro)) (by (repeat' first | exact trivial | exact rfl | apply And.intro)), fun _ _ => ⟨(), [], [0], trivial, by (repeat' first | exact trivial | exact rfl | apply And.intro)⟩⟩⟩
theorem TextOk.is : TextOk := ctext_ok
theorem texts_take {l : List ByteArray} {i : Nat} (h : i < l.length) (n : Int) : textsC n (l.take (i + 1)) = textC (textsC n (l.take i)) (rd l i (ByteArray.mk #[])) := by
  unfold textsC
  rw [List.take_succ_eq_append_getElem h, List.foldl_append]
  unfold rd
  rw [List.getD_eq_getElem?_getD, List.getElem?_eq_getElem h]
  rfl
theorem texts_neg : ∀ (l : List ByteArray) (n : Int), ¬ 0 ≤ n → textsC n l = n
  | [], n, _ => rfl
  | s :: t, n, h => by
    have e : textC n s = n := by unfold textC addC; rw [if_neg h, if_neg h]
    show textsC (textC n s) t = n
    rw [e]
    exact texts_neg t n h
theorem texts_ok : ∀ (l : List ByteArray) (n : Int), (∀ x ∈ l, x.size ≤ 9223372036854775807) → okN n → okN (textsC n l) ∧ textsC n l ≤ n
  | [], n, _, h => ⟨h, Int.le_refl _⟩
  | s :: t, n, hs, h => by
    obtain ⟨a, b⟩ := textC_ok h (hs s (by simp))
    obtain ⟨c, d⟩ := texts_ok t (textC n s) (fun x hx => hs x (by simp [hx])) a
    exact ⟨c, by show textsC (textC n s) t ≤ n; omega⟩
theorem textC_le {n : Int} {s : ByteArray} (h : 0 ≤ textC n s) : (s.size : Int) + 1 ≤ n := by
  unfold textC addC at h
  split at h <;> (try split at h) <;> omega
/-- What a count says that was enough. -/
theorem texts_le : ∀ (l : List ByteArray) (n : Int), 0 ≤ textsC n l → ∀ x ∈ l, (x.size : Int) + 1 ≤ n
  | [], n, _, x, hx => by cases hx
  | s :: t, n, h, x, hx => by
    have h1 : 0 ≤ textC n s := by
      by_cases e : 0 ≤ textC n s
      · exact e
      · have h2 : 0 ≤ textsC (textC n s) t := h
        rw [texts_neg t _ e] at h2
        exact h2
    have h3 := textC_le h1
    rcases List.mem_cons.1 hx with rfl | hx
    · exact h3
    · have h4 := texts_le t (textC n s) h x hx
      unfold textC addC at h4
      split at h4 <;> (try split at h4) <;> omega
theorem ctexts_ok (n : Int) (l : List ByteArray) : CtOk Tryd.prog 9 (ct_ctexts n l) := CtOk_of KK_ok (tabC1 AddOk.is OkOk.is TextOk.is) (ann_ctexts n l) (fn := Tryd.f9) rfl (fun _ _ => rfl) fun hn => by
  obtain ⟨h1, h2, h3⟩ := hn
  rw [vc_ctexts]
  simp only [Int.toNat_natCast]
  refine ⟨⟨(0 : Nat), [], [0, 1], Nat.zero_le _, trivial, into_mk (by kernel_rfl) (by (repeat' first | exact trivial | exact rfl | apply And.intro)) (by (repeat' first | exact trivial | exact rfl | apply And.intro))⟩, ?_⟩
  intro i hi
  have hi : i ≤ l.length := hi
  refine ite2_decide (fun hl => ?_) (fun hl => ?_)
  · have hl1 : i < l.length := by omega
    have hk := (texts_ok (l.take i) n (fun x hx => h3 x (List.mem_of_mem_take hx)) h1).1
    have hx := h3 _ (rd_inB l i (ByteArray.mk #[]) hl1)
    refine ⟨trivial, into_mk (by kernel_rfl) (by (repeat' first | exact trivial | exact rfl | apply And.intro)) (by (repeat' first | exact trivial | exact rfl | apply And.intro)), fun _ _ => ite2_decide (fun g => ?_) (fun g => ?_)⟩
    · have q1 : textC (textsC n (l.take i)) (rd l i (ByteArray.mk #[])) = textsC n (l.take (i + 1)) := (texts_take hl1 n).symm
      exact ⟨⟨by omega, hl⟩, hl1, trivial, hl1, ⟨hk, hx⟩, into_mk (by kernel_rfl) (by (repeat' first | exact trivial | exact rfl | apply And.intro)) (by (repeat' first | exact trivial | exact rfl | apply And.intro)), fun _ _ => ⟨by unfold i64ok; omega, (i + 1 : Nat), [], [0, 1], hl1, (show l.length - (i + 1) < l.length - i by omega), into_mk (by kernel_rfl) (by (repeat' first | exact trivial | exact rfl | apply And.intro)) (by (repeat' first | exact trivial | exact rfl | exact q1 | apply And.intro))⟩⟩
    · have q1 : textsC n (l.take i) = textsC n l := by
        have e : l = l.take i ++ l.drop i := (List.take_append_drop _ _).symm
        conv => rhs; rw [e]
        unfold textsC
        rw [List.foldl_append]
        exact (texts_neg (l.drop i) _ g).symm
      exact ⟨(), [], [0, 1], trivial, by (repeat' first | exact trivial | exact rfl | exact q1 | apply And.intro)⟩
  · have q1 : textsC n (l.take i) = textsC n l := by rw [List.take_of_length_le (by omega)]
    exact ⟨(), [], [0, 1], trivial, by (repeat' first | exact trivial | exact rfl | exact q1 | apply And.intro)⟩
end Go.Proofs.YtoidibkcdkdneaaDoor.T
end
section
namespace Go.Proofs.YtoidibkcdkdneaaDoor.T
open Go.Proofs.YtoidibkcdkdneaaDoor.E Go.Proofs.YtoidibkcdkdneaaDoor.MStr Go.Proofs.YtoidibkcdkdneaaDoor.R
set_option maxRecDepth 100000
set_option linter.unusedVariables false
set_option linter.unusedSimpArgs false
def tabS (t : Tb) (g : Bool) : Tab Tryd.prog KK := ⟨base t, fun f args H => match f, args with
  | 7, [.one (.c (.int _ n))] => some (ct_many n, [], [])
  | 10, [.one (.c (.ptr q 0 0))] => match at_ H q with
    | .cells 57 [.int _ n] => some (ct_cok n, [], [q])
    | _ => none
  | 8, [.one (.c (.ptr q 0 0)), .one (.c (.str s))] => match at_ H q with
    | .cells 57 [.int _ n] => some (ct_ctext n s, [], [q])
    | _ => none
  | 9, [.one (.c (.ptr q 0 0)), .one (.c (.slc a 0 _ none))] => match at_ H q, at_ H a with
    | .cells 57 [.int _ n], .ro .str l => some (ct_ctexts n l, [], [q, a])
    | _, _ => none
  | 13, [] => some (ct_none, [], [])
  | 11, [.one (.c (.str s))] => some (ct_rparse s, [], [])
  | 21, [.one (.c (.slc a 0 _ none))] => match at_ H a with
    | .arr .rule l => some (ct_rmir l, [], [a])
    | _ => none
  | 18, [.one (.c (.slc a 0 _ none)), .one (.c (.str p))] => match at_ H a with
    | .arr .rule l => some (ct_rskip l p, [], [a])
    | _ => none
  | 16, [.one (.c (.slc a 0 _ none)), .one (.c (.str p))] => match at_ H a with
    | .arr .rule l => some (ct_rwhy l p, [], [a])
    | _ => none
  | 20, [.one (.c (.slc a 0 _ none)), .one (.c (.str p))] => match at_ H a with
    | .arr .rule l => some (ct_rpref l p, [], [a])
    | _ => none
  | _, _ => (tabR t fun _ => g).pick f args H, fun f args H ct ks τ h => by
    split at h
    · cases h; exact many_ok _
    · split at h
      · cases h; exact cok_ok _
      · cases h
    · split at h
      · cases h; exact ctext_ok _ _
      · cases h
    · split at h
      · cases h; exact ctexts_ok _ _
      · cases h
    · cases h; exact none_ok
    · cases h; exact rparse_ok _
    · split at h
      · cases h; exact rmir_ok _
      · cases h
    · split at h
      · cases h; exact rskip_ok _ _
      · cases h
    · split at h
      · cases h; exact rwhy_ok _ _
      · cases h
    · split at h
      · cases h; exact rpref_ok _ _
      · cases h
    · exact (tabR t fun _ => g).ok _ _ _ _ _ _ h⟩
def ct_says (s : ByteArray) (l : List ByteArray) (t : Tb) (φ : Bag KK) : Ct KK := { need := HasT t φ ∧ s.size ≤ 9223372036854775807 ∧ l.length ≤ 9223372036854775807 ∧ ∀ x ∈ l, x.size ≤ 9223372036854775807, pre := [.bag φ, .ro .str l], args := [strv s, .c (.slc 1 0 l.length none)], Y := Bag KK, ok := fun ψ => Ext φ ψ, ret := fun _ => boolv true, post := fun ψ => [.bag ψ, .gone] }
def inv_stay (k hi : Nat) (fr : List VV) (H : VH KK) : Inv KK := { X := Nat, fr := fun z => fr.take k ++ [i64 z] ++ List.replicate (fr.length - (k + 1)) .any, H := fun _ => H, ok := fun z => z ≤ hi, meas := fun z : Nat => hi - z }
def ann_says (n : Nat) : Ann KK := { loop := fun id fr H => match id with | 16 => some (inv_stay 13 3 fr H) | 19 => some (inv_stay 14 n fr H) | _ => none, cut := fun _ _ _ => none, keep := some 15 }
theorem vc_saysB (s : ByteArray) (l : List ByteArray) (t : Tb) (φ : Bag KK) : evFn (tabS t false) (ann_says l.length) Tryd.f3 (ct_says s l t φ) = ( i64ok (16384 : Int) ∧ Into (K := KK) 0 [] [] [i64 (16384 : Int)] [Atom.bag φ, Atom.ro Kd.str l] [i64 (16384 : Int)] [] ∧ ∀ (y : Unit), True → (okN (16384 : Int) ∧ s.size ≤ 9223372036854775807) ∧ Into
 (K := KK) 0 [] [2] [VV.one (V1.c (C.ptr 2 0 0)), VV.one (V1.c (C.str s))] [Atom.bag φ, Atom.ro Kd.str l, Atom.cells 57 [C.int .i64 (16384 : Int)]] [VV.one (V1.c (C.ptr 0 0 0)), VV.one (V1.c (C.str s))]
 [Atom.cells 57 [C.int .i64 (16384 : Int)]] ∧ ∀ (y : Unit), True → (okN (textC (16384 : Int) s) ∧ l.length ≤ 9223372036854775807 ∧ ∀ (x : ByteArray), List.Mem x l → x.size ≤ 9223372036854775807) ∧ Into
 (K := KK) 0 [] [2, 1] [VV.one (V1.c (C.ptr 2 0 0)), VV.one (V1.c (C.slc 1 0 l.length none))] [Atom.bag φ, Atom.ro Kd.str l, Atom.cells 57 [C.int .i64 (textC (16384 : Int) s)]] [VV.one (V1.c (C.ptr 0 0
 0)), VV.one (V1.c (C.slc 1 0 l.length none))] [Atom.cells 57 [C.int .i64 (textC (16384 : Int) s)], Atom.ro Kd.str l] ∧ ∀ (y : Unit), True → True ∧ Into (K := KK) 0 [] [2] [VV.one (V1.c (C.ptr 2 0 0))]
 [Atom.bag φ, Atom.ro Kd.str l, Atom.cells 57 [C.int .i64 (textsC (textC (16384 : Int) s) l)]] [VV.one (V1.c (C.ptr 0 0 0))] [Atom.cells 57 [C.int .i64 (textsC (textC (16384 : Int) s) l)]] ∧ ∀ (y : Unit),
 True → ite2 (decide ((0 : Int) ≤ textsC (textC (16384 : Int) s) l)) (ite2 (decide ((40 : Int) < (↑l.length : Int))) (EndsAs 2 (ct_says s l t φ) (boolv true) [Atom.bag φ, Atom.ro Kd.str l, Atom.cells 57
 [C.int .i64 (textsC (textC (16384 : Int) s) l)]]) (s.size ≤ 1000000 ∧ Into (K := KK) 0 [] [] [VV.one (V1.c (C.str s))] [Atom.bag φ, Atom.ro Kd.str l, Atom.cells 57 [C.int .i64 (textsC (textC (16384 : Int)
 s) l)]] [VV.one (V1.c (C.str s))] [] ∧ ∀ (y : Unit), True → (s.size ≤ 1000000 ∧ HasT t φ ∧ isGood (parseB s) = false) ∧ Into (K := KK) 0 [] [0] [VV.one (V1.c (C.str s))] [Atom.bag φ, Atom.ro Kd.str l,
 Atom.cells 57 [C.int .i64 (textsC (textC (16384 : Int) s) l)], Atom.arr Kd.rule (goodOf (parseB s))] [VV.one (V1.c (C.str s))] [Atom.bag φ] ∧ ∀ (y : Bag KK × List Ln), Ext φ y.fst ∧ (false = true → GoodL
 y.fst y.snd ∧ LL y.snd = goodOf (parseB s)) → ite2 (decide ((badOf (parseB s)).snd = (badOf (parseB s)).snd)) (ite2 (decide ((badOf (parseB s)).snd = (0 : Int))) (EndsAs 2 (ct_says s l t φ) (boolv false)
 [Atom.bag y.fst, Atom.ro Kd.str l, Atom.cells 57 [C.int .i64 (textsC (textC (16384 : Int) s) l)], Atom.arr Kd.rule (goodOf (parseB s))]) (True ∧ Into (K := KK) 0 [] [] [] [Atom.bag y.fst, Atom.ro Kd.str
 l, Atom.cells 57 [C.int .i64 (textsC (textC (16384 : Int) s) l)], Atom.arr Kd.rule (goodOf (parseB s))] [] [] ∧ ∀ (y_1 : Unit), True → 0 ≤ 1000 ∧ Into (K := KK) 0 [Kd.line] [0, 4, 2 + 1 + 1 + 1] [VV.one
 (V1.c (C.ptr 4 0 0))] [Atom.bag y.fst, Atom.ro Kd.str l, Atom.cells 57 [C.int .i64 (textsC (textC (16384 : Int) s) l)], Atom.arr Kd.rule (goodOf (parseB s)), Atom.cells 67 [C.nils]] [VV.one (V1.c (C.ptr
 1 0 0))] [Atom.bag y.fst, Atom.cells 67 [C.slc 2 0 0 none], Atom.arr Kd.line []] ∧ ∀ (y_2 : Bag KK × List Ln), Ext y.fst y_2.fst ∧ GoodL y_2.fst y_2.snd ∧ LL y_2.snd = mirB (LL []) → Enter 2 (inv_stay
 13 3 ([VV.one (V1.c (C.str s)), VV.one (V1.c (C.slc 1 0 l.length none)), VV.any, VV.any, boolv false, VV.one (V1.c (C.ptr 2 0 0)), VV.one (V1.c (C.slc 3 0 (goodOf (parseB s)).length none)), i64 (badOf
 (parseB s)).fst, i64 (badOf (parseB s)).snd, VV.one (V1.c (C.ptr 4 0 0)), i64 (badOf (parseB s)).fst, i64 (badOf (parseB s)).snd, VV.one (V1.c (C.ptr 6 0 0)), i64 (0 : Int), VV.any, VV.any, VV.any, VV.any,
 VV.any, VV.any, VV.any, VV.any, VV.one (V1.c (C.ptr 2 0 0)), VV.one (V1.c (C.ptr 2 0 0)), VV.one (V1.c (C.str s)), VV.tup [], VV.one (V1.c (C.ptr 2 0 0)), VV.one (V1.c (C.slc 1 0 l.length none)), VV.tup
 [], VV.one (V1.c (C.ptr 2 0 0)), VV.one (V1.c (C.bool (decide ((0 : Int) ≤ textsC (textC (16384 : Int) s) l)))), boolv false, boolv false, VV.one (V1.c (C.slc 1 0 l.length none)), i64 (↑l.length : Int),
 boolv false, boolv false, VV.tup [V1.c (C.slc 3 0 (goodOf (parseB s)).length none), V1.c (C.int .i64 (badOf (parseB s)).fst), V1.c (C.int .i64 (badOf (parseB s)).snd)], VV.one (V1.c (C.str s)), VV.tup
 [V1.c (C.slc 3 0 (goodOf (parseB s)).length none), V1.c (C.int .i64 (badOf (parseB s)).fst), V1.c (C.int .i64 (badOf (parseB s)).snd)], VV.one (V1.c (C.slc 3 0 (goodOf (parseB s)).length none)), i64 (badOf
 (parseB s)).fst, i64 (badOf (parseB s)).snd, VV.tup [V1.c C.nilp, V1.c (C.int .i64 (badOf (parseB s)).fst), V1.c (C.int .i64 (badOf (parseB s)).snd)], VV.one (V1.c (C.str s)), VV.tup [V1.c C.nilp, V1.c
 (C.int .i64 (badOf (parseB s)).fst), V1.c (C.int .i64 (badOf (parseB s)).snd)], VV.one (V1.c C.nilp), i64 (badOf (parseB s)).fst, i64 (badOf (parseB s)).snd, i64 (badOf (parseB s)).snd, i64 (badOf (parseB
 s)).snd, boolv false, boolv false, VV.one (V1.c C.nilp), boolv false, i64 (badOf (parseB s)).snd, boolv false, boolv false, boolv false, VV.one (V1.c C.nilp), boolv true, VV.one (V1.c (C.ptr 4 0 0)), VV.one
 (V1.c (C.ptr 4 0 0)), VV.one (V1.c (C.ptr 6 0 0)), VV.one (V1.c (C.ptr 6 0 0)), boolv false] ++ anys 85) [Atom.bag y_2.fst, Atom.ro Kd.str l, Atom.cells 57 [C.int .i64 (textsC (textC (16384 : Int) s) l)],
 Atom.arr Kd.rule (goodOf (parseB s)), Atom.cells 67 [C.slc 5 0 0 none], Atom.arr Kd.line [], Atom.cells 67 [C.slc 7 0 y_2.snd.length none], Atom.arr Kd.line y_2.snd]) (fun (x : Nat) => True) ([VV.one (V1.c
 (C.str s)), VV.one (V1.c (C.slc 1 0 l.length none)), VV.any, VV.any, boolv false, VV.one (V1.c (C.ptr 2 0 0)), VV.one (V1.c (C.slc 3 0 (goodOf (parseB s)).length none)), i64 (badOf (parseB s)).fst, i64
 (badOf (parseB s)).snd, VV.one (V1.c (C.ptr 4 0 0)), i64 (badOf (parseB s)).fst, i64 (badOf (parseB s)).snd, VV.one (V1.c (C.ptr 6 0 0)), i64 (0 : Int)] ++ anys 137) [Atom.bag y_2.fst, Atom.ro Kd.str l,
 Atom.cells 57 [C.int .i64 (textsC (textC (16384 : Int) s) l)], Atom.arr Kd.rule (goodOf (parseB s)), Atom.cells 67 [C.slc 5 0 0 none], Atom.arr Kd.line [], Atom.cells 67 [C.slc 7 0 y_2.snd.length none],
 Atom.arr Kd.line y_2.snd] ∧ ∀ (z : Nat), z ≤ 3 → ite2 (decide ((↑z : Int) < (3 : Int))) (Enter 2 (inv_stay 14 l.length ([VV.one (V1.c (C.str s)), VV.one (V1.c (C.slc 1 0 l.length none)), VV.any, VV.any,
 boolv false, VV.one (V1.c (C.ptr 2 0 0)), VV.one (V1.c (C.slc 3 0 (goodOf (parseB s)).length none)), i64 (badOf (parseB s)).fst, i64 (badOf (parseB s)).snd, VV.one (V1.c (C.ptr 4 0 0)), i64 (badOf (parseB
 s)).fst, i64 (badOf (parseB s)).snd, VV.one (V1.c (C.ptr 6 0 0)), i64 (↑z : Int), i64 (0 : Int), VV.any, VV.any, VV.any, VV.any, VV.any, VV.any, VV.any, VV.any, VV.any, VV.any, VV.any, VV.any, VV.any,
 VV.any, VV.any, VV.any, VV.any, VV.any, VV.any, VV.any, VV.any, VV.any, VV.any, VV.any, VV.any, VV.any, VV.any, VV.any, VV.any, VV.any, VV.any, VV.any, VV.any, VV.any, VV.any, VV.any, VV.any, VV.any, VV.any,
 VV.any, VV.any, VV.any, VV.any, VV.any, VV.any, VV.any, VV.any, VV.any, VV.any, VV.any, VV.any, i64 (↑z : Int), boolv true] ++ anys 83) [Atom.bag y_2.fst, Atom.ro Kd.str l, Atom.cells 57 [C.int .i64 (textsC
 (textC (16384 : Int) s) l)], Atom.arr Kd.rule (goodOf (parseB s)), Atom.cells 67 [C.slc 5 0 0 none], Atom.arr Kd.line [], Atom.cells 67 [C.slc 7 0 y_2.snd.length none], Atom.arr Kd.line y_2.snd]) (fun
 (x : Nat) => True) ([VV.one (V1.c (C.str s)), VV.one (V1.c (C.slc 1 0 l.length none)), VV.any, VV.any, boolv false, VV.one (V1.c (C.ptr 2 0 0)), VV.one (V1.c (C.slc 3 0 (goodOf (parseB s)).length none)),
 i64 (badOf (parseB s)).fst, i64 (badOf (parseB s)).snd, VV.one (V1.c (C.ptr 4 0 0)), i64 (badOf (parseB s)).fst, i64 (badOf (parseB s)).snd, VV.one (V1.c (C.ptr 6 0 0)), i64 (↑z : Int), i64 (0 : Int)]
 ++ anys 136) [Atom.bag y_2.fst, Atom.ro Kd.str l, Atom.cells 57 [C.int .i64 (textsC (textC (16384 : Int) s) l)], Atom.arr Kd.rule (goodOf (parseB s)), Atom.cells 67 [C.slc 5 0 0 none], Atom.arr Kd.line
 [], Atom.cells 67 [C.slc 7 0 y_2.snd.length none], Atom.arr Kd.line y_2.snd] ∧ ∀ (z_1 : Nat), z_1 ≤ l.length → ite2 (decide ((↑z_1 : Int) < (↑l.length : Int))) (((0 : Int) ≤ (↑z_1 : Int) ∧ (↑z_1 : Int)
 < (↑l.length : Int)) ∧ (↑z_1 : Int).toNat < l.length ∧ True ∧ (↑z_1 : Int).toNat < l.length ∧ (GoodL y_2.fst [] ∧ ByteArray.size (rd l (↑z_1 : Int).toNat (ByteArray.mk (#[]))) ≤ 1000000000 ∧ 0 ≤ 1000)
 ∧ Into (K := KK) 0 [] [0, 4, 5] [VV.one (V1.c (C.ptr 4 0 0)), VV.one (V1.c (C.str (rd l (↑z_1 : Int).toNat (ByteArray.mk (#[])))))] [Atom.bag y_2.fst, Atom.ro Kd.str l, Atom.cells 57 [C.int .i64 (textsC
 (textC (16384 : Int) s) l)], Atom.arr Kd.rule (goodOf (parseB s)), Atom.cells 67 [C.slc 5 0 0 none], Atom.arr Kd.line [], Atom.cells 67 [C.slc 7 0 y_2.snd.length none], Atom.arr Kd.line y_2.snd] [VV.one
 (V1.c (C.ptr 1 0 0)), VV.one (V1.c (C.str (rd l (↑z_1 : Int).toNat (ByteArray.mk (#[])))))] [Atom.bag y_2.fst, Atom.cells 67 [C.slc 2 0 0 none], Atom.arr Kd.line []] ∧ ∀ (y : Unit), True → (GoodL y_2.fst
 y_2.snd ∧ ByteArray.size (rd l (↑z_1 : Int).toNat (ByteArray.mk (#[]))) ≤ 1000000000 ∧ y_2.snd.length ≤ 1000) ∧ Into (K := KK) 0 [] [0, 6, 7] [VV.one (V1.c (C.ptr 6 0 0)), VV.one (V1.c (C.str (rd l (↑z_1
 : Int).toNat (ByteArray.mk (#[])))))] [Atom.bag y_2.fst, Atom.ro Kd.str l, Atom.cells 57 [C.int .i64 (textsC (textC (16384 : Int) s) l)], Atom.arr Kd.rule (goodOf (parseB s)), Atom.cells 67 [C.slc 5 0
 0 none], Atom.arr Kd.line [], Atom.cells 67 [C.slc 7 0 y_2.snd.length none], Atom.arr Kd.line y_2.snd] [VV.one (V1.c (C.ptr 1 0 0)), VV.one (V1.c (C.str (rd l (↑z_1 : Int).toNat (ByteArray.mk (#[])))))]
 [Atom.bag y_2.fst, Atom.cells 67 [C.slc 2 0 y_2.snd.length none], Atom.arr Kd.line y_2.snd] ∧ ∀ (y : Unit), True → (Fine (goodOf (parseB s)) ∧ ByteArray.size (rd l (↑z_1 : Int).toNat (ByteArray.mk (#[])))
 ≤ 999999) ∧ Into (K := KK) 0 [] [3] [VV.one (V1.c (C.slc 3 0 (goodOf (parseB s)).length none)), VV.one (V1.c (C.str (rd l (↑z_1 : Int).toNat (ByteArray.mk (#[])))))] [Atom.bag y_2.fst, Atom.ro Kd.str l,
 Atom.cells 57 [C.int .i64 (textsC (textC (16384 : Int) s) l)], Atom.arr Kd.rule (goodOf (parseB s)), Atom.cells 67 [C.slc 5 0 0 none], Atom.arr Kd.line [], Atom.cells 67 [C.slc 7 0 y_2.snd.length none],
 Atom.arr Kd.line y_2.snd] [VV.one (V1.c (C.slc 0 0 (goodOf (parseB s)).length none)), VV.one (V1.c (C.str (rd l (↑z_1 : Int).toNat (ByteArray.mk (#[])))))] [Atom.ro Kd.rule (goodOf (parseB s))] ∧ ∀ (y
 : Unit), True → ite2 (decide ((whyB (LL []) (rd l (↑z_1 : Int).toNat (ByteArray.mk (#[])))).fst = (whyB (goodOf (parseB s)) (rd l (↑z_1 : Int).toNat (ByteArray.mk (#[])))).fst)) (ite2 (decide ((whyB (LL
 []) (rd l (↑z_1 : Int).toNat (ByteArray.mk (#[])))).snd = (whyB (goodOf (parseB s)) (rd l (↑z_1 : Int).toNat (ByteArray.mk (#[])))).snd)) (ite2 (decide ((whyB (LL y_2.snd) (rd l (↑z_1 : Int).toNat (ByteArray.mk
 (#[])))).fst = (whyB (goodOf (parseB s)) (rd l (↑z_1 : Int).toNat (ByteArray.mk (#[])))).fst)) (ite2 (decide ((whyB (LL y_2.snd) (rd l (↑z_1 : Int).toNat (ByteArray.mk (#[])))).snd = (whyB (goodOf (parseB
 s)) (rd l (↑z_1 : Int).toNat (ByteArray.mk (#[])))).snd)) ((GoodL y_2.fst [] ∧ ByteArray.size (rd l (↑z_1 : Int).toNat (ByteArray.mk (#[]))) ≤ 1000000000 ∧ 0 ≤ 1000) ∧ Into (K := KK) 0 [] [0, 4, 5] [VV.one
 (V1.c (C.ptr 4 0 0)), VV.one (V1.c (C.str (rd l (↑z_1 : Int).toNat (ByteArray.mk (#[])))))] [Atom.bag y_2.fst, Atom.ro Kd.str l, Atom.cells 57 [C.int .i64 (textsC (textC (16384 : Int) s) l)], Atom.arr
 Kd.rule (goodOf (parseB s)), Atom.cells 67 [C.slc 5 0 0 none], Atom.arr Kd.line [], Atom.cells 67 [C.slc 7 0 y_2.snd.length none], Atom.arr Kd.line y_2.snd] [VV.one (V1.c (C.ptr 1 0 0)), VV.one (V1.c (C.str
 (rd l (↑z_1 : Int).toNat (ByteArray.mk (#[])))))] [Atom.bag y_2.fst, Atom.cells 67 [C.slc 2 0 0 none], Atom.arr Kd.line []] ∧ ∀ (y : Unit), True → (Fine (goodOf (parseB s)) ∧ ByteArray.size (rd l (↑z_1
 : Int).toNat (ByteArray.mk (#[]))) ≤ (999999 : Nat)) ∧ Into (K := KK) 0 [] [3] [VV.one (V1.c (C.slc (3 : Nat) (0 : Nat) (goodOf (parseB s)).length none)), VV.one (V1.c (C.str (rd l (↑z_1 : Int).toNat (ByteArray.mk
 (#[])))))] [Atom.bag y_2.fst, Atom.ro Kd.str l, Atom.cells 57 [C.int .i64 (textsC (textC (16384 : Int) s) l)], Atom.arr Kd.rule (goodOf (parseB s)), Atom.cells 67 [C.slc (5 : Nat) (0 : Nat) (0 : Nat) none],
 Atom.arr Kd.line [], Atom.cells 67 [C.slc (7 : Nat) (0 : Nat) y_2.snd.length none], Atom.arr Kd.line y_2.snd] [VV.one (V1.c (C.slc (0 : Nat) (0 : Nat) (goodOf (parseB s)).length none)), VV.one (V1.c (C.str
 (rd l (↑z_1 : Int).toNat (ByteArray.mk (#[])))))] [Atom.ro Kd.rule (goodOf (parseB s))] ∧ ∀ (y : Unit), True → ite2 (decide (skipB (LL []) (rd l (↑z_1 : Int).toNat (ByteArray.mk (#[]))) = skipB (goodOf
 (parseB s)) (rd l (↑z_1 : Int).toNat (ByteArray.mk (#[]))))) ((GoodL y_2.fst [] ∧ ByteArray.size (rd l (↑z_1 : Int).toNat (ByteArray.mk (#[]))) ≤ (1000000000 : Nat) ∧ (0 : Nat) ≤ (1000 : Nat)) ∧ Into (0
 : Nat) [] [(0 : Nat), (4 : Nat), (5 : Nat)] [VV.one (V1.c (C.ptr (4 : Nat) (0 : Nat) (0 : Nat))), VV.one (V1.c (C.str (rd l (↑z_1 : Int).toNat (ByteArray.mk (#[])))))] [Atom.bag y_2.fst, Atom.ro Kd.str
 l, Atom.cells 57 [C.int .i64 (textsC (textC (16384 : Int) s) l)], Atom.arr Kd.rule (goodOf (parseB s)), Atom.cells 67 [C.slc (5 : Nat) (0 : Nat) (0 : Nat) none], Atom.arr Kd.line [], Atom.cells 67 [C.slc
 (7 : Nat) (0 : Nat) y_2.snd.length none], Atom.arr Kd.line y_2.snd] [VV.one (V1.c (C.ptr (1 : Nat) (0 : Nat) (0 : Nat))), VV.one (V1.c (C.str (rd l (↑z_1 : Int).toNat (ByteArray.mk (#[])))))] [Atom.bag
 y_2.fst, Atom.cells 67 [C.slc (2 : Nat) (0 : Nat) (0 : Nat) none], Atom.arr Kd.line []] ∧ ∀ (y : Unit), True → (Fine (goodOf (parseB s)) ∧ ByteArray.size (rd l (↑z_1 : Int).toNat (ByteArray.mk (#[])))
 ≤ (999999 : Nat)) ∧ Into (0 : Nat) [] [(3 : Nat)] [VV.one (V1.c (C.slc (3 : Nat) (0 : Nat) (goodOf (parseB s)).length none)), VV.one (V1.c (C.str (rd l (↑z_1 : Int).toNat (ByteArray.mk (#[])))))] [Atom.bag
 y_2.fst, Atom.ro Kd.str l, Atom.cells 57 [C.int .i64 (textsC (textC (16384 : Int) s) l)], Atom.arr Kd.rule (goodOf (parseB s)), Atom.cells 67 [C.slc (5 : Nat) (0 : Nat) (0 : Nat) none], Atom.arr Kd.line
 [], Atom.cells 67 [C.slc (7 : Nat) (0 : Nat) y_2.snd.length none], Atom.arr Kd.line y_2.snd] [VV.one (V1.c (C.slc (0 : Nat) (0 : Nat) (goodOf (parseB s)).length none)), VV.one (V1.c (C.str (rd l (↑z_1
 : Int).toNat (ByteArray.mk (#[])))))] [Atom.ro Kd.rule (goodOf (parseB s))] ∧ ∀ (y : Unit), True → ite2 (decide (preferB (LL []) (rd l (↑z_1 : Int).toNat (ByteArray.mk (#[]))) = preferB (goodOf (parseB
 s)) (rd l (↑z_1 : Int).toNat (ByteArray.mk (#[]))))) ((GoodL y_2.fst y_2.snd ∧ ByteArray.size (rd l (↑z_1 : Int).toNat (ByteArray.mk (#[]))) ≤ (1000000000 : Nat) ∧ y_2.snd.length ≤ (1000 : Nat)) ∧ Into
 (0 : Nat) [] [(0 : Nat), (6 : Nat), (7 : Nat)] [VV.one (V1.c (C.ptr (6 : Nat) (0 : Nat) (0 : Nat))), VV.one (V1.c (C.str (rd l (↑z_1 : Int).toNat (ByteArray.mk (#[])))))] [Atom.bag y_2.fst, Atom.ro Kd.str
 l, Atom.cells 57 [C.int .i64 (textsC (textC (16384 : Int) s) l)], Atom.arr Kd.rule (goodOf (parseB s)), Atom.cells 67 [C.slc (5 : Nat) (0 : Nat) (0 : Nat) none], Atom.arr Kd.line [], Atom.cells 67 [C.slc
 (7 : Nat) (0 : Nat) y_2.snd.length none], Atom.arr Kd.line y_2.snd] [VV.one (V1.c (C.ptr (1 : Nat) (0 : Nat) (0 : Nat))), VV.one (V1.c (C.str (rd l (↑z_1 : Int).toNat (ByteArray.mk (#[])))))] [Atom.bag
 y_2.fst, Atom.cells 67 [C.slc (2 : Nat) (0 : Nat) y_2.snd.length none], Atom.arr Kd.line y_2.snd] ∧ ∀ (y : Unit), True → (Fine (goodOf (parseB s)) ∧ ByteArray.size (rd l (↑z_1 : Int).toNat (ByteArray.mk
 (#[]))) ≤ (999999 : Nat)) ∧ Into (0 : Nat) [] [(3 : Nat)] [VV.one (V1.c (C.slc (3 : Nat) (0 : Nat) (goodOf (parseB s)).length none)), VV.one (V1.c (C.str (rd l (↑z_1 : Int).toNat (ByteArray.mk (#[])))))]
 [Atom.bag y_2.fst, Atom.ro Kd.str l, Atom.cells 57 [C.int .i64 (textsC (textC (16384 : Int) s) l)], Atom.arr Kd.rule (goodOf (parseB s)), Atom.cells 67 [C.slc (5 : Nat) (0 : Nat) (0 : Nat) none], Atom.arr
 Kd.line [], Atom.cells 67 [C.slc (7 : Nat) (0 : Nat) y_2.snd.length none], Atom.arr Kd.line y_2.snd] [VV.one (V1.c (C.slc (0 : Nat) (0 : Nat) (goodOf (parseB s)).length none)), VV.one (V1.c (C.str (rd
 l (↑z_1 : Int).toNat (ByteArray.mk (#[])))))] [Atom.ro Kd.rule (goodOf (parseB s))] ∧ ∀ (y : Unit), True → ite2 (decide (skipB (LL y_2.snd) (rd l (↑z_1 : Int).toNat (ByteArray.mk (#[]))) = skipB (goodOf
 (parseB s)) (rd l (↑z_1 : Int).toNat (ByteArray.mk (#[]))))) ((GoodL y_2.fst y_2.snd ∧ ByteArray.size (rd l (↑z_1 : Int).toNat (ByteArray.mk (#[]))) ≤ (1000000000 : Nat) ∧ y_2.snd.length ≤ (1000 : Nat))
 ∧ Into (0 : Nat) [] [(0 : Nat), (6 : Nat), (7 : Nat)] [VV.one (V1.c (C.ptr (6 : Nat) (0 : Nat) (0 : Nat))), VV.one (V1.c (C.str (rd l (↑z_1 : Int).toNat (ByteArray.mk (#[])))))] [Atom.bag y_2.fst, Atom.ro
 Kd.str l, Atom.cells 57 [C.int .i64 (textsC (textC (16384 : Int) s) l)], Atom.arr Kd.rule (goodOf (parseB s)), Atom.cells 67 [C.slc (5 : Nat) (0 : Nat) (0 : Nat) none], Atom.arr Kd.line [], Atom.cells
 67 [C.slc (7 : Nat) (0 : Nat) y_2.snd.length none], Atom.arr Kd.line y_2.snd] [VV.one (V1.c (C.ptr (1 : Nat) (0 : Nat) (0 : Nat))), VV.one (V1.c (C.str (rd l (↑z_1 : Int).toNat (ByteArray.mk (#[])))))]
 [Atom.bag y_2.fst, Atom.cells 67 [C.slc (2 : Nat) (0 : Nat) y_2.snd.length none], Atom.arr Kd.line y_2.snd] ∧ ∀ (y : Unit), True → (goodOf (parseB s)).length ≤ (1000 : Nat) ∧ Into (0 : Nat) [] [(3 : Nat)]
 [VV.one (V1.c (C.slc (3 : Nat) (0 : Nat) (goodOf (parseB s)).length none))] [Atom.bag y_2.fst, Atom.ro Kd.str l, Atom.cells 57 [C.int .i64 (textsC (textC (16384 : Int) s) l)], Atom.arr Kd.rule (goodOf
 (parseB s)), Atom.cells 67 [C.slc (5 : Nat) (0 : Nat) (0 : Nat) none], Atom.arr Kd.line [], Atom.cells 67 [C.slc (7 : Nat) (0 : Nat) y_2.snd.length none], Atom.arr Kd.line y_2.snd] [VV.one (V1.c (C.slc
 (0 : Nat) (0 : Nat) (goodOf (parseB s)).length none))] [Atom.ro Kd.rule (goodOf (parseB s))] ∧ ∀ (y : Unit), True → (Fine (mirB (goodOf (parseB s))) ∧ ByteArray.size (rd l (↑z_1 : Int).toNat (ByteArray.mk
 (#[]))) ≤ (999999 : Nat)) ∧ Into (0 : Nat) [] [(8 : Nat)] [VV.one (V1.c (C.slc (8 : Nat) (0 : Nat) (mirB (goodOf (parseB s))).length none)), VV.one (V1.c (C.str (rd l (↑z_1 : Int).toNat (ByteArray.mk (#[])))))]
 [Atom.bag y_2.fst, Atom.ro Kd.str l, Atom.cells 57 [C.int .i64 (textsC (textC (16384 : Int) s) l)], Atom.arr Kd.rule (goodOf (parseB s)), Atom.cells 67 [C.slc (5 : Nat) (0 : Nat) (0 : Nat) none], Atom.arr
 Kd.line [], Atom.cells 67 [C.slc (7 : Nat) (0 : Nat) y_2.snd.length none], Atom.arr Kd.line y_2.snd, Atom.arr Kd.rule (mirB (goodOf (parseB s)))] [VV.one (V1.c (C.slc (0 : Nat) (0 : Nat) (mirB (goodOf
 (parseB s))).length none)), VV.one (V1.c (C.str (rd l (↑z_1 : Int).toNat (ByteArray.mk (#[])))))] [Atom.ro Kd.rule (mirB (goodOf (parseB s)))] ∧ ∀ (y : Unit), True → ite2 (decide (preferB (LL y_2.snd)
 (rd l (↑z_1 : Int).toNat (ByteArray.mk (#[]))) = preferB (mirB (goodOf (parseB s))) (rd l (↑z_1 : Int).toNat (ByteArray.mk (#[]))))) (i64ok ((↑z_1 : Int) + (1 : Int)) ∧ Enter ((1 : Nat) + (1 : Nat)) (inv_stay
 (14 : Nat) l.length ([VV.one (V1.c (C.str s)), VV.one (V1.c (C.slc (1 : Nat) (0 : Nat) l.length none)), VV.any, VV.any, VV.one (V1.c (C.bool false)), VV.one (V1.c (C.ptr (2 : Nat) (0 : Nat) (0 : Nat))),
 VV.one (V1.c (C.slc (3 : Nat) (0 : Nat) (goodOf (parseB s)).length none)), VV.one (V1.c (C.int .i64 (badOf (parseB s)).fst)), VV.one (V1.c (C.int .i64 (badOf (parseB s)).snd)), VV.one (V1.c (C.ptr (4 :
 Nat) (0 : Nat) (0 : Nat))), VV.one (V1.c (C.int .i64 (badOf (parseB s)).fst)), VV.one (V1.c (C.int .i64 (badOf (parseB s)).snd)), VV.one (V1.c (C.ptr (6 : Nat) (0 : Nat) (0 : Nat))), VV.one (V1.c (C.int
 .i64 (↑z : Int))), VV.one (V1.c (C.int .i64 (0 : Int))), VV.any, VV.any, VV.any, VV.any, VV.any, VV.any, VV.any, VV.any, VV.any, VV.any, VV.any, VV.any, VV.any, VV.any, VV.any, VV.any, VV.any, VV.any,
 VV.any, VV.any, VV.any, VV.any, VV.any, VV.any, VV.any, VV.any, VV.any, VV.any, VV.any, VV.any, VV.any, VV.any, VV.any, VV.any, VV.any, VV.any, VV.any, VV.any, VV.any, VV.any, VV.any, VV.any, VV.any, VV.any,
 VV.any, VV.any, VV.any, VV.any, VV.any, VV.any, VV.any, VV.one (V1.c (C.int .i64 (↑z : Int))), VV.one (V1.c (C.bool true))] ++ anys 83) [Atom.bag y_2.fst, Atom.ro Kd.str l, Atom.cells 57 [C.int .i64 (textsC
 (textC (16384 : Int) s) l)], Atom.arr Kd.rule (goodOf (parseB s)), Atom.cells 67 [C.slc (5 : Nat) (0 : Nat) (0 : Nat) none], Atom.arr Kd.line [], Atom.cells 67 [C.slc (7 : Nat) (0 : Nat) y_2.snd.length
 none], Atom.arr Kd.line y_2.snd]) (fun (z' : Nat) => l.length - z' < l.length - z_1) ([VV.one (V1.c (C.str s)), VV.one (V1.c (C.slc (1 : Nat) (0 : Nat) l.length none)), VV.any, VV.any, VV.one (V1.c (C.bool
 false)), VV.one (V1.c (C.ptr (2 : Nat) (0 : Nat) (0 : Nat))), VV.one (V1.c (C.slc (3 : Nat) (0 : Nat) (goodOf (parseB s)).length none)), VV.one (V1.c (C.int .i64 (badOf (parseB s)).fst)), VV.one (V1.c
 (C.int .i64 (badOf (parseB s)).snd)), VV.one (V1.c (C.ptr (4 : Nat) (0 : Nat) (0 : Nat))), VV.one (V1.c (C.int .i64 (badOf (parseB s)).fst)), VV.one (V1.c (C.int .i64 (badOf (parseB s)).snd)), VV.one (V1.c
 (C.ptr (6 : Nat) (0 : Nat) (0 : Nat))), VV.one (V1.c (C.int .i64 (↑z : Int))), VV.one (V1.c (C.int .i64 ((↑z_1 : Int) + (1 : Int))))] ++ anys 136) [Atom.bag y_2.fst, Atom.ro Kd.str l, Atom.cells 57 [C.int
 .i64 (textsC (textC (16384 : Int) s) l)], Atom.arr Kd.rule (goodOf (parseB s)), Atom.cells 67 [C.slc (5 : Nat) (0 : Nat) (0 : Nat) none], Atom.arr Kd.line [], Atom.cells 67 [C.slc (7 : Nat) (0 : Nat) y_2.snd.length
 none], Atom.arr Kd.line y_2.snd, Atom.arr Kd.rule (mirB (goodOf (parseB s)))]) (EndsAs ((1 : Nat) + (1 : Nat)) (ct_says s l t φ) (VV.one (V1.c (C.bool false))) [Atom.bag y_2.fst, Atom.ro Kd.str l, Atom.cells
 57 [C.int .i64 (textsC (textC (16384 : Int) s) l)], Atom.arr Kd.rule (goodOf (parseB s)), Atom.cells 67 [C.slc (5 : Nat) (0 : Nat) (0 : Nat) none], Atom.arr Kd.line [], Atom.cells 67 [C.slc (7 : Nat) (0
 : Nat) y_2.snd.length none], Atom.arr Kd.line y_2.snd, Atom.arr Kd.rule (mirB (goodOf (parseB s)))])) (EndsAs ((1 : Nat) + (1 : Nat)) (ct_says s l t φ) (VV.one (V1.c (C.bool false))) [Atom.bag y_2.fst,
 Atom.ro Kd.str l, Atom.cells 57 [C.int .i64 (textsC (textC (16384 : Int) s) l)], Atom.arr Kd.rule (goodOf (parseB s)), Atom.cells 67 [C.slc (5 : Nat) (0 : Nat) (0 : Nat) none], Atom.arr Kd.line [], Atom.cells
 67 [C.slc (7 : Nat) (0 : Nat) y_2.snd.length none], Atom.arr Kd.line y_2.snd])) (EndsAs ((1 : Nat) + (1 : Nat)) (ct_says s l t φ) (VV.one (V1.c (C.bool false))) [Atom.bag y_2.fst, Atom.ro Kd.str l, Atom.cells
 57 [C.int .i64 (textsC (textC (16384 : Int) s) l)], Atom.arr Kd.rule (goodOf (parseB s)), Atom.cells 67 [C.slc (5 : Nat) (0 : Nat) (0 : Nat) none], Atom.arr Kd.line [], Atom.cells 67 [C.slc (7 : Nat) (0
 : Nat) y_2.snd.length none], Atom.arr Kd.line y_2.snd])) (EndsAs ((1 : Nat) + (1 : Nat)) (ct_says s l t φ) (VV.one (V1.c (C.bool false))) [Atom.bag y_2.fst, Atom.ro Kd.str l, Atom.cells 57 [C.int .i64
 (textsC (textC (16384 : Int) s) l)], Atom.arr Kd.rule (goodOf (parseB s)), Atom.cells 67 [C.slc (5 : Nat) (0 : Nat) (0 : Nat) none], Atom.arr Kd.line [], Atom.cells 67 [C.slc (7 : Nat) (0 : Nat) y_2.snd.length
 none], Atom.arr Kd.line y_2.snd])) (EndsAs 2 (ct_says s l t φ) (VV.one (V1.c (C.bool false))) [Atom.bag y_2.fst, Atom.ro Kd.str l, Atom.cells 57 [C.int .i64 (textsC (textC (16384 : Int) s) l)], Atom.arr
 Kd.rule (goodOf (parseB s)), Atom.cells 67 [C.slc 5 0 0 none], Atom.arr Kd.line [], Atom.cells 67 [C.slc 7 0 y_2.snd.length none], Atom.arr Kd.line y_2.snd])) (EndsAs 2 (ct_says s l t φ) (boolv false)
 [Atom.bag y_2.fst, Atom.ro Kd.str l, Atom.cells 57 [C.int .i64 (textsC (textC (16384 : Int) s) l)], Atom.arr Kd.rule (goodOf (parseB s)), Atom.cells 67 [C.slc 5 0 0 none], Atom.arr Kd.line [], Atom.cells
 67 [C.slc 7 0 y_2.snd.length none], Atom.arr Kd.line y_2.snd])) (EndsAs 2 (ct_says s l t φ) (boolv false) [Atom.bag y_2.fst, Atom.ro Kd.str l, Atom.cells 57 [C.int .i64 (textsC (textC (16384 : Int) s)
 l)], Atom.arr Kd.rule (goodOf (parseB s)), Atom.cells 67 [C.slc 5 0 0 none], Atom.arr Kd.line [], Atom.cells 67 [C.slc 7 0 y_2.snd.length none], Atom.arr Kd.line y_2.snd])) (EndsAs 2 (ct_says s l t φ)
 (boolv false) [Atom.bag y_2.fst, Atom.ro Kd.str l, Atom.cells 57 [C.int .i64 (textsC (textC (16384 : Int) s) l)], Atom.arr Kd.rule (goodOf (parseB s)), Atom.cells 67 [C.slc 5 0 0 none], Atom.arr Kd.line
 [], Atom.cells 67 [C.slc 7 0 y_2.snd.length none], Atom.arr Kd.line y_2.snd])) (i64ok ((↑z : Int) + (1 : Int)) ∧ Enter 2 (inv_stay 13 3 ([VV.one (V1.c (C.str s)), VV.one (V1.c (C.slc 1 0 l.length none)),
 VV.any, VV.any, boolv false, VV.one (V1.c (C.ptr 2 0 0)), VV.one (V1.c (C.slc 3 0 (goodOf (parseB s)).length none)), i64 (badOf (parseB s)).fst, i64 (badOf (parseB s)).snd, VV.one (V1.c (C.ptr 4 0 0)),
 i64 (badOf (parseB s)).fst, i64 (badOf (parseB s)).snd, VV.one (V1.c (C.ptr 6 0 0)), i64 (0 : Int), VV.any, VV.any, VV.any, VV.any, VV.any, VV.any, VV.any, VV.any, VV.one (V1.c (C.ptr 2 0 0)), VV.one (V1.c
 (C.ptr 2 0 0)), VV.one (V1.c (C.str s)), VV.tup [], VV.one (V1.c (C.ptr 2 0 0)), VV.one (V1.c (C.slc 1 0 l.length none)), VV.tup [], VV.one (V1.c (C.ptr 2 0 0)), VV.one (V1.c (C.bool (decide ((0 : Int)
 ≤ textsC (textC (16384 : Int) s) l)))), boolv false, boolv false, VV.one (V1.c (C.slc 1 0 l.length none)), i64 (↑l.length : Int), boolv false, boolv false, VV.tup [V1.c (C.slc 3 0 (goodOf (parseB s)).length
 none), V1.c (C.int .i64 (badOf (parseB s)).fst), V1.c (C.int .i64 (badOf (parseB s)).snd)], VV.one (V1.c (C.str s)), VV.tup [V1.c (C.slc 3 0 (goodOf (parseB s)).length none), V1.c (C.int .i64 (badOf (parseB
 s)).fst), V1.c (C.int .i64 (badOf (parseB s)).snd)], VV.one (V1.c (C.slc 3 0 (goodOf (parseB s)).length none)), i64 (badOf (parseB s)).fst, i64 (badOf (parseB s)).snd, VV.tup [V1.c C.nilp, V1.c (C.int
 .i64 (badOf (parseB s)).fst), V1.c (C.int .i64 (badOf (parseB s)).snd)], VV.one (V1.c (C.str s)), VV.tup [V1.c C.nilp, V1.c (C.int .i64 (badOf (parseB s)).fst), V1.c (C.int .i64 (badOf (parseB s)).snd)],
 VV.one (V1.c C.nilp), i64 (badOf (parseB s)).fst, i64 (badOf (parseB s)).snd, i64 (badOf (parseB s)).snd, i64 (badOf (parseB s)).snd, boolv false, boolv false, VV.one (V1.c C.nilp), boolv false, i64 (badOf
 (parseB s)).snd, boolv false, boolv false, boolv false, VV.one (V1.c C.nilp), boolv true, VV.one (V1.c (C.ptr 4 0 0)), VV.one (V1.c (C.ptr 4 0 0)), VV.one (V1.c (C.ptr 6 0 0)), VV.one (V1.c (C.ptr 6 0
 0)), boolv false] ++ anys 85) [Atom.bag y_2.fst, Atom.ro Kd.str l, Atom.cells 57 [C.int .i64 (textsC (textC (16384 : Int) s) l)], Atom.arr Kd.rule (goodOf (parseB s)), Atom.cells 67 [C.slc 5 0 0 none],
 Atom.arr Kd.line [], Atom.cells 67 [C.slc 7 0 y_2.snd.length none], Atom.arr Kd.line y_2.snd]) (fun (z' : Nat) => 3 - z' < 3 - z) ([VV.one (V1.c (C.str s)), VV.one (V1.c (C.slc 1 0 l.length none)), VV.any,
 VV.any, boolv false, VV.one (V1.c (C.ptr 2 0 0)), VV.one (V1.c (C.slc 3 0 (goodOf (parseB s)).length none)), i64 (badOf (parseB s)).fst, i64 (badOf (parseB s)).snd, VV.one (V1.c (C.ptr 4 0 0)), i64 (badOf
 (parseB s)).fst, i64 (badOf (parseB s)).snd, VV.one (V1.c (C.ptr 6 0 0)), i64 ((↑z : Int) + (1 : Int)), i64 (↑z_1 : Int)] ++ anys 136) [Atom.bag y_2.fst, Atom.ro Kd.str l, Atom.cells 57 [C.int .i64 (textsC
 (textC (16384 : Int) s) l)], Atom.arr Kd.rule (goodOf (parseB s)), Atom.cells 67 [C.slc 5 0 0 none], Atom.arr Kd.line [], Atom.cells 67 [C.slc 7 0 y_2.snd.length none], Atom.arr Kd.line y_2.snd])) (EndsAs
 2 (ct_says s l t φ) (boolv true) [Atom.bag y_2.fst, Atom.ro Kd.str l, Atom.cells 57 [C.int .i64 (textsC (textC (16384 : Int) s) l)], Atom.arr Kd.rule (goodOf (parseB s)), Atom.cells 67 [C.slc 5 0 0 none],
 Atom.arr Kd.line [], Atom.cells 67 [C.slc 7 0 y_2.snd.length none], Atom.arr Kd.line y_2.snd]))) (EndsAs 2 (ct_says s l t φ) (boolv false) [Atom.bag y.fst, Atom.ro Kd.str l, Atom.cells 57 [C.int .i64 (textsC
 (textC (16384 : Int) s) l)], Atom.arr Kd.rule (goodOf (parseB s))]))) (EndsAs 2 (ct_says s l t φ) (boolv true) [Atom.bag φ, Atom.ro Kd.str l, Atom.cells 57 [C.int .i64 (textsC (textC (16384 : Int) s) l)]])) := by kernel_rfl
theorem vc_saysG (s : ByteArray) (l : List ByteArray) (t : Tb) (φ : Bag KK) : evFn (tabS t true) (ann_says l.length) Tryd.f3 (ct_says s l t φ) = ( i64ok (16384 : Int) ∧ Into (K := KK) 0 [] [] [i64 (16384 : Int)] [Atom.bag φ, Atom.ro Kd.str l] [i64 (16384 : Int)] [] ∧ ∀ (y : Unit), True → (okN (16384 : Int) ∧ s.size ≤ 9223372036854775807) ∧ Into
 (K := KK) 0 [] [2] [VV.one (V1.c (C.ptr 2 0 0)), VV.one (V1.c (C.str s))] [Atom.bag φ, Atom.ro Kd.str l, Atom.cells 57 [C.int .i64 (16384 : Int)]] [VV.one (V1.c (C.ptr 0 0 0)), VV.one (V1.c (C.str s))]
 [Atom.cells 57 [C.int .i64 (16384 : Int)]] ∧ ∀ (y : Unit), True → (okN (textC (16384 : Int) s) ∧ l.length ≤ 9223372036854775807 ∧ ∀ (x : ByteArray), List.Mem x l → x.size ≤ 9223372036854775807) ∧ Into
 (K := KK) 0 [] [2, 1] [VV.one (V1.c (C.ptr 2 0 0)), VV.one (V1.c (C.slc 1 0 l.length none))] [Atom.bag φ, Atom.ro Kd.str l, Atom.cells 57 [C.int .i64 (textC (16384 : Int) s)]] [VV.one (V1.c (C.ptr 0 0
 0)), VV.one (V1.c (C.slc 1 0 l.length none))] [Atom.cells 57 [C.int .i64 (textC (16384 : Int) s)], Atom.ro Kd.str l] ∧ ∀ (y : Unit), True → True ∧ Into (K := KK) 0 [] [2] [VV.one (V1.c (C.ptr 2 0 0))]
 [Atom.bag φ, Atom.ro Kd.str l, Atom.cells 57 [C.int .i64 (textsC (textC (16384 : Int) s) l)]] [VV.one (V1.c (C.ptr 0 0 0))] [Atom.cells 57 [C.int .i64 (textsC (textC (16384 : Int) s) l)]] ∧ ∀ (y : Unit),
 True → ite2 (decide ((0 : Int) ≤ textsC (textC (16384 : Int) s) l)) (ite2 (decide ((40 : Int) < (↑l.length : Int))) (EndsAs 2 (ct_says s l t φ) (boolv true) [Atom.bag φ, Atom.ro Kd.str l, Atom.cells 57
 [C.int .i64 (textsC (textC (16384 : Int) s) l)]]) (s.size ≤ 1000000 ∧ Into (K := KK) 0 [] [] [VV.one (V1.c (C.str s))] [Atom.bag φ, Atom.ro Kd.str l, Atom.cells 57 [C.int .i64 (textsC (textC (16384 : Int)
 s) l)]] [VV.one (V1.c (C.str s))] [] ∧ ∀ (y : Unit), True → (s.size ≤ 1000000 ∧ HasT t φ ∧ isGood (parseB s) = true) ∧ Into (K := KK) 0 [] [0] [VV.one (V1.c (C.str s))] [Atom.bag φ, Atom.ro Kd.str l, Atom.cells
 57 [C.int .i64 (textsC (textC (16384 : Int) s) l)], Atom.arr Kd.rule (goodOf (parseB s))] [VV.one (V1.c (C.str s))] [Atom.bag φ] ∧ ∀ (y : Bag KK × List Ln), Ext φ y.fst ∧ (true = true → GoodL y.fst y.snd
 ∧ LL y.snd = goodOf (parseB s)) → ite2 (decide ((0 : Int) = (badOf (parseB s)).snd)) (ite2 (decide ((badOf (parseB s)).snd = (0 : Int))) (y.snd.length ≤ 1000 ∧ Into (K := KK) 0 [] [0, 4, 5] [VV.one (V1.c
 (C.ptr 4 0 0))] [Atom.bag y.fst, Atom.ro Kd.str l, Atom.cells 57 [C.int .i64 (textsC (textC (16384 : Int) s) l)], Atom.arr Kd.rule (goodOf (parseB s)), Atom.cells 67 [C.slc 5 0 y.snd.length none], Atom.arr
 Kd.line y.snd] [VV.one (V1.c (C.ptr 1 0 0))] [Atom.bag y.fst, Atom.cells 67 [C.slc 2 0 y.snd.length none], Atom.arr Kd.line y.snd] ∧ ∀ (y_1 : Bag KK × List Ln), Ext y.fst y_1.fst ∧ GoodL y_1.fst y_1.snd
 ∧ LL y_1.snd = mirB (LL y.snd) → Enter 2 (inv_stay 13 3 ([VV.one (V1.c (C.str s)), VV.one (V1.c (C.slc 1 0 l.length none)), VV.any, VV.any, boolv false, VV.one (V1.c (C.ptr 2 0 0)), VV.one (V1.c (C.slc
 3 0 (goodOf (parseB s)).length none)), i64 (badOf (parseB s)).fst, i64 (badOf (parseB s)).snd, VV.one (V1.c (C.ptr 4 0 0)), i64 (0 : Int), i64 (0 : Int), VV.one (V1.c (C.ptr 6 0 0)), i64 (0 : Int), VV.any,
 VV.any, VV.any, VV.any, VV.any, VV.any, VV.any, VV.any, VV.one (V1.c (C.ptr 2 0 0)), VV.one (V1.c (C.ptr 2 0 0)), VV.one (V1.c (C.str s)), VV.tup [], VV.one (V1.c (C.ptr 2 0 0)), VV.one (V1.c (C.slc 1
 0 l.length none)), VV.tup [], VV.one (V1.c (C.ptr 2 0 0)), boolv (decide ((0 : Int) ≤ textsC (textC (16384 : Int) s) l)), boolv false, boolv false, VV.one (V1.c (C.slc 1 0 l.length none)), i64 (↑l.length
 : Int), boolv false, boolv false, VV.tup [V1.c (C.slc 3 0 (goodOf (parseB s)).length none), V1.c (C.int .i64 (badOf (parseB s)).fst), V1.c (C.int .i64 (badOf (parseB s)).snd)], VV.one (V1.c (C.str s)),
 VV.tup [V1.c (C.slc 3 0 (goodOf (parseB s)).length none), V1.c (C.int .i64 (badOf (parseB s)).fst), V1.c (C.int .i64 (badOf (parseB s)).snd)], VV.one (V1.c (C.slc 3 0 (goodOf (parseB s)).length none)),
 i64 (badOf (parseB s)).fst, i64 (badOf (parseB s)).snd, VV.tup [V1.c (C.ptr 4 0 0), V1.c (C.int .i64 (0 : Int)), V1.c (C.int .i64 (0 : Int))], VV.one (V1.c (C.str s)), VV.tup [V1.c (C.ptr 4 0 0), V1.c
 (C.int .i64 (0 : Int)), V1.c (C.int .i64 (0 : Int))], VV.one (V1.c (C.ptr 4 0 0)), i64 (0 : Int), i64 (0 : Int), i64 (0 : Int), i64 (badOf (parseB s)).snd, boolv false, boolv false, VV.one (V1.c (C.ptr
 4 0 0)), boolv true, i64 (badOf (parseB s)).snd, boolv true, boolv false, boolv false, VV.one (V1.c (C.ptr 4 0 0)), boolv false, VV.any, VV.one (V1.c (C.ptr 4 0 0)), VV.one (V1.c (C.ptr 6 0 0)), VV.one
 (V1.c (C.ptr 6 0 0)), boolv false] ++ anys 85) [Atom.bag y_1.fst, Atom.ro Kd.str l, Atom.cells 57 [C.int .i64 (textsC (textC (16384 : Int) s) l)], Atom.arr Kd.rule (goodOf (parseB s)), Atom.cells 67 [C.slc
 5 0 y.snd.length none], Atom.arr Kd.line y.snd, Atom.cells 67 [C.slc 7 0 y_1.snd.length none], Atom.arr Kd.line y_1.snd]) (fun (x : Nat) => True) ([VV.one (V1.c (C.str s)), VV.one (V1.c (C.slc 1 0 l.length
 none)), VV.any, VV.any, boolv false, VV.one (V1.c (C.ptr 2 0 0)), VV.one (V1.c (C.slc 3 0 (goodOf (parseB s)).length none)), i64 (badOf (parseB s)).fst, i64 (badOf (parseB s)).snd, VV.one (V1.c (C.ptr
 4 0 0)), i64 (0 : Int), i64 (0 : Int), VV.one (V1.c (C.ptr 6 0 0)), i64 (0 : Int)] ++ anys 137) [Atom.bag y_1.fst, Atom.ro Kd.str l, Atom.cells 57 [C.int .i64 (textsC (textC (16384 : Int) s) l)], Atom.arr
 Kd.rule (goodOf (parseB s)), Atom.cells 67 [C.slc 5 0 y.snd.length none], Atom.arr Kd.line y.snd, Atom.cells 67 [C.slc 7 0 y_1.snd.length none], Atom.arr Kd.line y_1.snd] ∧ ∀ (z : Nat), z ≤ 3 → ite2 (decide
 ((↑z : Int) < (3 : Int))) (Enter 2 (inv_stay 14 l.length ([VV.one (V1.c (C.str s)), VV.one (V1.c (C.slc 1 0 l.length none)), VV.any, VV.any, boolv false, VV.one (V1.c (C.ptr 2 0 0)), VV.one (V1.c (C.slc
 3 0 (goodOf (parseB s)).length none)), i64 (badOf (parseB s)).fst, i64 (badOf (parseB s)).snd, VV.one (V1.c (C.ptr 4 0 0)), i64 (0 : Int), i64 (0 : Int), VV.one (V1.c (C.ptr 6 0 0)), i64 (↑z : Int), i64
 (0 : Int), VV.any, VV.any, VV.any, VV.any, VV.any, VV.any, VV.any, VV.any, VV.any, VV.any, VV.any, VV.any, VV.any, VV.any, VV.any, VV.any, VV.any, VV.any, VV.any, VV.any, VV.any, VV.any, VV.any, VV.any,
 VV.any, VV.any, VV.any, VV.any, VV.any, VV.any, VV.any, VV.any, VV.any, VV.any, VV.any, VV.any, VV.any, VV.any, VV.any, VV.any, VV.any, VV.any, VV.any, VV.any, VV.any, VV.any, VV.any, VV.any, VV.any, VV.any,
 VV.any, i64 (↑z : Int), boolv true] ++ anys 83) [Atom.bag y_1.fst, Atom.ro Kd.str l, Atom.cells 57 [C.int .i64 (textsC (textC (16384 : Int) s) l)], Atom.arr Kd.rule (goodOf (parseB s)), Atom.cells 67 [C.slc
 5 0 y.snd.length none], Atom.arr Kd.line y.snd, Atom.cells 67 [C.slc 7 0 y_1.snd.length none], Atom.arr Kd.line y_1.snd]) (fun (x : Nat) => True) ([VV.one (V1.c (C.str s)), VV.one (V1.c (C.slc 1 0 l.length
 none)), VV.any, VV.any, boolv false, VV.one (V1.c (C.ptr 2 0 0)), VV.one (V1.c (C.slc 3 0 (goodOf (parseB s)).length none)), i64 (badOf (parseB s)).fst, i64 (badOf (parseB s)).snd, VV.one (V1.c (C.ptr
 4 0 0)), i64 (0 : Int), i64 (0 : Int), VV.one (V1.c (C.ptr 6 0 0)), i64 (↑z : Int), i64 (0 : Int)] ++ anys 136) [Atom.bag y_1.fst, Atom.ro Kd.str l, Atom.cells 57 [C.int .i64 (textsC (textC (16384 : Int)
 s) l)], Atom.arr Kd.rule (goodOf (parseB s)), Atom.cells 67 [C.slc 5 0 y.snd.length none], Atom.arr Kd.line y.snd, Atom.cells 67 [C.slc 7 0 y_1.snd.length none], Atom.arr Kd.line y_1.snd] ∧ ∀ (z_1 : Nat),
 z_1 ≤ l.length → ite2 (decide ((↑z_1 : Int) < (↑l.length : Int))) (((0 : Int) ≤ (↑z_1 : Int) ∧ (↑z_1 : Int) < (↑l.length : Int)) ∧ (↑z_1 : Int).toNat < l.length ∧ True ∧ (↑z_1 : Int).toNat < l.length ∧
 (GoodL y_1.fst y.snd ∧ ByteArray.size (rd l (↑z_1 : Int).toNat (ByteArray.mk (#[]))) ≤ 1000000000 ∧ y.snd.length ≤ 1000) ∧ Into (K := KK) 0 [] [0, 4, 5] [VV.one (V1.c (C.ptr 4 0 0)), VV.one (V1.c (C.str
 (rd l (↑z_1 : Int).toNat (ByteArray.mk (#[])))))] [Atom.bag y_1.fst, Atom.ro Kd.str l, Atom.cells 57 [C.int .i64 (textsC (textC (16384 : Int) s) l)], Atom.arr Kd.rule (goodOf (parseB s)), Atom.cells 67
 [C.slc 5 0 y.snd.length none], Atom.arr Kd.line y.snd, Atom.cells 67 [C.slc 7 0 y_1.snd.length none], Atom.arr Kd.line y_1.snd] [VV.one (V1.c (C.ptr 1 0 0)), VV.one (V1.c (C.str (rd l (↑z_1 : Int).toNat
 (ByteArray.mk (#[])))))] [Atom.bag y_1.fst, Atom.cells 67 [C.slc 2 0 y.snd.length none], Atom.arr Kd.line y.snd] ∧ ∀ (y_2 : Unit), True → (GoodL y_1.fst y_1.snd ∧ ByteArray.size (rd l (↑z_1 : Int).toNat
 (ByteArray.mk (#[]))) ≤ 1000000000 ∧ y_1.snd.length ≤ 1000) ∧ Into (K := KK) 0 [] [0, 6, 7] [VV.one (V1.c (C.ptr 6 0 0)), VV.one (V1.c (C.str (rd l (↑z_1 : Int).toNat (ByteArray.mk (#[])))))] [Atom.bag
 y_1.fst, Atom.ro Kd.str l, Atom.cells 57 [C.int .i64 (textsC (textC (16384 : Int) s) l)], Atom.arr Kd.rule (goodOf (parseB s)), Atom.cells 67 [C.slc 5 0 y.snd.length none], Atom.arr Kd.line y.snd, Atom.cells
 67 [C.slc 7 0 y_1.snd.length none], Atom.arr Kd.line y_1.snd] [VV.one (V1.c (C.ptr 1 0 0)), VV.one (V1.c (C.str (rd l (↑z_1 : Int).toNat (ByteArray.mk (#[])))))] [Atom.bag y_1.fst, Atom.cells 67 [C.slc
 2 0 y_1.snd.length none], Atom.arr Kd.line y_1.snd] ∧ ∀ (y_3 : Unit), True → (Fine (goodOf (parseB s)) ∧ ByteArray.size (rd l (↑z_1 : Int).toNat (ByteArray.mk (#[]))) ≤ 999999) ∧ Into (K := KK) 0 [] [3]
 [VV.one (V1.c (C.slc 3 0 (goodOf (parseB s)).length none)), VV.one (V1.c (C.str (rd l (↑z_1 : Int).toNat (ByteArray.mk (#[])))))] [Atom.bag y_1.fst, Atom.ro Kd.str l, Atom.cells 57 [C.int .i64 (textsC
 (textC (16384 : Int) s) l)], Atom.arr Kd.rule (goodOf (parseB s)), Atom.cells 67 [C.slc 5 0 y.snd.length none], Atom.arr Kd.line y.snd, Atom.cells 67 [C.slc 7 0 y_1.snd.length none], Atom.arr Kd.line y_1.snd]
 [VV.one (V1.c (C.slc 0 0 (goodOf (parseB s)).length none)), VV.one (V1.c (C.str (rd l (↑z_1 : Int).toNat (ByteArray.mk (#[])))))] [Atom.ro Kd.rule (goodOf (parseB s))] ∧ ∀ (y_4 : Unit), True → ite2 (decide
 ((whyB (LL y.snd) (rd l (↑z_1 : Int).toNat (ByteArray.mk (#[])))).fst = (whyB (goodOf (parseB s)) (rd l (↑z_1 : Int).toNat (ByteArray.mk (#[])))).fst)) (ite2 (decide ((whyB (LL y.snd) (rd l (↑z_1 : Int).toNat
 (ByteArray.mk (#[])))).snd = (whyB (goodOf (parseB s)) (rd l (↑z_1 : Int).toNat (ByteArray.mk (#[])))).snd)) (ite2 (decide ((whyB (LL y_1.snd) (rd l (↑z_1 : Int).toNat (ByteArray.mk (#[])))).fst = (whyB
 (goodOf (parseB s)) (rd l (↑z_1 : Int).toNat (ByteArray.mk (#[])))).fst)) (ite2 (decide ((whyB (LL y_1.snd) (rd l (↑z_1 : Int).toNat (ByteArray.mk (#[])))).snd = (whyB (goodOf (parseB s)) (rd l (↑z_1 :
 Int).toNat (ByteArray.mk (#[])))).snd)) ((GoodL y_1.fst y.snd ∧ ByteArray.size (rd l (↑z_1 : Int).toNat (ByteArray.mk (#[]))) ≤ 1000000000 ∧ y.snd.length ≤ 1000) ∧ Into (K := KK) 0 [] [0, 4, 5] [VV.one
 (V1.c (C.ptr 4 0 0)), VV.one (V1.c (C.str (rd l (↑z_1 : Int).toNat (ByteArray.mk (#[])))))] [Atom.bag y_1.fst, Atom.ro Kd.str l, Atom.cells 57 [C.int .i64 (textsC (textC (16384 : Int) s) l)], Atom.arr
 Kd.rule (goodOf (parseB s)), Atom.cells 67 [C.slc 5 0 y.snd.length none], Atom.arr Kd.line y.snd, Atom.cells 67 [C.slc 7 0 y_1.snd.length none], Atom.arr Kd.line y_1.snd] [VV.one (V1.c (C.ptr 1 0 0)),
 VV.one (V1.c (C.str (rd l (↑z_1 : Int).toNat (ByteArray.mk (#[])))))] [Atom.bag y_1.fst, Atom.cells 67 [C.slc 2 0 y.snd.length none], Atom.arr Kd.line y.snd] ∧ ∀ (y_5 : Unit), True → (Fine (goodOf (parseB
 s)) ∧ ByteArray.size (rd l (↑z_1 : Int).toNat (ByteArray.mk (#[]))) ≤ 999999) ∧ Into (K := KK) 0 [] [3] [VV.one (V1.c (C.slc 3 0 (goodOf (parseB s)).length none)), VV.one (V1.c (C.str (rd l (↑z_1 : Int).toNat
 (ByteArray.mk (#[])))))] [Atom.bag y_1.fst, Atom.ro Kd.str l, Atom.cells 57 [C.int .i64 (textsC (textC (16384 : Int) s) l)], Atom.arr Kd.rule (goodOf (parseB s)), Atom.cells 67 [C.slc 5 0 y.snd.length
 none], Atom.arr Kd.line y.snd, Atom.cells 67 [C.slc 7 0 y_1.snd.length none], Atom.arr Kd.line y_1.snd] [VV.one (V1.c (C.slc 0 0 (goodOf (parseB s)).length none)), VV.one (V1.c (C.str (rd l (↑z_1 : Int).toNat
 (ByteArray.mk (#[])))))] [Atom.ro Kd.rule (goodOf (parseB s))] ∧ ∀ (y_6 : Unit), True → ite2 (decide (skipB (LL y.snd) (rd l (↑z_1 : Int).toNat (ByteArray.mk (#[]))) = skipB (goodOf (parseB s)) (rd l (↑z_1
 : Int).toNat (ByteArray.mk (#[]))))) ((GoodL y_1.fst y.snd ∧ ByteArray.size (rd l (↑z_1 : Int).toNat (ByteArray.mk (#[]))) ≤ (1000000000 : Nat) ∧ y.snd.length ≤ (1000 : Nat)) ∧ Into (K := KK) 0 [] [0,
 4, 5] [VV.one (V1.c (C.ptr (4 : Nat) (0 : Nat) (0 : Nat))), VV.one (V1.c (C.str (rd l (↑z_1 : Int).toNat (ByteArray.mk (#[])))))] [Atom.bag y_1.fst, Atom.ro Kd.str l, Atom.cells 57 [C.int .i64 (textsC
 (textC (16384 : Int) s) l)], Atom.arr Kd.rule (goodOf (parseB s)), Atom.cells 67 [C.slc (5 : Nat) (0 : Nat) y.snd.length none], Atom.arr Kd.line y.snd, Atom.cells 67 [C.slc (7 : Nat) (0 : Nat) y_1.snd.length
 none], Atom.arr Kd.line y_1.snd] [VV.one (V1.c (C.ptr (1 : Nat) (0 : Nat) (0 : Nat))), VV.one (V1.c (C.str (rd l (↑z_1 : Int).toNat (ByteArray.mk (#[])))))] [Atom.bag y_1.fst, Atom.cells 67 [C.slc (2 :
 Nat) (0 : Nat) y.snd.length none], Atom.arr Kd.line y.snd] ∧ ∀ (y_7 : Unit), True → (Fine (goodOf (parseB s)) ∧ ByteArray.size (rd l (↑z_1 : Int).toNat (ByteArray.mk (#[]))) ≤ (999999 : Nat)) ∧ Into (0
 : Nat) [] [(3 : Nat)] [VV.one (V1.c (C.slc (3 : Nat) (0 : Nat) (goodOf (parseB s)).length none)), VV.one (V1.c (C.str (rd l (↑z_1 : Int).toNat (ByteArray.mk (#[])))))] [Atom.bag y_1.fst, Atom.ro Kd.str
 l, Atom.cells 57 [C.int .i64 (textsC (textC (16384 : Int) s) l)], Atom.arr Kd.rule (goodOf (parseB s)), Atom.cells 67 [C.slc (5 : Nat) (0 : Nat) y.snd.length none], Atom.arr Kd.line y.snd, Atom.cells 67
 [C.slc (7 : Nat) (0 : Nat) y_1.snd.length none], Atom.arr Kd.line y_1.snd] [VV.one (V1.c (C.slc (0 : Nat) (0 : Nat) (goodOf (parseB s)).length none)), VV.one (V1.c (C.str (rd l (↑z_1 : Int).toNat (ByteArray.mk
 (#[])))))] [Atom.ro Kd.rule (goodOf (parseB s))] ∧ ∀ (y_8 : Unit), True → ite2 (decide (preferB (LL y.snd) (rd l (↑z_1 : Int).toNat (ByteArray.mk (#[]))) = preferB (goodOf (parseB s)) (rd l (↑z_1 : Int).toNat
 (ByteArray.mk (#[]))))) ((GoodL y_1.fst y_1.snd ∧ ByteArray.size (rd l (↑z_1 : Int).toNat (ByteArray.mk (#[]))) ≤ (1000000000 : Nat) ∧ y_1.snd.length ≤ (1000 : Nat)) ∧ Into (0 : Nat) [] [(0 : Nat), (6
 : Nat), (7 : Nat)] [VV.one (V1.c (C.ptr (6 : Nat) (0 : Nat) (0 : Nat))), VV.one (V1.c (C.str (rd l (↑z_1 : Int).toNat (ByteArray.mk (#[])))))] [Atom.bag y_1.fst, Atom.ro Kd.str l, Atom.cells 57 [C.int
 .i64 (textsC (textC (16384 : Int) s) l)], Atom.arr Kd.rule (goodOf (parseB s)), Atom.cells 67 [C.slc (5 : Nat) (0 : Nat) y.snd.length none], Atom.arr Kd.line y.snd, Atom.cells 67 [C.slc (7 : Nat) (0 :
 Nat) y_1.snd.length none], Atom.arr Kd.line y_1.snd] [VV.one (V1.c (C.ptr (1 : Nat) (0 : Nat) (0 : Nat))), VV.one (V1.c (C.str (rd l (↑z_1 : Int).toNat (ByteArray.mk (#[])))))] [Atom.bag y_1.fst, Atom.cells
 67 [C.slc (2 : Nat) (0 : Nat) y_1.snd.length none], Atom.arr Kd.line y_1.snd] ∧ ∀ (y_9 : Unit), True → (Fine (goodOf (parseB s)) ∧ ByteArray.size (rd l (↑z_1 : Int).toNat (ByteArray.mk (#[]))) ≤ (999999
 : Nat)) ∧ Into (0 : Nat) [] [(3 : Nat)] [VV.one (V1.c (C.slc (3 : Nat) (0 : Nat) (goodOf (parseB s)).length none)), VV.one (V1.c (C.str (rd l (↑z_1 : Int).toNat (ByteArray.mk (#[])))))] [Atom.bag y_1.fst,
 Atom.ro Kd.str l, Atom.cells 57 [C.int .i64 (textsC (textC (16384 : Int) s) l)], Atom.arr Kd.rule (goodOf (parseB s)), Atom.cells 67 [C.slc (5 : Nat) (0 : Nat) y.snd.length none], Atom.arr Kd.line y.snd,
 Atom.cells 67 [C.slc (7 : Nat) (0 : Nat) y_1.snd.length none], Atom.arr Kd.line y_1.snd] [VV.one (V1.c (C.slc (0 : Nat) (0 : Nat) (goodOf (parseB s)).length none)), VV.one (V1.c (C.str (rd l (↑z_1 : Int).toNat
 (ByteArray.mk (#[])))))] [Atom.ro Kd.rule (goodOf (parseB s))] ∧ ∀ (y_10 : Unit), True → ite2 (decide (skipB (LL y_1.snd) (rd l (↑z_1 : Int).toNat (ByteArray.mk (#[]))) = skipB (goodOf (parseB s)) (rd
 l (↑z_1 : Int).toNat (ByteArray.mk (#[]))))) ((GoodL y_1.fst y_1.snd ∧ ByteArray.size (rd l (↑z_1 : Int).toNat (ByteArray.mk (#[]))) ≤ (1000000000 : Nat) ∧ y_1.snd.length ≤ (1000 : Nat)) ∧ Into (0 : Nat)
 [] [(0 : Nat), (6 : Nat), (7 : Nat)] [VV.one (V1.c (C.ptr (6 : Nat) (0 : Nat) (0 : Nat))), VV.one (V1.c (C.str (rd l (↑z_1 : Int).toNat (ByteArray.mk (#[])))))] [Atom.bag y_1.fst, Atom.ro Kd.str l, Atom.cells
 57 [C.int .i64 (textsC (textC (16384 : Int) s) l)], Atom.arr Kd.rule (goodOf (parseB s)), Atom.cells 67 [C.slc (5 : Nat) (0 : Nat) y.snd.length none], Atom.arr Kd.line y.snd, Atom.cells 67 [C.slc (7 :
 Nat) (0 : Nat) y_1.snd.length none], Atom.arr Kd.line y_1.snd] [VV.one (V1.c (C.ptr (1 : Nat) (0 : Nat) (0 : Nat))), VV.one (V1.c (C.str (rd l (↑z_1 : Int).toNat (ByteArray.mk (#[])))))] [Atom.bag y_1.fst,
 Atom.cells 67 [C.slc (2 : Nat) (0 : Nat) y_1.snd.length none], Atom.arr Kd.line y_1.snd] ∧ ∀ (y_11 : Unit), True → (goodOf (parseB s)).length ≤ (1000 : Nat) ∧ Into (0 : Nat) [] [(3 : Nat)] [VV.one (V1.c
 (C.slc (3 : Nat) (0 : Nat) (goodOf (parseB s)).length none))] [Atom.bag y_1.fst, Atom.ro Kd.str l, Atom.cells 57 [C.int .i64 (textsC (textC (16384 : Int) s) l)], Atom.arr Kd.rule (goodOf (parseB s)), Atom.cells
 67 [C.slc (5 : Nat) (0 : Nat) y.snd.length none], Atom.arr Kd.line y.snd, Atom.cells 67 [C.slc (7 : Nat) (0 : Nat) y_1.snd.length none], Atom.arr Kd.line y_1.snd] [VV.one (V1.c (C.slc (0 : Nat) (0 : Nat)
 (goodOf (parseB s)).length none))] [Atom.ro Kd.rule (goodOf (parseB s))] ∧ ∀ (y_12 : Unit), True → (Fine (mirB (goodOf (parseB s))) ∧ ByteArray.size (rd l (↑z_1 : Int).toNat (ByteArray.mk (#[]))) ≤ (999999
 : Nat)) ∧ Into (0 : Nat) [] [(8 : Nat)] [VV.one (V1.c (C.slc (8 : Nat) (0 : Nat) (mirB (goodOf (parseB s))).length none)), VV.one (V1.c (C.str (rd l (↑z_1 : Int).toNat (ByteArray.mk (#[])))))] [Atom.bag
 y_1.fst, Atom.ro Kd.str l, Atom.cells 57 [C.int .i64 (textsC (textC (16384 : Int) s) l)], Atom.arr Kd.rule (goodOf (parseB s)), Atom.cells 67 [C.slc (5 : Nat) (0 : Nat) y.snd.length none], Atom.arr Kd.line
 y.snd, Atom.cells 67 [C.slc (7 : Nat) (0 : Nat) y_1.snd.length none], Atom.arr Kd.line y_1.snd, Atom.arr Kd.rule (mirB (goodOf (parseB s)))] [VV.one (V1.c (C.slc (0 : Nat) (0 : Nat) (mirB (goodOf (parseB
 s))).length none)), VV.one (V1.c (C.str (rd l (↑z_1 : Int).toNat (ByteArray.mk (#[])))))] [Atom.ro Kd.rule (mirB (goodOf (parseB s)))] ∧ ∀ (y_13 : Unit), True → ite2 (decide (preferB (LL y_1.snd) (rd l
 (↑z_1 : Int).toNat (ByteArray.mk (#[]))) = preferB (mirB (goodOf (parseB s))) (rd l (↑z_1 : Int).toNat (ByteArray.mk (#[]))))) (i64ok ((↑z_1 : Int) + (1 : Int)) ∧ Enter ((1 : Nat) + (1 : Nat)) (inv_stay
 (14 : Nat) l.length ([VV.one (V1.c (C.str s)), VV.one (V1.c (C.slc (1 : Nat) (0 : Nat) l.length none)), VV.any, VV.any, VV.one (V1.c (C.bool false)), VV.one (V1.c (C.ptr (2 : Nat) (0 : Nat) (0 : Nat))),
 VV.one (V1.c (C.slc (3 : Nat) (0 : Nat) (goodOf (parseB s)).length none)), VV.one (V1.c (C.int .i64 (badOf (parseB s)).fst)), VV.one (V1.c (C.int .i64 (badOf (parseB s)).snd)), VV.one (V1.c (C.ptr (4 :
 Nat) (0 : Nat) (0 : Nat))), VV.one (V1.c (C.int .i64 (0 : Int))), VV.one (V1.c (C.int .i64 (0 : Int))), VV.one (V1.c (C.ptr (6 : Nat) (0 : Nat) (0 : Nat))), VV.one (V1.c (C.int .i64 (↑z : Int))), VV.one
 (V1.c (C.int .i64 (0 : Int))), VV.any, VV.any, VV.any, VV.any, VV.any, VV.any, VV.any, VV.any, VV.any, VV.any, VV.any, VV.any, VV.any, VV.any, VV.any, VV.any, VV.any, VV.any, VV.any, VV.any, VV.any, VV.any,
 VV.any, VV.any, VV.any, VV.any, VV.any, VV.any, VV.any, VV.any, VV.any, VV.any, VV.any, VV.any, VV.any, VV.any, VV.any, VV.any, VV.any, VV.any, VV.any, VV.any, VV.any, VV.any, VV.any, VV.any, VV.any, VV.any,
 VV.any, VV.any, VV.any, VV.one (V1.c (C.int .i64 (↑z : Int))), VV.one (V1.c (C.bool true))] ++ anys 83) [Atom.bag y_1.fst, Atom.ro Kd.str l, Atom.cells 57 [C.int .i64 (textsC (textC (16384 : Int) s) l)],
 Atom.arr Kd.rule (goodOf (parseB s)), Atom.cells 67 [C.slc (5 : Nat) (0 : Nat) y.snd.length none], Atom.arr Kd.line y.snd, Atom.cells 67 [C.slc (7 : Nat) (0 : Nat) y_1.snd.length none], Atom.arr Kd.line
 y_1.snd]) (fun (z' : Nat) => l.length - z' < l.length - z_1) ([VV.one (V1.c (C.str s)), VV.one (V1.c (C.slc (1 : Nat) (0 : Nat) l.length none)), VV.any, VV.any, VV.one (V1.c (C.bool false)), VV.one (V1.c
 (C.ptr (2 : Nat) (0 : Nat) (0 : Nat))), VV.one (V1.c (C.slc (3 : Nat) (0 : Nat) (goodOf (parseB s)).length none)), VV.one (V1.c (C.int .i64 (badOf (parseB s)).fst)), VV.one (V1.c (C.int .i64 (badOf (parseB
 s)).snd)), VV.one (V1.c (C.ptr (4 : Nat) (0 : Nat) (0 : Nat))), VV.one (V1.c (C.int .i64 (0 : Int))), VV.one (V1.c (C.int .i64 (0 : Int))), VV.one (V1.c (C.ptr (6 : Nat) (0 : Nat) (0 : Nat))), VV.one (V1.c
 (C.int .i64 (↑z : Int))), VV.one (V1.c (C.int .i64 ((↑z_1 : Int) + (1 : Int))))] ++ anys 136) [Atom.bag y_1.fst, Atom.ro Kd.str l, Atom.cells 57 [C.int .i64 (textsC (textC (16384 : Int) s) l)], Atom.arr
 Kd.rule (goodOf (parseB s)), Atom.cells 67 [C.slc (5 : Nat) (0 : Nat) y.snd.length none], Atom.arr Kd.line y.snd, Atom.cells 67 [C.slc (7 : Nat) (0 : Nat) y_1.snd.length none], Atom.arr Kd.line y_1.snd,
 Atom.arr Kd.rule (mirB (goodOf (parseB s)))]) (EndsAs ((1 : Nat) + (1 : Nat)) (ct_says s l t φ) (VV.one (V1.c (C.bool false))) [Atom.bag y_1.fst, Atom.ro Kd.str l, Atom.cells 57 [C.int .i64 (textsC (textC
 (16384 : Int) s) l)], Atom.arr Kd.rule (goodOf (parseB s)), Atom.cells 67 [C.slc (5 : Nat) (0 : Nat) y.snd.length none], Atom.arr Kd.line y.snd, Atom.cells 67 [C.slc (7 : Nat) (0 : Nat) y_1.snd.length
 none], Atom.arr Kd.line y_1.snd, Atom.arr Kd.rule (mirB (goodOf (parseB s)))])) (EndsAs ((1 : Nat) + (1 : Nat)) (ct_says s l t φ) (VV.one (V1.c (C.bool false))) [Atom.bag y_1.fst, Atom.ro Kd.str l, Atom.cells
 57 [C.int .i64 (textsC (textC (16384 : Int) s) l)], Atom.arr Kd.rule (goodOf (parseB s)), Atom.cells 67 [C.slc (5 : Nat) (0 : Nat) y.snd.length none], Atom.arr Kd.line y.snd, Atom.cells 67 [C.slc (7 :
 Nat) (0 : Nat) y_1.snd.length none], Atom.arr Kd.line y_1.snd])) (EndsAs ((1 : Nat) + (1 : Nat)) (ct_says s l t φ) (VV.one (V1.c (C.bool false))) [Atom.bag y_1.fst, Atom.ro Kd.str l, Atom.cells 57 [C.int
 .i64 (textsC (textC (16384 : Int) s) l)], Atom.arr Kd.rule (goodOf (parseB s)), Atom.cells 67 [C.slc (5 : Nat) (0 : Nat) y.snd.length none], Atom.arr Kd.line y.snd, Atom.cells 67 [C.slc (7 : Nat) (0 :
 Nat) y_1.snd.length none], Atom.arr Kd.line y_1.snd])) (EndsAs 2 (ct_says s l t φ) (VV.one (V1.c (C.bool false))) [Atom.bag y_1.fst, Atom.ro Kd.str l, Atom.cells 57 [C.int .i64 (textsC (textC (16384 :
 Int) s) l)], Atom.arr Kd.rule (goodOf (parseB s)), Atom.cells 67 [C.slc 5 0 y.snd.length none], Atom.arr Kd.line y.snd, Atom.cells 67 [C.slc 7 0 y_1.snd.length none], Atom.arr Kd.line y_1.snd])) (EndsAs
 2 (ct_says s l t φ) (boolv false) [Atom.bag y_1.fst, Atom.ro Kd.str l, Atom.cells 57 [C.int .i64 (textsC (textC (16384 : Int) s) l)], Atom.arr Kd.rule (goodOf (parseB s)), Atom.cells 67 [C.slc 5 0 y.snd.length
 none], Atom.arr Kd.line y.snd, Atom.cells 67 [C.slc 7 0 y_1.snd.length none], Atom.arr Kd.line y_1.snd])) (EndsAs 2 (ct_says s l t φ) (boolv false) [Atom.bag y_1.fst, Atom.ro Kd.str l, Atom.cells 57 [C.int
 .i64 (textsC (textC (16384 : Int) s) l)], Atom.arr Kd.rule (goodOf (parseB s)), Atom.cells 67 [C.slc 5 0 y.snd.length none], Atom.arr Kd.line y.snd, Atom.cells 67 [C.slc 7 0 y_1.snd.length none], Atom.arr
 Kd.line y_1.snd])) (EndsAs 2 (ct_says s l t φ) (boolv false) [Atom.bag y_1.fst, Atom.ro Kd.str l, Atom.cells 57 [C.int .i64 (textsC (textC (16384 : Int) s) l)], Atom.arr Kd.rule (goodOf (parseB s)), Atom.cells
 67 [C.slc 5 0 y.snd.length none], Atom.arr Kd.line y.snd, Atom.cells 67 [C.slc 7 0 y_1.snd.length none], Atom.arr Kd.line y_1.snd])) (EndsAs 2 (ct_says s l t φ) (boolv false) [Atom.bag y_1.fst, Atom.ro
 Kd.str l, Atom.cells 57 [C.int .i64 (textsC (textC (16384 : Int) s) l)], Atom.arr Kd.rule (goodOf (parseB s)), Atom.cells 67 [C.slc 5 0 y.snd.length none], Atom.arr Kd.line y.snd, Atom.cells 67 [C.slc
 7 0 y_1.snd.length none], Atom.arr Kd.line y_1.snd])) (i64ok ((↑z : Int) + (1 : Int)) ∧ Enter 2 (inv_stay 13 3 ([VV.one (V1.c (C.str s)), VV.one (V1.c (C.slc 1 0 l.length none)), VV.any, VV.any, boolv
 false, VV.one (V1.c (C.ptr 2 0 0)), VV.one (V1.c (C.slc 3 0 (goodOf (parseB s)).length none)), i64 (badOf (parseB s)).fst, i64 (badOf (parseB s)).snd, VV.one (V1.c (C.ptr 4 0 0)), i64 (0 : Int), i64 (0
 : Int), VV.one (V1.c (C.ptr 6 0 0)), i64 (0 : Int), VV.any, VV.any, VV.any, VV.any, VV.any, VV.any, VV.any, VV.any, VV.one (V1.c (C.ptr 2 0 0)), VV.one (V1.c (C.ptr 2 0 0)), VV.one (V1.c (C.str s)), VV.tup
 [], VV.one (V1.c (C.ptr 2 0 0)), VV.one (V1.c (C.slc 1 0 l.length none)), VV.tup [], VV.one (V1.c (C.ptr 2 0 0)), VV.one (V1.c (C.bool (decide ((0 : Int) ≤ textsC (textC (16384 : Int) s) l)))), boolv false,
 boolv false, VV.one (V1.c (C.slc 1 0 l.length none)), i64 (↑l.length : Int), boolv false, boolv false, VV.tup [V1.c (C.slc 3 0 (goodOf (parseB s)).length none), V1.c (C.int .i64 (badOf (parseB s)).fst),
 V1.c (C.int .i64 (badOf (parseB s)).snd)], VV.one (V1.c (C.str s)), VV.tup [V1.c (C.slc 3 0 (goodOf (parseB s)).length none), V1.c (C.int .i64 (badOf (parseB s)).fst), V1.c (C.int .i64 (badOf (parseB s)).snd)],
 VV.one (V1.c (C.slc 3 0 (goodOf (parseB s)).length none)), i64 (badOf (parseB s)).fst, i64 (badOf (parseB s)).snd, VV.tup [V1.c (C.ptr 4 0 0), V1.c (C.int .i64 (0 : Int)), V1.c (C.int .i64 (0 : Int))],
 VV.one (V1.c (C.str s)), VV.tup [V1.c (C.ptr 4 0 0), V1.c (C.int .i64 (0 : Int)), V1.c (C.int .i64 (0 : Int))], VV.one (V1.c (C.ptr 4 0 0)), i64 (0 : Int), i64 (0 : Int), i64 (0 : Int), i64 (badOf (parseB
 s)).snd, boolv false, boolv false, VV.one (V1.c (C.ptr 4 0 0)), boolv true, i64 (badOf (parseB s)).snd, boolv true, boolv false, boolv false, VV.one (V1.c (C.ptr 4 0 0)), boolv false, VV.any, VV.one (V1.c
 (C.ptr 4 0 0)), VV.one (V1.c (C.ptr 6 0 0)), VV.one (V1.c (C.ptr 6 0 0)), boolv false] ++ anys 85) [Atom.bag y_1.fst, Atom.ro Kd.str l, Atom.cells 57 [C.int .i64 (textsC (textC (16384 : Int) s) l)], Atom.arr
 Kd.rule (goodOf (parseB s)), Atom.cells 67 [C.slc 5 0 y.snd.length none], Atom.arr Kd.line y.snd, Atom.cells 67 [C.slc 7 0 y_1.snd.length none], Atom.arr Kd.line y_1.snd]) (fun (z' : Nat) => 3 - z' < 3
 - z) ([VV.one (V1.c (C.str s)), VV.one (V1.c (C.slc 1 0 l.length none)), VV.any, VV.any, boolv false, VV.one (V1.c (C.ptr 2 0 0)), VV.one (V1.c (C.slc 3 0 (goodOf (parseB s)).length none)), i64 (badOf
 (parseB s)).fst, i64 (badOf (parseB s)).snd, VV.one (V1.c (C.ptr 4 0 0)), i64 (0 : Int), i64 (0 : Int), VV.one (V1.c (C.ptr 6 0 0)), i64 ((↑z : Int) + (1 : Int)), i64 (↑z_1 : Int)] ++ anys 136) [Atom.bag
 y_1.fst, Atom.ro Kd.str l, Atom.cells 57 [C.int .i64 (textsC (textC (16384 : Int) s) l)], Atom.arr Kd.rule (goodOf (parseB s)), Atom.cells 67 [C.slc 5 0 y.snd.length none], Atom.arr Kd.line y.snd, Atom.cells
 67 [C.slc 7 0 y_1.snd.length none], Atom.arr Kd.line y_1.snd])) (EndsAs 2 (ct_says s l t φ) (boolv true) [Atom.bag y_1.fst, Atom.ro Kd.str l, Atom.cells 57 [C.int .i64 (textsC (textC (16384 : Int) s) l)],
 Atom.arr Kd.rule (goodOf (parseB s)), Atom.cells 67 [C.slc 5 0 y.snd.length none], Atom.arr Kd.line y.snd, Atom.cells 67 [C.slc 7 0 y_1.snd.length none], Atom.arr Kd.line y_1.snd])) (EndsAs 2 (ct_says
 s l t φ) (boolv false) [Atom.bag y.fst, Atom.ro Kd.str l, Atom.cells 57 [C.int .i64 (textsC (textC (16384 : Int) s) l)], Atom.arr Kd.rule (goodOf (parseB s)), Atom.cells 67 [C.slc 5 0 y.snd.length none],
 Atom.arr Kd.line y.snd])) (EndsAs 2 (ct_says s l t φ) (boolv false) [Atom.bag y.fst, Atom.ro Kd.str l, Atom.cells 57 [C.int .i64 (textsC (textC (16384 : Int) s) l)], Atom.arr Kd.rule (goodOf (parseB s)),
 Atom.cells 67 [C.slc 5 0 y.snd.length none], Atom.arr Kd.line y.snd]))) (EndsAs 2 (ct_says s l t φ) (boolv true) [Atom.bag φ, Atom.ro Kd.str l, Atom.cells 57 [C.int .i64 (textsC (textC (16384 : Int) s)
 l)]])) := by kernel_rfl
theorem n16 : okN 16384 := by unfold okN; omega
theorem fine_of {l : List Rl} {n : Nat} (hw : Wf l) (h64 : l.length ≤ 64) (hsum : lsum l ≤ n) (hn : n ≤ 900000) : Fine l ∧ Fine (mirB l) := by
  have hr : ∀ r ∈ l, (1 ≤ r.1 ∧ r.1 ≤ 3) ∧ r.2.size ≤ 999999 := fun r hr => by
    have h1 := (hw r hr).1
    have h2 : ∀ l : List Rl, r ∈ l → (lineL r).length + 1 ≤ lsum l := fun l => by
      induction l with
      | nil => intro h; cases h
      | cons a b ih =>
        intro h
        unfold lsum at ih ⊢
        simp only [List.map_cons, List.sum_cons]
        rcases List.mem_cons.1 h with rfl | h
        · omega
        · have := ih h; omega
    have h3 := h2 l hr
    have h4 : r.2.size ≤ (lineL r).length := by
      unfold lineL
      rw [List.length_append]
      have : r.2.data.toList.length = r.2.size := by simp
      omega
    exact ⟨by omega, by omega⟩
  refine ⟨⟨by omega, hr⟩, ⟨by unfold mirB; rw [List.length_map]; omega, fun r h => ?_⟩⟩
  unfold mirB at h
  obtain ⟨q, hq, rfl⟩ := List.mem_map.1 h
  obtain ⟨h1, h2⟩ := hr q hq
  refine ⟨?_, h2⟩
  show 1 ≤ mirW q.1 ∧ mirW q.1 ≤ 3
  unfold mirW
  split
  · omega
  · split <;> omega
theorem says_okG (s : ByteArray) (l : List ByteArray) (t : Tb) (φ : Bag KK) (hg : isGood (parseB s) = true) : CtOk Tryd.prog 3 (ct_says s l t φ) := CtOk_of KK_ok (tabS t true) (ann_says l.length) (fn := Tryd.f3) rfl (fun _ _ => rfl) fun hn => by
  obtain ⟨hT, hs, hl, hx⟩ := hn
  have fin : ∀ (ψ : Bag KK) (A : VH KK), Ext φ ψ → EndsAs 2 (ct_says s l t φ) (boolv true) (.bag ψ :: .ro .str l :: A) := fun ψ A hE => ⟨ψ, [], [0, 1], hE, by (repeat' first | exact trivial | exact rfl | apply And.intro)⟩
  rw [vc_saysG]
  refine ⟨by unfold i64ok; omega, into_mk (by kernel_rfl) (by (repeat' first | exact trivial | exact rfl | apply And.intro)) (by (repeat' first | exact trivial | exact rfl | apply And.intro)), fun _ _ => ⟨⟨n16, hs⟩, into_mk (by kernel_rfl) (by (repeat' first | exact trivial | exact rfl | apply And.intro)) (by (repeat' first | exact trivial | exact rfl | apply And.intro)), fun _ _ => ⟨⟨(textC_ok n16 hs).1, hl, hx⟩, into_mk (by kernel_rfl) (by (repeat' first | exact trivial | exact rfl | apply And.intro)) (by (repeat' first | exact trivial | exact rfl | apply And.intro)), fun _ _ => ⟨trivial, into_mk (by kernel_rfl) (by (repeat' first | exact trivial | exact rfl | apply And.intro)) (by (repeat' first | exact trivial | exact rfl | apply And.intro)), fun _ _ => ite2_decide (fun h1 => ite2_decide (fun h2 => fin _ _ (Ext.refl _)) (fun h2 => ?_)) (fun h1 => fin _ _ (Ext.refl _))⟩⟩⟩⟩
  have hxs := texts_le l _ h1
  have hts : 0 ≤ textC 16384 s := by
    by_cases e : 0 ≤ textC 16384 s
    · exact e
    · rw [texts_neg l _ e] at h1; exact h1
  have hss := textC_le hts
  have htl := (textC_ok n16 hs).2
  have hsz : ∀ i, i < l.length → (rd l i (ByteArray.mk #[])).size ≤ 16384 := fun i hi => by
    have := hxs _ (rd_inB l i (ByteArray.mk #[]) hi)
    omega
  refine ⟨by omega, into_mk (by kernel_rfl) (by (repeat' first | exact trivial | exact rfl | apply And.intro)) (by (repeat' first | exact trivial | exact rfl | apply And.intro)), fun _ _ => ⟨⟨by omega, hT, hg⟩, into_mk (by kernel_rfl) (by (repeat' first | exact trivial | exact rfl | apply And.intro)) (by (repeat' first | exact trivial | exact rfl | apply And.intro)), ?_⟩⟩
  rintro ⟨ψ, ys⟩ ⟨hE, hG⟩
  obtain ⟨hG, hL⟩ := hG rfl
  dsimp only at hE hG hL ⊢
  have hp := good_of hg
  obtain ⟨hw, h64, hsum, h4⟩ := parse_good hp
  obtain ⟨f1, f2⟩ := fine_of hw h64 hsum (by omega)
  have he : (badOf (parseB s)).2 = 0 := by rw [hp]; rfl
  have hly : ys.length ≤ 64 := by rw [← LL_len, hL]; exact h64
  refine ite2_decide (fun _ => ite2_decide (fun _ => ?_) (fun h => absurd he h)) (fun h => absurd he.symm h)
  refine ⟨by omega, into_mk (by kernel_rfl) (by (repeat' first | exact trivial | exact rfl | apply And.intro)) (by (repeat' first | exact trivial | exact rfl | apply And.intro)), ?_⟩
  rintro ⟨χ, zs⟩ ⟨hE2, hG2, hL2⟩
  dsimp only at hE2 hG2 hL2 ⊢
  have hlz : zs.length ≤ 64 := by rw [← LL_len, hL2]; unfold mirB; rw [List.length_map, LL_len]; exact hly
  have hGy := hG.ext hE2
  have hEE := hE.trans hE2
  refine ⟨⟨(0 : Nat), [], [0, 1, 2, 3, 4, 5, 6, 7], Nat.zero_le _, trivial, into_mk (by kernel_rfl) (by (repeat' first | exact trivial | exact rfl | apply And.intro)) (by (repeat' first | exact trivial | exact rfl | apply And.intro))⟩, ?_⟩
  intro n hn
  have hn : n ≤ 3 := hn
  refine ite2_decide (fun hl3 => ?_) (fun _ => fin _ _ hEE)
  refine ⟨⟨(0 : Nat), [], [0, 1, 2, 3, 4, 5, 6, 7], Nat.zero_le _, trivial, into_mk (by kernel_rfl) (by (repeat' first | exact trivial | exact rfl | apply And.intro)) (by (repeat' first | exact trivial | exact rfl | apply And.intro))⟩, ?_⟩
  intro i hi
  have hi : i ≤ l.length := hi
  simp only [Int.toNat_natCast]
  refine ite2_decide (fun hil => ?_) (fun hil => ?_)
  · have hi1 : i < l.length := by omega
    have hr := hsz i hi1
    refine ⟨⟨by omega, hil⟩, hi1, trivial, hi1, ⟨hGy, by omega, by omega⟩, into_mk (by kernel_rfl) (by (repeat' first | exact trivial | exact rfl | apply And.intro)) (by (repeat' first | exact trivial | exact rfl | apply And.intro)), fun _ _ => ⟨⟨hG2, by omega, by omega⟩, into_mk (by kernel_rfl) (by (repeat' first | exact trivial | exact rfl | apply And.intro)) (by (repeat' first | exact trivial | exact rfl | apply And.intro)), fun _ _ => ⟨⟨f1, by omega⟩, into_mk (by kernel_rfl) (by (repeat' first | exact trivial | exact rfl | apply And.intro)) (by (repeat' first | exact trivial | exact rfl | apply And.intro)), fun _ _ => ite2_decide (fun _ => ite2_decide (fun _ => ite2_decide (fun _ => ite2_decide (fun _ => ?_) (fun h => absurd (by rw [hL2, why_mir, hL]) h)) (fun h => absurd (by rw [hL2, why_mir, hL]) h)) (fun h => absurd (by rw [hL]) h)) (fun h => absurd (by rw [hL]) h)⟩⟩⟩
    refine ⟨⟨hGy, by omega, by omega⟩, into_mk (by kernel_rfl) (by (repeat' first | exact trivial | exact rfl | apply And.intro)) (by (repeat' first | exact trivial | exact rfl | apply And.intro)), fun _ _ => ⟨⟨f1, by omega⟩, into_mk (by kernel_rfl) (by (repeat' first | exact trivial | exact rfl | apply And.intro)) (by (repeat' first | exact trivial | exact rfl | apply And.intro)), fun _ _ => ite2_decide (fun _ => ?_) (fun h => absurd (by rw [hL]) h)⟩⟩
    refine ⟨⟨hGy, by omega, by omega⟩, into_mk (by kernel_rfl) (by (repeat' first | exact trivial | exact rfl | apply And.intro)) (by (repeat' first | exact trivial | exact rfl | apply And.intro)), fun _ _ => ⟨⟨f1, by omega⟩, into_mk (by kernel_rfl) (by (repeat' first | exact trivial | exact rfl | apply And.intro)) (by (repeat' first | exact trivial | exact rfl | apply And.intro)), fun _ _ => ite2_decide (fun _ => ?_) (fun h => absurd (by rw [hL]) h)⟩⟩
    refine ⟨⟨hG2, by omega, by omega⟩, into_mk (by kernel_rfl) (by (repeat' first | exact trivial | exact rfl | apply And.intro)) (by (repeat' first | exact trivial | exact rfl | apply And.intro)), fun _ _ => ⟨⟨f1, by omega⟩, into_mk (by kernel_rfl) (by (repeat' first | exact trivial | exact rfl | apply And.intro)) (by (repeat' first | exact trivial | exact rfl | apply And.intro)), fun _ _ => ite2_decide (fun _ => ?_) (fun h => absurd (by rw [hL2, skip_mir, hL]) h)⟩⟩
    refine ⟨⟨hG2, by omega, by omega⟩, into_mk (by kernel_rfl) (by (repeat' first | exact trivial | exact rfl | apply And.intro)) (by (repeat' first | exact trivial | exact rfl | apply And.intro)), fun _ _ => ⟨f1.1, into_mk (by kernel_rfl) (by (repeat' first | exact trivial | exact rfl | apply And.intro)) (by (repeat' first | exact trivial | exact rfl | apply And.intro)), fun _ _ => ⟨⟨f2, by omega⟩, into_mk (by kernel_rfl) (by (repeat' first | exact trivial | exact rfl | apply And.intro)) (by (repeat' first | exact trivial | exact rfl | apply And.intro)), fun _ _ => ite2_decide (fun _ => ?_) (fun h => absurd (by rw [hL2, hL]) h)⟩⟩⟩
    exact ⟨by unfold i64ok; omega, (i + 1 : Nat), [], [0, 1, 2, 3, 4, 5, 6, 7], hi1, (show l.length - (i + 1) < l.length - i by omega), into_mk (by kernel_rfl) (by (repeat' first | exact trivial | exact rfl | apply And.intro)) (by (repeat' first | exact trivial | exact rfl | apply And.intro))⟩
  · exact ⟨by unfold i64ok; omega, (n + 1 : Nat), [], [0, 1, 2, 3, 4, 5, 6, 7], (show n + 1 ≤ 3 by omega), (show 3 - (n + 1) < 3 - n by omega), into_mk (by kernel_rfl) (by (repeat' first | exact trivial | exact rfl | apply And.intro)) (by (repeat' first | exact trivial | exact rfl | apply And.intro))⟩
theorem says_okB (s : ByteArray) (l : List ByteArray) (t : Tb) (φ : Bag KK) (hg : isGood (parseB s) = false) : CtOk Tryd.prog 3 (ct_says s l t φ) := CtOk_of KK_ok (tabS t false) (ann_says l.length) (fn := Tryd.f3) rfl (fun _ _ => rfl) fun hn => by
  obtain ⟨hT, hs, hl, hx⟩ := hn
  have fin : ∀ (ψ : Bag KK) (A : VH KK), Ext φ ψ → EndsAs 2 (ct_says s l t φ) (boolv true) (.bag ψ :: .ro .str l :: A) := fun ψ A hE => ⟨ψ, [], [0, 1], hE, by (repeat' first | exact trivial | exact rfl | apply And.intro)⟩
  rw [vc_saysB]
  refine ⟨by unfold i64ok; omega, into_mk (by kernel_rfl) (by (repeat' first | exact trivial | exact rfl | apply And.intro)) (by (repeat' first | exact trivial | exact rfl | apply And.intro)), fun _ _ => ⟨⟨n16, hs⟩, into_mk (by kernel_rfl) (by (repeat' first | exact trivial | exact rfl | apply And.intro)) (by (repeat' first | exact trivial | exact rfl | apply And.intro)), fun _ _ => ⟨⟨(textC_ok n16 hs).1, hl, hx⟩, into_mk (by kernel_rfl) (by (repeat' first | exact trivial | exact rfl | apply And.intro)) (by (repeat' first | exact trivial | exact rfl | apply And.intro)), fun _ _ => ⟨trivial, into_mk (by kernel_rfl) (by (repeat' first | exact trivial | exact rfl | apply And.intro)) (by (repeat' first | exact trivial | exact rfl | apply And.intro)), fun _ _ => ite2_decide (fun h1 => ite2_decide (fun h2 => fin _ _ (Ext.refl _)) (fun h2 => ?_)) (fun h1 => fin _ _ (Ext.refl _))⟩⟩⟩⟩
  have hxs := texts_le l _ h1
  have hts : 0 ≤ textC 16384 s := by
    by_cases e : 0 ≤ textC 16384 s
    · exact e
    · rw [texts_neg l _ e] at h1; exact h1
  have hss := textC_le hts
  have htl := (textC_ok n16 hs).2
  have hsz : ∀ i, i < l.length → (rd l i (ByteArray.mk #[])).size ≤ 16384 := fun i hi => by
    have := hxs _ (rd_inB l i (ByteArray.mk #[]) hi)
    omega
  refine ⟨by omega, into_mk (by kernel_rfl) (by (repeat' first | exact trivial | exact rfl | apply And.intro)) (by (repeat' first | exact trivial | exact rfl | apply And.intro)), fun _ _ => ⟨⟨by omega, hT, hg⟩, into_mk (by kernel_rfl) (by (repeat' first | exact trivial | exact rfl | apply And.intro)) (by (repeat' first | exact trivial | exact rfl | apply And.intro)), ?_⟩⟩
  rintro ⟨ψ, ys⟩ ⟨hE, _⟩
  dsimp only at hE ⊢
  have he : (badOf (parseB s)).2 ≠ 0 := bad_ne hg
  have hL : LL [] = goodOf (parseB s) := by
    cases hp : parseB s with
    | good l => rw [hp] at hg; cases hg
    | bad k e => rfl
  have f1 : Fine (goodOf (parseB s)) := by rw [← hL]; exact ⟨Nat.zero_le _, fun r hr => by cases hr⟩
  have f2 : Fine (mirB (goodOf (parseB s))) := by rw [← hL]; exact ⟨Nat.zero_le _, fun r hr => by cases hr⟩
  refine ite2_decide (fun _ => ite2_decide (fun h => absurd h he) (fun _ => ?_)) (fun h => absurd rfl h)
  refine ⟨trivial, into_mk (by kernel_rfl) (by (repeat' first | exact trivial | exact rfl | apply And.intro)) (by (repeat' first | exact trivial | exact rfl | apply And.intro)), fun _ _ => ⟨by omega, into_mk (by kernel_rfl) (by (repeat' first | exact trivial | exact rfl | apply And.intro)) (by (repeat' first | exact trivial | exact rfl | apply And.intro)), ?_⟩⟩
  rintro ⟨χ, zs⟩ ⟨hE2, hG2, hL2⟩
  dsimp only at hE2 hG2 hL2 ⊢
  have hlz : zs.length ≤ 64 := by rw [← LL_len, hL2]; exact Nat.zero_le _
  have hGy : GoodL χ [] := fun x hx => by cases hx
  have hEE := hE.trans hE2
  refine ⟨⟨(0 : Nat), [], [0, 1, 2, 3, 4, 5, 6, 7], Nat.zero_le _, trivial, into_mk (by kernel_rfl) (by (repeat' first | exact trivial | exact rfl | apply And.intro)) (by (repeat' first | exact trivial | exact rfl | apply And.intro))⟩, ?_⟩
  intro n hn
  have hn : n ≤ 3 := hn
  refine ite2_decide (fun hl3 => ?_) (fun _ => fin _ _ hEE)
  refine ⟨⟨(0 : Nat), [], [0, 1, 2, 3, 4, 5, 6, 7], Nat.zero_le _, trivial, into_mk (by kernel_rfl) (by (repeat' first | exact trivial | exact rfl | apply And.intro)) (by (repeat' first | exact trivial | exact rfl | apply And.intro))⟩, ?_⟩
  intro i hi
  have hi : i ≤ l.length := hi
  simp only [Int.toNat_natCast]
  refine ite2_decide (fun hil => ?_) (fun hil => ?_)
  · have hi1 : i < l.length := by omega
    have hr := hsz i hi1
    refine ⟨⟨by omega, hil⟩, hi1, trivial, hi1, ⟨hGy, by omega, by omega⟩, into_mk (by kernel_rfl) (by (repeat' first | exact trivial | exact rfl | apply And.intro)) (by (repeat' first | exact trivial | exact rfl | apply And.intro)), fun _ _ => ⟨⟨hG2, by omega, by omega⟩, into_mk (by kernel_rfl) (by (repeat' first | exact trivial | exact rfl | apply And.intro)) (by (repeat' first | exact trivial | exact rfl | apply And.intro)), fun _ _ => ⟨⟨f1, by omega⟩, into_mk (by kernel_rfl) (by (repeat' first | exact trivial | exact rfl | apply And.intro)) (by (repeat' first | exact trivial | exact rfl | apply And.intro)), fun _ _ => ite2_decide (fun _ => ite2_decide (fun _ => ite2_decide (fun _ => ite2_decide (fun _ => ?_) (fun h => absurd (by rw [hL2, why_mir, hL]) h)) (fun h => absurd (by rw [hL2, why_mir, hL]) h)) (fun h => absurd (by rw [hL]) h)) (fun h => absurd (by rw [hL]) h)⟩⟩⟩
    refine ⟨⟨hGy, by omega, by omega⟩, into_mk (by kernel_rfl) (by (repeat' first | exact trivial | exact rfl | apply And.intro)) (by (repeat' first | exact trivial | exact rfl | apply And.intro)), fun _ _ => ⟨⟨f1, by omega⟩, into_mk (by kernel_rfl) (by (repeat' first | exact trivial | exact rfl | apply And.intro)) (by (repeat' first | exact trivial | exact rfl | apply And.intro)), fun _ _ => ite2_decide (fun _ => ?_) (fun h => absurd (by rw [hL]) h)⟩⟩
    refine ⟨⟨hGy, by omega, by omega⟩, into_mk (by kernel_rfl) (by (repeat' first | exact trivial | exact rfl | apply And.intro)) (by (repeat' first | exact trivial | exact rfl | apply And.intro)), fun _ _ => ⟨⟨f1, by omega⟩, into_mk (by kernel_rfl) (by (repeat' first | exact trivial | exact rfl | apply And.intro)) (by (repeat' first | exact trivial | exact rfl | apply And.intro)), fun _ _ => ite2_decide (fun _ => ?_) (fun h => absurd (by rw [hL]) h)⟩⟩
    refine ⟨⟨hG2, by omega, by omega⟩, into_mk (by kernel_rfl) (by (repeat' first | exact trivial | exact rfl | apply And.intro)) (by (repeat' first | exact trivial | exact rfl | apply And.intro)), fun _ _ => ⟨⟨f1, by omega⟩, into_mk (by kernel_rfl) (by (repeat' first | exact trivial | exact rfl | apply And.intro)) (by (repeat' first | exact trivial | exact rfl | apply And.intro)), fun _ _ => ite2_decide (fun _ => ?_) (fun h => absurd (by rw [hL2, skip_mir, hL]) h)⟩⟩
    refine ⟨⟨hG2, by omega, by omega⟩, into_mk (by kernel_rfl) (by (repeat' first | exact trivial | exact rfl | apply And.intro)) (by (repeat' first | exact trivial | exact rfl | apply And.intro)), fun _ _ => ⟨f1.1, into_mk (by kernel_rfl) (by (repeat' first | exact trivial | exact rfl | apply And.intro)) (by (repeat' first | exact trivial | exact rfl | apply And.intro)), fun _ _ => ⟨⟨f2, by omega⟩, into_mk (by kernel_rfl) (by (repeat' first | exact trivial | exact rfl | apply And.intro)) (by (repeat' first | exact trivial | exact rfl | apply And.intro)), fun _ _ => ite2_decide (fun _ => ?_) (fun h => absurd (by rw [hL2, hL]) h)⟩⟩⟩
    exact ⟨by unfold i64ok; omega, (i + 1 : Nat), [], [0, 1, 2, 3, 4, 5, 6, 7], hi1, (show l.length - (i + 1) < l.length - i by omega), into_mk (by kernel_rfl) (by (repeat' first | exact trivial | exact rfl | apply And.intro)) (by (repeat' first | exact trivial | exact rfl | apply And.intro))⟩
  · exact ⟨by unfold i64ok; omega, (n + 1 : Nat), [], [0, 1, 2, 3, 4, 5, 6, 7], (show n + 1 ≤ 3 by omega), (show 3 - (n + 1) < 3 - n by omega), into_mk (by kernel_rfl) (by (repeat' first | exact trivial | exact rfl | apply And.intro)) (by (repeat' first | exact trivial | exact rfl | apply And.intro))⟩
theorem says_ok (s : ByteArray) (l : List ByteArray) (t : Tb) (φ : Bag KK) : CtOk Tryd.prog 3 (ct_says s l t φ) := by
  cases hg : isGood (parseB s) with
  | true => exact says_okG s l t φ hg
  | false => exact says_okB s l t φ hg
end Go.Proofs.YtoidibkcdkdneaaDoor.T
end
section
namespace Go.Proofs.YtoidibkcdkdneaaDoor.T
open Go.Proofs.YtoidibkcdkdneaaDoor.E Go.Proofs.YtoidibkcdkdneaaDoor.MStr Go.Proofs.YtoidibkcdkdneaaDoor.R
set_option maxRecDepth 100000
set_option linter.unusedVariables false
set_option linter.unusedSimpArgs false
def ct_ctextsL (n : Int) (l : List ByteArray) (b o c : Nat) (ob : Obj) (φ : Bag KK) : Ct KK := { need := okN n ∧ (l.length ≤ 9223372036854775807 ∧ ∀ x ∈ l, x.size ≤ 9223372036854775807) ∧ HasV φ b o Kd.str l ob, pre := [.bag φ, .cells 57 [.int .i64 n]], args := [.c (.ptr 1 0 0), .c (.ls 9 b o l.length c)], Y := Unit, ok := fun _ => True, ret := fun _ => .tup [], post := fun _ => [.bag φ, .cells 57 [.int .i64 (textsC n l)]] }
def inv_ctextsL (n : Int) (l : List ByteArray) (b o c : Nat) (φ : Bag KK) : Inv KK := { X := Nat, fr := fun i => [.c (.ptr 1 0 0), .c (.ls 9 b o l.length c), .any, .any, i64 i] ++ anys 16, H := fun i => [.bag φ, .cells 57 [.int .i64 (textsC n (l.take i))]], ok := fun i => i ≤ l.length, meas := fun i : Nat => l.length - i }
def ann_ctextsL (n : Int) (l : List ByteArray) (b o c : Nat) (φ : Bag KK) : Ann KK := { loop := fun _ _ _ => some (inv_ctextsL n l b o c φ), cut := fun _ _ _ => none, keep := some 5 }
theorem vc_ctextsL (n : Int) (l : List ByteArray) (b o c : Nat) (ob : Obj) (φ : Bag KK) : evFn (tabC1 AddOk.is OkOk.is TextOk.is) (ann_ctextsL n l b o c φ) Tryd.f9 (ct_ctextsL n l b o c ob φ) = ( Enter 2 (inv_ctextsL n l b o c φ) (fun (x : Nat) => True) ([VV.one (V1.c (C.ptr 1 0 0)), VV.one (V1.c (C.ls 9 b o l.length c)), VV.any, VV.any, i64 (0 : Int)] ++ anys 16) [Atom.bag φ, Atom.cells 57 [C.int
 .i64 n]] ∧ ∀ (z : Nat), z ≤ l.length → ite2 (decide ((↑z : Int) < (↑l.length : Int))) (True ∧ Into (K := KK) 0 [] [1] [VV.one (V1.c (C.ptr 1 0 0))] [Atom.bag φ, Atom.cells 57 [C.int .i64 (textsC n (List.take
 z l))]] [VV.one (V1.c (C.ptr 0 0 0))] [Atom.cells 57 [C.int .i64 (textsC n (List.take z l))]] ∧ ∀ (y : Unit), True → ite2 (decide ((0 : Int) ≤ textsC n (List.take z l))) (((0 : Int) ≤ (↑z : Int) ∧ (↑z
 : Int) < (↑l.length : Int)) ∧ ∃ (xs : List (KK.α Kd.str)), ∃ (ob : Obj), HasV φ b o Kd.str xs ob ∧ (↑z : Int).toNat < xs.length ∧ (okN (textsC n (List.take z l)) ∧ ByteArray.size (rd xs (↑z : Int).toNat
 (ByteArray.mk (#[]))) ≤ 9223372036854775807) ∧ Into (K := KK) 0 [] [1] [VV.one (V1.c (C.ptr 1 0 0)), VV.one (V1.c (C.str (rd xs (↑z : Int).toNat (ByteArray.mk (#[])))))] [Atom.bag φ, Atom.cells 57 [C.int
 .i64 (textsC n (List.take z l))]] [VV.one (V1.c (C.ptr 0 0 0)), VV.one (V1.c (C.str (rd xs (↑z : Int).toNat (ByteArray.mk (#[])))))] [Atom.cells 57 [C.int .i64 (textsC n (List.take z l))]] ∧ ∀ (y : Unit),
 True → i64ok ((↑z : Int) + (1 : Int)) ∧ Enter 2 (inv_ctextsL n l b o c φ) (fun (z' : Nat) => l.length - z' < l.length - z) ([VV.one (V1.c (C.ptr 1 0 0)), VV.one (V1.c (C.ls 9 b o l.length c)), VV.any,
 VV.any, i64 ((↑z : Int) + (1 : Int))] ++ anys 16) [Atom.bag φ, Atom.cells 57 [C.int .i64 (textC (textsC n (List.take z l)) (rd xs (↑z : Int).toNat (ByteArray.mk (#[]))))]]) (EndsAs 2 (ct_ctextsL n l b
 o c ob φ) (VV.tup []) [Atom.bag φ, Atom.cells 57 [C.int .i64 (textsC n (List.take z l))]])) (EndsAs 2 (ct_ctextsL n l b o c ob φ) (VV.tup []) [Atom.bag φ, Atom.cells 57 [C.int .i64 (textsC n (List.take
 z l))]])) := by kernel_rfl
theorem ctextsL_ok (n : Int) (l : List ByteArray) (b o c : Nat) (ob : Obj) (φ : Bag KK) : CtOk Tryd.prog 9 (ct_ctextsL n l b o c ob φ) := CtOk_of KK_ok (tabC1 AddOk.is OkOk.is TextOk.is) (ann_ctextsL n l b o c φ) (fn := Tryd.f9) rfl (fun _ _ => rfl) fun hn => by
  obtain ⟨h1, ⟨h2, h3⟩, hV⟩ := hn
  rw [vc_ctextsL]
  simp only [Int.toNat_natCast]
  refine ⟨⟨(0 : Nat), [], [0, 1], Nat.zero_le _, trivial, into_mk (by kernel_rfl) (by (repeat' first | exact trivial | exact rfl | apply And.intro)) (by (repeat' first | exact trivial | exact rfl | apply And.intro))⟩, ?_⟩
  intro i hi
  have hi : i ≤ l.length := hi
  refine ite2_decide (fun hl => ?_) (fun hl => ?_)
  · have hl1 : i < l.length := by omega
    have hk := (texts_ok (l.take i) n (fun x hx => h3 x (List.mem_of_mem_take hx)) h1).1
    have hx := h3 _ (rd_inB l i (ByteArray.mk #[]) hl1)
    refine ⟨trivial, into_mk (by kernel_rfl) (by (repeat' first | exact trivial | exact rfl | apply And.intro)) (by (repeat' first | exact trivial | exact rfl | apply And.intro)), fun _ _ => ite2_decide (fun g => ?_) (fun g => ?_)⟩
    · have q1 : textC (textsC n (l.take i)) (rd l i (ByteArray.mk #[])) = textsC n (l.take (i + 1)) := (texts_take hl1 n).symm
      exact ⟨⟨by omega, hl⟩, l, ob, hV, hl1, ⟨hk, hx⟩, into_mk (by kernel_rfl) (by (repeat' first | exact trivial | exact rfl | apply And.intro)) (by (repeat' first | exact trivial | exact rfl | apply And.intro)), fun _ _ => ⟨by unfold i64ok; omega, (i + 1 : Nat), [], [0, 1], hl1, (show l.length - (i + 1) < l.length - i by omega), into_mk (by kernel_rfl) (by (repeat' first | exact trivial | exact rfl | apply And.intro)) (by (repeat' first | exact trivial | exact rfl | exact q1 | apply And.intro))⟩⟩
    · have q1 : textsC n (l.take i) = textsC n l := by
        have e : l = l.take i ++ l.drop i := (List.take_append_drop _ _).symm
        conv => rhs; rw [e]
        unfold textsC
        rw [List.foldl_append]
        exact (texts_neg (l.drop i) _ g).symm
      exact ⟨(), [], [0, 1], trivial, by (repeat' first | exact trivial | exact rfl | exact q1 | apply And.intro)⟩
  · have q1 : textsC n (l.take i) = textsC n l := by rw [List.take_of_length_le (by omega)]
    exact ⟨(), [], [0, 1], trivial, by (repeat' first | exact trivial | exact rfl | exact q1 | apply And.intro)⟩
end Go.Proofs.YtoidibkcdkdneaaDoor.T
end
