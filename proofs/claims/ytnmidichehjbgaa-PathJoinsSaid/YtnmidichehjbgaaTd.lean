/- Lists of texts are the same; the reference's Join. -/
import Derived.Test.YtnmidichehjbgaaTK
import Derived.Test.YtnmidichehjbgaaEk
namespace Go.Proofs.Ytnmidichehjbgaa.T
open Go.Proofs.Ytnmidichehjbgaa.E
set_option maxRecDepth 100000
set_option linter.unusedVariables false
def ct_same (x : RS) (l : List ByteArray) (φ : Bag KK) : Ct KK := { need := i64ok l.length ∧ x.row φ Kd.str = some l, pre := [.ro .str l, .bag φ], args := [.c (.rs 9 1 x), .c (.slc 0 0 l.length none)], Y := Unit, ok := fun _ => True, ret := fun _ => boolv true, post := fun _ => [.gone, .bag φ] }
def inv_same (x : RS) (l : List ByteArray) (φ : Bag KK) : Inv KK := { X := Nat, fr := fun i => [.c (.rs 9 1 x), .c (.slc 0 0 l.length none), .any, .any, .any, i64 i] ++ anys 20, H := fun _ => [.ro .str l, .bag φ], ok := fun i => i ≤ l.length, meas := fun i : Nat => l.length - i }
def slash : ByteArray := ⟨#[47]⟩
/-- Texts with a slash between them. -/
def joinB : List ByteArray → ByteArray
  | [] => .empty
  | x :: t => t.foldl (fun s y => s ++ slash ++ y) x
def ct_rjoin (l : List ByteArray) : Ct KK := { need := l.length ≤ 1000000 ∧ (joinB l).size ≤ 1000000000, pre := [.ro .str l], args := [.c (.slc 0 0 l.length none)], Y := Unit, ok := fun _ => True, ret := fun _ => .c (.str (joinB l)), post := fun _ => [.gone] }
def inv_rjoin (l : List ByteArray) : Inv KK := { X := Nat, fr := fun i => [.c (.slc 0 0 l.length none), .any, .any, .c (.str (joinB (l.take i))), i64 i] ++ anys 17, H := fun _ => [.ro .str l], ok := fun i => i ≤ l.length, meas := fun i : Nat => l.length - i }
theorem vc_same (x : RS) (l : List ByteArray) (φ : Bag KK) : evFn tab0 (ann1 (inv_same x l φ)) Try.f8 (ct_same x l φ) = ( ite2 (decide ((↑x.len : Int) = (↑l.length : Int))) (Enter (1 + 1) (inv_same x l φ) (fun (x : Nat) => True) [VV.one (V1.c (C.rs (9 : TypeId) 1 x)), VV.one (V1.c (C.slc 0 0 l.length none)), VV.any, VV.any,
 boolv false, i64 (0 : Int), VV.one (V1.c (C.rs (9 : TypeId) 1 x)), i64 (↑x.len : Int), VV.one (V1.c (C.slc 0 0 l.length none)), i64 (↑l.length : Int), boolv false, VV.any, VV.any, VV.any, VV.any, VV.any,
 VV.any, VV.any, VV.any, VV.any, VV.any, VV.any, VV.any, VV.any, VV.any, VV.any] [Atom.ro Kd.str l, Atom.bag φ] ∧ ∀ (z : Nat), z ≤ l.length → ite2 (decide ((↑z : Int) < (↑x.len : Int))) (((0 : Int) ≤ (↑z
 : Int) ∧ (↑z : Int) < (↑x.len : Int)) ∧ ∃ (cap : Nat), ∃ (xs : List (KK.α Kd.str)), φ x.blk = some (BI.row Kd.str cap xs) ∧ x.lo + (↑z : Int).toNat < xs.length ∧ ((0 : Int) ≤ (↑z : Int) ∧ (↑z : Int) <
 (↑l.length : Int)) ∧ 0 + (↑z : Int).toNat < l.length ∧ True ∧ 0 + (↑z : Int).toNat < l.length ∧ ite2 (decide (ByteArray.toList (rd xs (x.lo + (↑z : Int).toNat) (ByteArray.mk (#[]))) = ByteArray.toList
 (rd l (0 + (↑z : Int).toNat) (ByteArray.mk (#[]))))) (True ∧ i64ok ((↑z : Int) + (1 : Int)) ∧ Enter (1 + 1) (inv_same x l φ) (fun (z' : Nat) => l.length - z' < l.length - z) [VV.one (V1.c (C.rs (9 : TypeId)
 1 x)), VV.one (V1.c (C.slc 0 0 l.length none)), VV.any, VV.any, VV.any, i64 ((↑z : Int) + (1 : Int)), VV.any, VV.any, VV.any, VV.any, VV.any, i64 (↑z : Int), VV.one (V1.c (C.rs (9 : TypeId) 1 x)), i64
 (↑x.len : Int), boolv true, i64 (↑z : Int), i64 ((↑z : Int) + (1 : Int)), VV.one (V1.c (C.rs (9 : TypeId) 1 x)), i64 (↑z : Int), VV.one (V1.c (C.rp 9 1 x.blk (x.lo + (↑z : Int).toNat) 0)), VV.one (V1.c
 (C.str (rd xs (x.lo + (↑z : Int).toNat) (ByteArray.mk (#[]))))), VV.one (V1.c (C.slc 0 0 l.length none)), i64 (↑z : Int), VV.one (V1.c (C.ptr 0 (0 + (↑z : Int).toNat) 0)), VV.one (V1.c (C.str (rd l (0
 + (↑z : Int).toNat) (ByteArray.mk (#[]))))), boolv false] [Atom.ro Kd.str l, Atom.bag φ]) (True ∧ EndsAs (1 + 1) (ct_same x l φ) (boolv false) [Atom.ro Kd.str l, Atom.bag φ])) (EndsAs (1 + 1) (ct_same
 x l φ) (boolv true) [Atom.ro Kd.str l, Atom.bag φ])) (EndsAs (1 + 1) (ct_same x l φ) (boolv false) [Atom.ro Kd.str l, Atom.bag φ])) := by kernel_rfl
theorem vc_rjoin (l : List ByteArray) : evFn tab0 (ann1 (inv_rjoin l)) Try.f7 (ct_rjoin l) = ( Enter 1 (inv_rjoin l) (fun (x : Nat) => True) [VV.one (V1.c (C.slc 0 0 l.length none)), VV.any, VV.one (V1.c (C.str (ByteArray.mk (#[])))), VV.one (V1.c (C.str (ByteArray.mk (#[])))), i64 (0 : Int), VV.any,
 VV.any, VV.any, VV.any, VV.any, VV.any, VV.any, VV.any, VV.any, VV.any, VV.any, VV.any, VV.any, VV.any, VV.any, VV.any, VV.any] [Atom.ro Kd.str l] ∧ ∀ (z : Nat), z ≤ l.length → ite2 (decide ((↑z : Int)
 < (↑l.length : Int))) (ite2 (decide ((0 : Int) < (↑z : Int))) ((joinB (List.take z l)).size + 1 ≤ 9223372036854775807 ∧ ((0 : Int) ≤ (↑z : Int) ∧ (↑z : Int) < (↑l.length : Int)) ∧ 0 + (↑z : Int).toNat
 < l.length ∧ True ∧ 0 + (↑z : Int).toNat < l.length ∧ ((joinB (List.take z l)).append (ByteArray.mk (#[(47 : UInt8)]))).size + ByteArray.size (rd l (0 + (↑z : Int).toNat) (ByteArray.mk (#[]))) ≤ 9223372036854775807
 ∧ i64ok ((↑z : Int) + (1 : Int)) ∧ Enter 1 (inv_rjoin l) (fun (z' : Nat) => l.length - z' < l.length - z) [VV.one (V1.c (C.slc 0 0 l.length none)), VV.any, VV.any, VV.one (V1.c (C.str (((joinB (List.take
 z l)).append (ByteArray.mk (#[(47 : UInt8)]))).append (rd l (0 + (↑z : Int).toNat) (ByteArray.mk (#[])))))), i64 ((↑z : Int) + (1 : Int)), i64 (↑z : Int), VV.one (V1.c (C.slc 0 0 l.length none)), i64 (↑l.length
 : Int), boolv true, i64 (↑z : Int), i64 ((↑z : Int) + (1 : Int)), i64 (↑z : Int), boolv true, VV.one (V1.c (C.str (joinB (List.take z l)))), VV.one (V1.c (C.str ((joinB (List.take z l)).append (ByteArray.mk
 (#[(47 : UInt8)]))))), VV.one (V1.c (C.str ((joinB (List.take z l)).append (ByteArray.mk (#[(47 : UInt8)]))))), VV.one (V1.c (C.slc 0 0 l.length none)), i64 (↑z : Int), VV.one (V1.c (C.ptr 0 (0 + (↑z :
 Int).toNat) 0)), VV.one (V1.c (C.str (rd l (0 + (↑z : Int).toNat) (ByteArray.mk (#[]))))), VV.one (V1.c (C.str (((joinB (List.take z l)).append (ByteArray.mk (#[(47 : UInt8)]))).append (rd l (0 + (↑z :
 Int).toNat) (ByteArray.mk (#[])))))), VV.any] [Atom.ro Kd.str l]) (((0 : Int) ≤ (↑z : Int) ∧ (↑z : Int) < (↑l.length : Int)) ∧ 0 + (↑z : Int).toNat < l.length ∧ True ∧ 0 + (↑z : Int).toNat < l.length ∧
 (joinB (List.take z l)).size + ByteArray.size (rd l (0 + (↑z : Int).toNat) (ByteArray.mk (#[]))) ≤ 9223372036854775807 ∧ i64ok ((↑z : Int) + (1 : Int)) ∧ Enter 1 (inv_rjoin l) (fun (z' : Nat) => l.length
 - z' < l.length - z) [VV.one (V1.c (C.slc 0 0 l.length none)), VV.any, VV.any, VV.one (V1.c (C.str ((joinB (List.take z l)).append (rd l (0 + (↑z : Int).toNat) (ByteArray.mk (#[])))))), i64 ((↑z : Int)
 + (1 : Int)), i64 (↑z : Int), VV.one (V1.c (C.slc 0 0 l.length none)), i64 (↑l.length : Int), boolv true, i64 (↑z : Int), i64 ((↑z : Int) + (1 : Int)), i64 (↑z : Int), boolv false, VV.any, VV.any, VV.one
 (V1.c (C.str (joinB (List.take z l)))), VV.one (V1.c (C.slc 0 0 l.length none)), i64 (↑z : Int), VV.one (V1.c (C.ptr 0 (0 + (↑z : Int).toNat) 0)), VV.one (V1.c (C.str (rd l (0 + (↑z : Int).toNat) (ByteArray.mk
 (#[]))))), VV.one (V1.c (C.str ((joinB (List.take z l)).append (rd l (0 + (↑z : Int).toNat) (ByteArray.mk (#[])))))), VV.any] [Atom.ro Kd.str l])) (EndsAs 1 (ct_rjoin l) (VV.one (V1.c (C.str (joinB (List.take
 z l))))) [Atom.ro Kd.str l])) := by kernel_rfl
theorem same_ok (x : RS) (l : List ByteArray) (φ : Bag KK) : CtOk Try.prog 8 (ct_same x l φ) := CtOk_of KK_ok tab0 (ann1 (inv_same x l φ)) (fn := Try.f8) rfl (fun _ _ => rfl) fun hn => by
  obtain ⟨hl, hr⟩ := hn
  have hlen := RS.row_len hr
  have hlen : (l : List ByteArray).length = x.len := hlen
  rw [vc_same]
  simp only [Int.toNat_natCast, Nat.zero_add]
  refine ite2_decide (fun h => ⟨⟨(0 : Nat), [], [0, 1], Nat.zero_le _, trivial, into_mk (by kernel_rfl) (by (repeat' first | exact trivial | exact rfl | apply And.intro)) (by (repeat' first | exact trivial | exact rfl | apply And.intro))⟩, fun z hz => ite2_decide (fun h1 => ?_) (fun h1 => ⟨(), [], [0, 1], trivial, by (repeat' first | exact trivial | exact rfl | apply And.intro)⟩)⟩) (fun h => absurd (by rw [hlen]) h)
  have hz' : z < x.len := by omega
  obtain ⟨cap, xs, e1, e2, e3⟩ := RS.rd hr hz' (ByteArray.mk #[])
  refine ⟨⟨by omega, by omega⟩, cap, xs, e1, e2, ⟨by omega, by omega⟩, by omega, trivial, by omega, ?_⟩
  exact ite2_decide (fun _ => ⟨trivial, by unfold i64ok at *; omega, ⟨(z + 1 : Nat), [], [0, 1], by show z + 1 ≤ l.length; omega, by omega, into_mk (by kernel_rfl) (by (repeat' first | exact trivial | exact rfl | apply And.intro)) (by (repeat' first | exact trivial | exact rfl | apply And.intro))⟩⟩) (fun h => absurd (congrArg ByteArray.toList e3) h)
theorem ba_ext {a b : ByteArray} (h : a.data.toList = b.data.toList) : a = b := by
  cases a; cases b; congr 1; apply Array.ext'; exact h
theorem ba_data (a b : ByteArray) : (a.append b).data.toList = a.data.toList ++ b.data.toList := by
  have : (a.append b).data = a.data ++ b.data := ByteArray.data_append
  rw [this]; simp
theorem ba_data' (a b : ByteArray) : (a ++ b).data.toList = a.data.toList ++ b.data.toList := ba_data a b
theorem joinB_one (l : List ByteArray) (h : 0 < l.length) : joinB (l.take 1) = (joinB (l.take 0)).append (rd l 0 .empty) := by
  cases l with
  | nil => simp at h
  | cons x t =>
    apply ba_ext
    rw [ba_data]
    simp [joinB, rd]
theorem joinB_succ (l : List ByteArray) (i : Nat) (h0 : 0 < i) (h : i < l.length) : joinB (l.take (i + 1)) = ((joinB (l.take i)).append slash).append (rd l i .empty) := by
  cases l with
  | nil => simp at h
  | cons x t =>
    obtain ⟨j, rfl⟩ : ∃ j, i = j + 1 := ⟨i - 1, by omega⟩
    have hj : j < t.length := by simpa using h
    simp only [List.take_succ_cons, joinB]
    rw [List.take_succ_eq_append_getElem hj, List.foldl_append]
    simp only [List.foldl_cons, List.foldl_nil, rd, List.getD_cons_succ]
    rw [List.getD_eq_getElem?_getD, List.getElem?_eq_getElem hj]
    rfl
theorem ba_size (a b : ByteArray) : (a.append b).size = a.size + b.size := ByteArray.size_append
theorem joinB_le (l : List ByteArray) (i : Nat) (h : i < l.length) : (joinB (l.take i)).size + (rd l i .empty).size + (if i = 0 then 0 else 1) = (joinB (l.take (i + 1))).size := by
  by_cases e : i = 0
  · subst e
    rw [joinB_one l h, ba_size]; simp
  · rw [joinB_succ l i (by omega) h, ba_size, ba_size, if_neg e]
    have : slash.size = 1 := by decide
    omega
theorem joinB_mono (l : List ByteArray) : ∀ d i, i + d ≤ l.length → (joinB (l.take i)).size ≤ (joinB (l.take (i + d))).size
  | 0, i, _ => Nat.le_refl _
  | d + 1, i, h => by
    have h1 := joinB_mono l d i (by omega)
    have h2 := joinB_le l (i + d) (by omega)
    rw [show i + (d + 1) = i + d + 1 by omega]
    omega
theorem joinB_all (l : List ByteArray) (i : Nat) (h : i ≤ l.length) : (joinB (l.take i)).size ≤ (joinB l).size := by
  have := joinB_mono l (l.length - i) i (by omega)
  rwa [show i + (l.length - i) = l.length by omega, List.take_length] at this
theorem rjoin_ok (l : List ByteArray) : CtOk Try.prog 7 (ct_rjoin l) := CtOk_of KK_ok tab0 (ann1 (inv_rjoin l)) (fn := Try.f7) rfl (fun _ _ => rfl) fun hn => by
  obtain ⟨hl, hs⟩ := hn
  rw [vc_rjoin]
  simp only [Int.toNat_natCast, Nat.zero_add]
  refine ⟨⟨(0 : Nat), [], [0], Nat.zero_le _, trivial, into_mk (by kernel_rfl) (by (repeat' first | exact trivial | exact rfl | apply And.intro)) (by (repeat' first | exact trivial | exact rfl | apply And.intro))⟩, fun z hz => ite2_decide (fun h1 => ?_) (fun h1 => ?_)⟩
  · have hz1 : z < l.length := by omega
    have h2 := joinB_le l z hz1
    have h3 := joinB_all l (z + 1) hz1
    have h2' : (joinB (l.take z)).size + (rd l z (ByteArray.mk #[])).size + (if z = 0 then 0 else 1) = (joinB (l.take (z + 1))).size := h2
    refine ite2_decide (fun h4 => ?_) (fun h4 => ?_)
    · have h5 : ((joinB (l.take z)).append (ByteArray.mk #[(47 : UInt8)])).size = (joinB (l.take z)).size + 1 := ba_size _ _
      rw [if_neg (show ¬ z = 0 by omega)] at h2'
      refine ⟨by omega, ⟨by omega, by omega⟩, hz1, trivial, hz1, by rw [h5]; omega, by unfold i64ok; omega, (z + 1 : Nat), [], [0], by show z + 1 ≤ l.length; omega, by omega, into_mk (by kernel_rfl) ?_ (by (repeat' first | exact trivial | exact rfl | apply And.intro))⟩
      have e := joinB_succ l z (by omega) hz1
      have e : ((joinB (l.take z)).append (ByteArray.mk #[(47 : UInt8)])).append (rd l z (ByteArray.mk #[])) = joinB (l.take (z + 1)) := e.symm
      (repeat' first | exact trivial | exact rfl | exact e | apply And.intro)
    · obtain rfl : z = 0 := by omega
      rw [if_pos rfl] at h2'
      refine ⟨⟨by omega, by omega⟩, hz1, trivial, hz1, by omega, by unfold i64ok; omega, (0 + 1 : Nat), [], [0], by show 0 + 1 ≤ l.length; omega, by omega, into_mk (by kernel_rfl) ?_ (by (repeat' first | exact trivial | exact rfl | apply And.intro))⟩
      have e : (joinB (l.take 0)).append (rd l 0 (ByteArray.mk #[])) = joinB (l.take (0 + 1)) := (joinB_one l hz1).symm
      (repeat' first | exact trivial | exact rfl | exact e | apply And.intro)
  · refine ⟨(), [], [0], trivial, ?_⟩
    have e : joinB (l.take z) = joinB l := by rw [List.take_of_length_le (by omega)]
    (repeat' first | exact trivial | exact rfl | exact e | apply And.intro)
end Go.Proofs.Ytnmidichehjbgaa.T
