/- Split, the program's and the reference's; lists of texts held against one another. -/
import Derived.Test.YtnnpjkpmankeiaaDoorSa
namespace Go.Proofs.YtnnpjkpmankeiaaDoor.T
open Go.Proofs.YtnnpjkpmankeiaaDoor.E
open Go.Proofs.YtnnpjkpmankeiaaDoor.MStr
set_option maxRecDepth 100000
set_option linter.unusedVariables false
/-- What Split answers. -/
def splitB (s : ByteArray) (most : Int) : List ByteArray × Int := if (if most < 0 then 0 else most) < ((pieces s).length : Int) then ([], 31) else if (pieces s).all nameB = true then (pieces s, 0) else ([], 30)
def splitV (s : ByteArray) (most : Int) : VV := .tup [.c (.slc 0 0 (splitB s most).1.length none), .c (.int .i64 (splitB s most).2)]
def ct_split (s : ByteArray) (most : Int) : Ct KK := { need := s.size ≤ 1000000 ∧ i64ok most, pre := [], args := [.c (.str s), i64 most], Y := Unit, ok := fun _ => True, ret := fun _ => splitV s most, post := fun _ => [.arr .str (splitB s most).1] }
def inv_split (s : ByteArray) (most : Int) : Inv KK := { X := Nat, fr := fun i => [.c (.str s), i64 most, .any, .any, .any, .any, .c (.slc 0 0 (pieces s).length none), .any, .any, .any, .any, .any, .any, .any, .any, .any, .any, .c (.slc 0 0 (pieces s).length none), i64 (pieces s).length, i64 i] ++ anys 10, H := fun _ => [.arr .str (pieces s)], ok := fun i => i ≤ (pieces s).length ∧ ((pieces s).take i).all nameB = true, meas := fun i : Nat => (pieces s).length - i }
def ann_split (s : ByteArray) (most : Int) : Ann KK := { loop := fun _ _ _ => some (inv_split s most), cut := fun _ _ _ => none }
def ct_rsplit (s : ByteArray) (most : Int) : Ct KK := { need := s.size ≤ 1000000 ∧ i64ok most, pre := [], args := [.c (.str s), i64 most], Y := Unit, ok := fun _ => True, ret := fun _ => splitV s most, post := fun _ => [.arr .str (splitB s most).1] }
def inv_rsplit (s : ByteArray) : Inv KK := { X := Nat, fr := fun i => [.c (.str s), .any, .any, .any, .any, .any, .c (.slc 0 0 (pieces s).length none), i64 i] ++ anys 21, H := fun _ => [.arr .str (pieces s)], ok := fun i => i ≤ (pieces s).length ∧ ((pieces s).take i).all nameB = true, meas := fun i : Nat => (pieces s).length - i }
def ann_rsplit (s : ByteArray) : Ann KK := { loop := fun _ _ _ => some (inv_rsplit s), cut := fun _ _ _ => none, keep := some 8 }
def ct_eqT (l : List ByteArray) : Ct KK := { need := l.length ≤ 1000000000, pre := [.ro .str l, .ro .str l], args := [.c (.slc 0 0 l.length none), .c (.slc 1 0 l.length none)], Y := Unit, ok := fun _ => True, ret := fun _ => boolv true, post := fun _ => [.gone, .gone] }
def inv_eqT (l : List ByteArray) : Inv KK := { X := Nat, fr := fun i => [.c (.slc 0 0 l.length none), .c (.slc 1 0 l.length none), .any, .any, .any, i64 i] ++ anys 20, H := fun _ => [.ro .str l, .ro .str l], ok := fun i => i ≤ l.length, meas := fun i : Nat => l.length - i }
def ann_eqT (l : List ByteArray) : Ann KK := { loop := fun _ _ _ => some (inv_eqT l), cut := fun _ _ _ => none, keep := some 6 }
def ct_num (n : Int) : Ct KK := { need := i64ok n, pre := [], args := [i64 n], Y := Unit, ok := fun _ => True, ret := fun _ => i64 n, post := fun _ => [] }
def tabS : Tab Tryd.prog KK := ⟨mixed, fun f args H => match f, args with
  | 12, [.one (.c (.str s))] => some (ct_pieces s, [], [])
  | 13, [.one (.c (.str s))] => some (ct_check s, [], [])
  | 10, [.one (.c (.str s))] => some (ct_rpieces s, [], [])
  | 11, [.one (.c (.str s))] => some (ct_rname s, [], [])
  | _, _ => none, fun f args H ct ks τ h => by
    split at h
    · cases h; exact pieces_ok _
    · cases h; exact check_ok _
    · cases h; exact rpieces_ok _
    · cases h; exact rname_ok _
    · cases h⟩
theorem vc_split (s : ByteArray) (most : Int) : evFn tabS (ann_split s most) Tryd.f5 (ct_split s most) = ( s.size ≤ 8796093022206 ∧ Into (K := KK) 0 [] [] [VV.one (V1.c (C.str s))] [] [VV.one (V1.c (C.str s))] [] ∧ ∀ (y : Unit), True → ite2 (decide (max most (0 : Int) < (↑(pieces s).length : Int))) (EndsAs
 0 (ct_split s most) (VV.tup [V1.c C.nils, V1.c (C.int .i64 (31 : Int))]) [Atom.arr Kd.str (pieces s)]) (Enter 0 (inv_split s most) (fun (x : Nat) => True) ([VV.one (V1.c (C.str s)), i64 most, VV.any, VV.any,
 VV.one (V1.c C.nils), i64 (0 : Int), VV.one (V1.c (C.slc 0 0 (pieces s).length none)), VV.any, VV.any, VV.any, VV.one (V1.c (C.str s)), VV.one (V1.c (C.slc 0 0 (pieces s).length none)), VV.one (V1.c (C.slc
 0 0 (pieces s).length none)), i64 (↑(pieces s).length : Int), i64 most, i64 (max most (0 : Int)), boolv false, VV.one (V1.c (C.slc 0 0 (pieces s).length none)), i64 (↑(pieces s).length : Int), i64 (0 :
 Int)] ++ anys 10) [Atom.arr Kd.str (pieces s)] ∧ ∀ (z : Nat), z ≤ (pieces s).length ∧ (List.take z (pieces s)).all nameB = true → ite2 (decide ((↑z : Int) < (↑(pieces s).length : Int))) (((0 : Int) ≤ (↑z
 : Int) ∧ (↑z : Int) < (↑(pieces s).length : Int)) ∧ (↑z : Int).toNat < (pieces s).length ∧ True ∧ (↑z : Int).toNat < (pieces s).length ∧ True ∧ Into (K := KK) 0 [] [] [VV.one (V1.c (C.str (rd (pieces s)
 (↑z : Int).toNat (ByteArray.mk (#[])))))] [Atom.arr Kd.str (pieces s)] [VV.one (V1.c (C.str (rd (pieces s) (↑z : Int).toNat (ByteArray.mk (#[])))))] [] ∧ ∀ (y : Unit), True → ite2 (decide (chk (rd (pieces
 s) (↑z : Int).toNat (ByteArray.mk (#[]))) = (0 : Int))) (i64ok ((↑z : Int) + (1 : Int)) ∧ Enter 0 (inv_split s most) (fun (z' : Nat) => (pieces s).length - z' < (pieces s).length - z) [VV.one (V1.c (C.str
 s)), i64 most, VV.any, VV.any, VV.any, VV.any, VV.one (V1.c (C.slc 0 0 (pieces s).length none)), VV.any, VV.one (V1.c (C.str (rd (pieces s) (↑z : Int).toNat (ByteArray.mk (#[]))))), i64 (chk (rd (pieces
 s) (↑z : Int).toNat (ByteArray.mk (#[])))), VV.any, VV.any, VV.any, VV.any, VV.any, VV.any, VV.any, VV.one (V1.c (C.slc 0 0 (pieces s).length none)), i64 (↑(pieces s).length : Int), i64 ((↑z : Int) + (1
 : Int)), boolv true, VV.one (V1.c (C.ptr 0 (↑z : Int).toNat 0)), VV.one (V1.c (C.str (rd (pieces s) (↑z : Int).toNat (ByteArray.mk (#[]))))), VV.one (V1.c (C.str (rd (pieces s) (↑z : Int).toNat (ByteArray.mk
 (#[]))))), i64 (chk (rd (pieces s) (↑z : Int).toNat (ByteArray.mk (#[])))), i64 (chk (rd (pieces s) (↑z : Int).toNat (ByteArray.mk (#[])))), boolv false, VV.any, i64 ((↑z : Int) + (1 : Int)), VV.any] [Atom.arr
 Kd.str (pieces s)]) (EndsAs 0 (ct_split s most) (VV.tup [V1.c C.nils, V1.c (C.int .i64 (chk (rd (pieces s) (↑z : Int).toNat (ByteArray.mk (#[])))))]) [Atom.arr Kd.str (pieces s)])) (EndsAs 0 (ct_split
 s most) (VV.tup [V1.c (C.slc 0 0 (pieces s).length none), V1.c (C.int .i64 (0 : Int))]) [Atom.arr Kd.str (pieces s)]))) := by kernel_rfl
theorem vc_rsplit (s : ByteArray) (most : Int) : evFn tabS (ann_rsplit s) Tryd.f4 (ct_rsplit s most) = ( ite2 (decide (most < (0 : Int))) (s.size ≤ 1000000 ∧ Into (K := KK) 0 [] [] [VV.one (V1.c (C.str s))] [] [VV.one (V1.c (C.str s))] [] ∧ ∀ (y : Unit), True → ite2 (decide ((0 : Int) < (↑(pieces s).length
 : Int))) (EndsAs 0 (ct_rsplit s most) (VV.tup [V1.c C.nils, V1.c (C.int .i64 (31 : Int))]) [Atom.arr Kd.str (pieces s)]) (Enter 0 (inv_rsplit s) (fun (x : Nat) => True) ([VV.one (V1.c (C.str s)), i64 (0
 : Int), VV.any, VV.any, VV.one (V1.c C.nils), i64 (0 : Int), VV.one (V1.c (C.slc 0 0 (pieces s).length none)), i64 (0 : Int)] ++ anys 21) [Atom.arr Kd.str (pieces s)] ∧ ∀ (z : Nat), z ≤ (pieces s).length
 ∧ (List.take z (pieces s)).all nameB = true → ite2 (decide ((↑z : Int) < (↑(pieces s).length : Int))) (((0 : Int) ≤ (↑z : Int) ∧ (↑z : Int) < (↑(pieces s).length : Int)) ∧ (↑z : Int).toNat < (pieces s).length
 ∧ True ∧ (↑z : Int).toNat < (pieces s).length ∧ ByteArray.size (rd (pieces s) (↑z : Int).toNat (ByteArray.mk (#[]))) ≤ 1000000 ∧ Into (K := KK) 0 [] [] [VV.one (V1.c (C.str (rd (pieces s) (↑z : Int).toNat
 (ByteArray.mk (#[])))))] [Atom.arr Kd.str (pieces s)] [VV.one (V1.c (C.str (rd (pieces s) (↑z : Int).toNat (ByteArray.mk (#[])))))] [] ∧ ∀ (y : Unit), True → ite2 (nameB (rd (pieces s) (↑z : Int).toNat
 (ByteArray.mk (#[])))) (i64ok ((↑z : Int) + (1 : Int)) ∧ Enter 0 (inv_rsplit s) (fun (z' : Nat) => (pieces s).length - z' < (pieces s).length - z) ([VV.one (V1.c (C.str s)), VV.any, VV.any, VV.any, VV.any,
 VV.any, VV.one (V1.c (C.slc 0 0 (pieces s).length none)), i64 ((↑z : Int) + (1 : Int))] ++ anys 21) [Atom.arr Kd.str (pieces s)]) (EndsAs 0 (ct_rsplit s most) (VV.tup [V1.c C.nils, V1.c (C.int .i64 (30
 : Int))]) [Atom.arr Kd.str (pieces s)])) (EndsAs 0 (ct_rsplit s most) (VV.tup [V1.c (C.slc 0 0 (pieces s).length none), V1.c (C.int .i64 (0 : Int))]) [Atom.arr Kd.str (pieces s)]))) (s.size ≤ 1000000 ∧
 Into (K := KK) 0 [] [] [VV.one (V1.c (C.str s))] [] [VV.one (V1.c (C.str s))] [] ∧ ∀ (y : Unit), True → ite2 (decide (most < (↑(pieces s).length : Int))) (EndsAs 0 (ct_rsplit s most) (VV.tup [V1.c C.nils,
 V1.c (C.int .i64 (31 : Int))]) [Atom.arr Kd.str (pieces s)]) (Enter 0 (inv_rsplit s) (fun (x : Nat) => True) ([VV.one (V1.c (C.str s)), i64 most, VV.any, VV.any, VV.one (V1.c C.nils), i64 (0 : Int), VV.one
 (V1.c (C.slc 0 0 (pieces s).length none)), i64 (0 : Int)] ++ anys 21) [Atom.arr Kd.str (pieces s)] ∧ ∀ (z : Nat), z ≤ (pieces s).length ∧ (List.take z (pieces s)).all nameB = true → ite2 (decide ((↑z :
 Int) < (↑(pieces s).length : Int))) (((0 : Int) ≤ (↑z : Int) ∧ (↑z : Int) < (↑(pieces s).length : Int)) ∧ (↑z : Int).toNat < (pieces s).length ∧ True ∧ (↑z : Int).toNat < (pieces s).length ∧ ByteArray.size
 (rd (pieces s) (↑z : Int).toNat (ByteArray.mk (#[]))) ≤ 1000000 ∧ Into (K := KK) 0 [] [] [VV.one (V1.c (C.str (rd (pieces s) (↑z : Int).toNat (ByteArray.mk (#[])))))] [Atom.arr Kd.str (pieces s)] [VV.one
 (V1.c (C.str (rd (pieces s) (↑z : Int).toNat (ByteArray.mk (#[])))))] [] ∧ ∀ (y : Unit), True → ite2 (nameB (rd (pieces s) (↑z : Int).toNat (ByteArray.mk (#[])))) (i64ok ((↑z : Int) + (1 : Int)) ∧ Enter
 0 (inv_rsplit s) (fun (z' : Nat) => (pieces s).length - z' < (pieces s).length - z) ([VV.one (V1.c (C.str s)), VV.any, VV.any, VV.any, VV.any, VV.any, VV.one (V1.c (C.slc 0 0 (pieces s).length none)),
 i64 ((↑z : Int) + (1 : Int))] ++ anys 21) [Atom.arr Kd.str (pieces s)]) (EndsAs 0 (ct_rsplit s most) (VV.tup [V1.c C.nils, V1.c (C.int .i64 (30 : Int))]) [Atom.arr Kd.str (pieces s)])) (EndsAs 0 (ct_rsplit
 s most) (VV.tup [V1.c (C.slc 0 0 (pieces s).length none), V1.c (C.int .i64 (0 : Int))]) [Atom.arr Kd.str (pieces s)])))) := by kernel_rfl
theorem vc_eqT (l : List ByteArray) : evFn tab0 (ann_eqT l) Tryd.f7 (ct_eqT l) = ( ite2 (decide ((↑l.length : Int) = (↑l.length : Int))) (Enter 2 (inv_eqT l) (fun (x : Nat) => True) ([VV.one (V1.c (C.slc 0 0 l.length none)), VV.one (V1.c (C.slc 1 0 l.length none)), VV.any, VV.any, boolv
 false, i64 (0 : Int)] ++ anys 20) [Atom.ro Kd.str l, Atom.ro Kd.str l] ∧ ∀ (z : Nat), z ≤ l.length → ite2 (decide ((↑z : Int) < (↑l.length : Int))) (((0 : Int) ≤ (↑z : Int) ∧ (↑z : Int) < (↑l.length :
 Int)) ∧ (↑z : Int).toNat < l.length ∧ True ∧ (↑z : Int).toNat < l.length ∧ ((0 : Int) ≤ (↑z : Int) ∧ (↑z : Int) < (↑l.length : Int)) ∧ (↑z : Int).toNat < l.length ∧ True ∧ (↑z : Int).toNat < l.length ∧
 ite2 (decide (ByteArray.toList (rd l (↑z : Int).toNat (ByteArray.mk (#[]))) = ByteArray.toList (rd l (↑z : Int).toNat (ByteArray.mk (#[]))))) (True ∧ i64ok ((↑z : Int) + (1 : Int)) ∧ Enter 2 (inv_eqT l)
 (fun (z' : Nat) => l.length - z' < l.length - z) ([VV.one (V1.c (C.slc 0 0 l.length none)), VV.one (V1.c (C.slc 1 0 l.length none)), VV.any, VV.any, VV.any, i64 ((↑z : Int) + (1 : Int))] ++ anys 20) [Atom.ro
 Kd.str l, Atom.ro Kd.str l]) (True ∧ EndsAs 2 (ct_eqT l) (boolv false) [Atom.ro Kd.str l, Atom.ro Kd.str l])) (EndsAs 2 (ct_eqT l) (boolv true) [Atom.ro Kd.str l, Atom.ro Kd.str l])) (EndsAs 2 (ct_eqT
 l) (boolv false) [Atom.ro Kd.str l, Atom.ro Kd.str l])) := by kernel_rfl
theorem vc_num (n : Int) : evFn tab0 ann0 Tryd.f6 (ct_num n) = ( EndsAs 0 (ct_num n) (i64 n) []) := by kernel_rfl
theorem ite2_mk' {b : Bool} {p q : Prop} (h1 : b = true → p) (h2 : b = false → q) : ite2 b p q := by
  cases b
  · exact h2 rfl
  · exact h1 rfl
theorem mx_if (most : Int) : (if most < 0 then 0 else most) = max most 0 := by split <;> omega
theorem split_deep {s : ByteArray} {most : Int} (h : max most 0 < ((pieces s).length : Int)) : splitB s most = ([], 31) := by unfold splitB; rw [mx_if, if_pos h]
theorem split_bad {s : ByteArray} {most : Int} (h : ¬ max most 0 < ((pieces s).length : Int)) {i : Nat} (hi : i < (pieces s).length) (hb : nameB (rd (pieces s) i ⟨#[]⟩) = false) : splitB s most = ([], 30) := by
  unfold splitB
  rw [mx_if, if_neg h, if_neg]
  intro ha
  have := List.all_eq_true.1 ha (rd (pieces s) i ⟨#[]⟩) (by rw [rd, List.getD_eq_getElem?_getD, List.getElem?_eq_getElem hi]; exact List.getElem_mem hi)
  rw [hb] at this; cases this
theorem split_good {s : ByteArray} {most : Int} (h : ¬ max most 0 < ((pieces s).length : Int)) {i : Nat} (hi : ¬ i < (pieces s).length) (hb : ((pieces s).take i).all nameB = true) : splitB s most = (pieces s, 0) := by
  rw [List.take_of_length_le (by omega)] at hb
  unfold splitB
  rw [mx_if, if_neg h, if_pos hb]
theorem take_all {l : List ByteArray} {i : Nat} (hi : i < l.length) (h : (l.take i).all nameB = true) (hb : nameB (rd l i ⟨#[]⟩) = true) : (l.take (i + 1)).all nameB = true := by
  rw [List.take_succ_eq_append_getElem hi, List.all_append, h]
  have e : l[i] = rd l i ⟨#[]⟩ := by rw [rd, List.getD_eq_getElem?_getD, List.getElem?_eq_getElem hi]; rfl
  simp [e, hb]
theorem split_ok (s : ByteArray) (most : Int) : CtOk Tryd.prog 5 (ct_split s most) := CtOk_of KK_ok tabS (ann_split s most) (fn := Tryd.f5) rfl (fun _ _ => rfl) fun hn => by
  obtain ⟨hs, hm⟩ := hn
  have hpl := pieces_few s _ hs
  have err : ∀ e, splitB s most = ([], e) → EndsAs 0 (ct_split s most) (.tup [.c .nils, .c (.int .i64 e)]) [.arr Kd.str (pieces s)] := fun e he => by
    have q1 : (splitB s most).1.length = 0 := by rw [he]; rfl
    have q2 : e = (splitB s most).2 := by rw [he]
    have q3 : [] = (splitB s most).1 := by rw [he]
    exact ⟨(), [.str], [1], trivial, by (repeat' first | exact trivial | exact rfl | exact q1 | exact q2 | exact q3 | apply And.intro)⟩
  have fine : splitB s most = (pieces s, 0) → EndsAs 0 (ct_split s most) (.tup [.c (.slc 0 0 (pieces s).length none), .c (.int .i64 0)]) [.arr Kd.str (pieces s)] := fun he => by
    have q1 : (pieces s).length = (splitB s most).1.length := by rw [he]
    have q2 : 0 = (splitB s most).2 := by rw [he]
    have q3 : pieces s = (splitB s most).1 := by rw [he]
    exact ⟨(), [], [0], trivial, by (repeat' first | exact trivial | exact rfl | exact q1 | exact q2 | exact q3 | apply And.intro)⟩
  rw [vc_split]
  simp only [Int.toNat_natCast, Nat.zero_add, Nat.add_zero]
  refine ⟨by omega, into_mk (by kernel_rfl) (by (repeat' first | exact trivial | exact rfl | apply And.intro)) (by (repeat' first | exact trivial | exact rfl | apply And.intro)), fun _ _ => ite2_decide (fun h => err _ (split_deep h)) (fun h => ⟨⟨(0 : Nat), [], [0], ⟨Nat.zero_le _, rfl⟩, trivial, into_mk (by kernel_rfl) (by (repeat' first | exact trivial | exact rfl | apply And.intro)) (by (repeat' first | exact trivial | exact rfl | apply And.intro))⟩, ?_⟩)⟩
  rintro i ⟨hi, ha⟩
  refine ite2_decide (fun hl => ?_) (fun hl => fine (split_good h (by omega) ha))
  have hl1 : i < (pieces s).length := by omega
  refine ⟨⟨by omega, by omega⟩, hl1, trivial, hl1, trivial, into_mk (by kernel_rfl) (by (repeat' first | exact trivial | exact rfl | apply And.intro)) (by (repeat' first | exact trivial | exact rfl | apply And.intro)), fun _ _ => ite2_decide (fun hc => ?_) (fun hc => ?_)⟩
  · have hb : nameB (rd (pieces s) i ⟨#[]⟩) = true := by
      cases hb : nameB (rd (pieces s) i ⟨#[]⟩) with
      | true => rfl
      | false => exfalso; unfold chk at hc; rw [hb] at hc; simp at hc
    exact ⟨by unfold i64ok; omega, (i + 1 : Nat), [], [0], ⟨hl1, take_all hl1 ha hb⟩, by omega, into_mk (by kernel_rfl) (by (repeat' first | exact trivial | exact rfl | apply And.intro)) (by (repeat' first | exact trivial | exact rfl | apply And.intro))⟩
  · have hb : nameB (rd (pieces s) i ⟨#[]⟩) = false := by
      cases hb : nameB (rd (pieces s) i ⟨#[]⟩) with
      | true => exfalso; unfold chk at hc; rw [hb] at hc; simp at hc
      | false => rfl
    have e : chk (rd (pieces s) i ⟨#[]⟩) = 30 := by unfold chk; rw [hb]; rfl
    rw [e]
    exact err _ (split_bad h hl1 hb)
theorem rsplit_ok (s : ByteArray) (most : Int) : CtOk Tryd.prog 4 (ct_rsplit s most) := CtOk_of KK_ok tabS (ann_rsplit s) (fn := Tryd.f4) rfl (fun _ _ => rfl) fun hn => by
  obtain ⟨hs, hm⟩ := hn
  have hpl := pieces_few s _ hs
  have err : ∀ e, splitB s most = ([], e) → EndsAs 0 (ct_rsplit s most) (.tup [.c .nils, .c (.int .i64 e)]) [.arr Kd.str (pieces s)] := fun e he => by
    have q1 : (splitB s most).1.length = 0 := by rw [he]; rfl
    have q2 : e = (splitB s most).2 := by rw [he]
    have q3 : [] = (splitB s most).1 := by rw [he]
    exact ⟨(), [.str], [1], trivial, by (repeat' first | exact trivial | exact rfl | exact q1 | exact q2 | exact q3 | apply And.intro)⟩
  have fine : splitB s most = (pieces s, 0) → EndsAs 0 (ct_rsplit s most) (.tup [.c (.slc 0 0 (pieces s).length none), .c (.int .i64 0)]) [.arr Kd.str (pieces s)] := fun he => by
    have q1 : (pieces s).length = (splitB s most).1.length := by rw [he]
    have q2 : 0 = (splitB s most).2 := by rw [he]
    have q3 : pieces s = (splitB s most).1 := by rw [he]
    exact ⟨(), [], [0], trivial, by (repeat' first | exact trivial | exact rfl | exact q1 | exact q2 | exact q3 | apply And.intro)⟩
  have hsz : ∀ i, ByteArray.size (rd (pieces s) i ⟨#[]⟩) ≤ 1000000 := fun i => by
    rcases Nat.lt_or_ge i (pieces s).length with hi | hi
    · have := pieces_size s (rd (pieces s) i ⟨#[]⟩) (by rw [rd, List.getD_eq_getElem?_getD, List.getElem?_eq_getElem hi]; exact List.getElem_mem hi)
      omega
    · rw [rd, List.getD_eq_getElem?_getD, List.getElem?_eq_none hi]; exact Nat.zero_le _
  rw [vc_rsplit]
  simp only [Int.toNat_natCast, Nat.zero_add, Nat.add_zero]
  refine ite2_decide (fun hneg => ?_) (fun hneg => ?_)
  · have e0 : max most 0 = 0 := by omega
    refine ⟨hs, into_mk (by kernel_rfl) (by (repeat' first | exact trivial | exact rfl | apply And.intro)) (by (repeat' first | exact trivial | exact rfl | apply And.intro)), fun _ _ => ite2_decide (fun h => err _ (split_deep (by rw [e0]; exact h))) (fun h => ⟨⟨(0 : Nat), [], [0], ⟨Nat.zero_le _, rfl⟩, trivial, into_mk (by kernel_rfl) (by (repeat' first | exact trivial | exact rfl | apply And.intro)) (by (repeat' first | exact trivial | exact rfl | apply And.intro))⟩, ?_⟩)⟩
    rw [← e0] at h
    rintro i ⟨hi, ha⟩
    refine ite2_decide (fun hl => ?_) (fun hl => fine (split_good h (by omega) ha))
    have hl1 : i < (pieces s).length := by omega
    exact ⟨⟨by omega, by omega⟩, hl1, trivial, hl1, hsz i, into_mk (by kernel_rfl) (by (repeat' first | exact trivial | exact rfl | apply And.intro)) (by (repeat' first | exact trivial | exact rfl | apply And.intro)), fun _ _ => ite2_mk' (fun hb => ⟨by unfold i64ok; omega, (i + 1 : Nat), [], [0], ⟨hl1, take_all hl1 ha hb⟩, by omega, into_mk (by kernel_rfl) (by (repeat' first | exact trivial | exact rfl | apply And.intro)) (by (repeat' first | exact trivial | exact rfl | apply And.intro))⟩) (fun hb => err _ (split_bad h hl1 hb))⟩
  · have e0 : max most 0 = most := by omega
    refine ⟨hs, into_mk (by kernel_rfl) (by (repeat' first | exact trivial | exact rfl | apply And.intro)) (by (repeat' first | exact trivial | exact rfl | apply And.intro)), fun _ _ => ite2_decide (fun h => err _ (split_deep (by rw [e0]; exact h))) (fun h => ⟨⟨(0 : Nat), [], [0], ⟨Nat.zero_le _, rfl⟩, trivial, into_mk (by kernel_rfl) (by (repeat' first | exact trivial | exact rfl | apply And.intro)) (by (repeat' first | exact trivial | exact rfl | apply And.intro))⟩, ?_⟩)⟩
    rw [← e0] at h
    rintro i ⟨hi, ha⟩
    refine ite2_decide (fun hl => ?_) (fun hl => fine (split_good h (by omega) ha))
    have hl1 : i < (pieces s).length := by omega
    exact ⟨⟨by omega, by omega⟩, hl1, trivial, hl1, hsz i, into_mk (by kernel_rfl) (by (repeat' first | exact trivial | exact rfl | apply And.intro)) (by (repeat' first | exact trivial | exact rfl | apply And.intro)), fun _ _ => ite2_mk' (fun hb => ⟨by unfold i64ok; omega, (i + 1 : Nat), [], [0], ⟨hl1, take_all hl1 ha hb⟩, by omega, into_mk (by kernel_rfl) (by (repeat' first | exact trivial | exact rfl | apply And.intro)) (by (repeat' first | exact trivial | exact rfl | apply And.intro))⟩) (fun hb => err _ (split_bad h hl1 hb))⟩
theorem eqT_ok (l : List ByteArray) : CtOk Tryd.prog 7 (ct_eqT l) := CtOk_of KK_ok tab0 (ann_eqT l) (fn := Tryd.f7) rfl (fun _ _ => rfl) fun hn => by
  have hn : l.length ≤ 1000000000 := hn
  rw [vc_eqT]
  simp only [Int.toNat_natCast, Nat.zero_add, Nat.add_zero]
  refine ite2_decide (fun _ => ⟨⟨(0 : Nat), [], [0, 1], Nat.zero_le _, trivial, into_mk (by kernel_rfl) (by (repeat' first | exact trivial | exact rfl | apply And.intro)) (by (repeat' first | exact trivial | exact rfl | apply And.intro))⟩, fun i hi => ite2_decide (fun hl => ?_) (fun hl => ⟨(), [], [0, 1], trivial, by (repeat' first | exact trivial | exact rfl | apply And.intro)⟩)⟩) (fun h => absurd (by trivial) h)
  have hl1 : i < l.length := by omega
  exact ⟨⟨by omega, by omega⟩, hl1, trivial, hl1, ⟨by omega, by omega⟩, hl1, trivial, hl1, ite2_decide (fun _ => ⟨trivial, by unfold i64ok; omega, (i + 1 : Nat), [], [0, 1], hl1, by omega, into_mk (by kernel_rfl) (by (repeat' first | exact trivial | exact rfl | apply And.intro)) (by (repeat' first | exact trivial | exact rfl | apply And.intro))⟩) (fun h => absurd (by trivial) h)⟩
theorem num_ok (n : Int) : CtOk Tryd.prog 6 (ct_num n) := CtOk_of KK_ok tab0 ann0 (fn := Tryd.f6) rfl (fun _ _ => rfl) fun hn => by
  rw [vc_num]
  exact ⟨(), [], [], trivial, by (repeat' first | exact trivial | exact rfl | apply And.intro)⟩
end Go.Proofs.YtnnpjkpmankeiaaDoor.T
