/- Texts as bytes: the program's and the reference's. -/
import Derived.Test.YtndlpbheifalhaaGreatDoorWa
namespace Go.Proofs.YtndlpbheifalhaaGreatDoor.T
open Go.Proofs.YtndlpbheifalhaaGreatDoor.E
set_option maxRecDepth 100000
set_option linter.unusedVariables false
def wordsF (s : ByteArray) : List Int := numF 9 s.size ++ strI s
def ct_putT (x : RS) (s : ByteArray) (φ : Bag KK) : Ct KK := { need := Has φ x ∧ s.size ≤ 1000000, pre := [.bag φ], args := [.c (.rs 5 1 x), .c (.str s)], Y := Unit, ok := fun _ => True, ret := fun _ => .c (.slc 1 0 (cont φ x ++ wordsF s).length none), post := fun _ => [.bag φ, .arr .u8 (cont φ x ++ wordsF s)] }
def ct_words (s : ByteArray) : Ct KK := { need := s.size ≤ 1000000, pre := [], args := [.c (.str s)], Y := Unit, ok := fun _ => True, ret := fun _ => .c (.slc 0 0 (wordsF s).length none), post := fun _ => [.arr .u8 (wordsF s)] }
def inv_words (s : ByteArray) : Inv KK := { X := Nat, fr := fun i => [.c (.str s), .any, .any, .c (.slc 0 0 (numF 9 s.size ++ (strI s).take i).length none), i64 i] ++ anys 17, H := fun i => [.arr .u8 (numF 9 s.size ++ (strI s).take i)], ok := fun i => i ≤ s.size, meas := fun i : Nat => s.size - i }
def tabW : Tab Tryz.prog KK := ⟨mixed, fun f args H => match f, args with
  | 7, [.one (.c (.rs _ _ x)), .one (.c (.int _ n))] => match at_ H 0 with
    | .bag φ => some (ct_putU x n φ, [], [0])
    | _ => none
  | 11, [.one (.c (.int _ n))] => some (ct_num n, [], [])
  | _, _ => none, fun f args H ct ks τ h => by
    split at h
    · split at h
      · cases h; exact putU_ok _ _ _
      · cases h
    · cases h; exact num_ok _
    · cases h⟩
theorem vc_putT (x : RS) (s : ByteArray) (φ : Bag KK) : evFn tabW ann0 Tryz.f8 (ct_putT x s φ) = ( (Has φ x ∧ (0 : Int) ≤ IntKind.wrap .u64 (↑s.size : Int) ∧ IntKind.wrap .u64 (↑s.size : Int) < (18446744073709551616 : Int)) ∧ Into (K := KK) 0 [] [0] [VV.one (V1.c (C.rs 5 1 x)), VV.one (V1.c (C.int
 .u64 (IntKind.wrap .u64 (↑s.size : Int))))] [Atom.bag φ] [VV.one (V1.c (C.rs 5 1 x)), VV.one (V1.c (C.int .u64 (IntKind.wrap .u64 (↑s.size : Int))))] [Atom.bag φ] ∧ ∀ (y : Unit), True → (cont φ x ++ numF
 9 (IntKind.wrap .u64 (↑s.size : Int))).length = (cont φ x ++ numF 9 (IntKind.wrap .u64 (↑s.size : Int))).length ∧ ∃ (ys : List (Int)), (List.map (KK.enc Kd.u8) ys).flatten = List.map (fun (b : UInt8) =>
 C.int .u8 (↑(↑b.toBitVec.toFin : Nat) : Int)) s.data.toList ∧ ((cont φ x ++ numF 9 (IntKind.wrap .u64 (↑s.size : Int))).length + ys.length) * 1 ≤ 140737488355328 ∧ EndsAs 1 (ct_putT x s φ) (VV.one (V1.c
 (C.slc 2 0 ((cont φ x ++ numF 9 (IntKind.wrap .u64 (↑s.size : Int))).length + ys.length) none))) [Atom.bag φ, Atom.gone, Atom.arr Kd.u8 (cont φ x ++ numF 9 (IntKind.wrap .u64 (↑s.size : Int)) ++ ys)]) := by kernel_rfl
theorem vc_words (s : ByteArray) : evFn tabW (ann1 (inv_words s)) Tryz.f12 (ct_words s) = ( ((0 : Int) ≤ IntKind.wrap .u64 (↑s.size : Int) ∧ IntKind.wrap .u64 (↑s.size : Int) < (18446744073709551616 : Int)) ∧ Into (K := KK) 0 [] [] [VV.one (V1.c (C.int .u64 (IntKind.wrap .u64 (↑s.size : Int))))]
 [] [VV.one (V1.c (C.int .u64 (IntKind.wrap .u64 (↑s.size : Int))))] [] ∧ ∀ (y : Unit), True → Enter 0 (inv_words s) (fun (x : Nat) => True) ([VV.one (V1.c (C.str s)), VV.any, VV.one (V1.c C.nils), VV.one
 (V1.c (C.slc 0 0 (numF 9 (IntKind.wrap .u64 (↑s.size : Int))).length none)), i64 (0 : Int), VV.one (V1.c (C.str s)), i64 (↑s.size : Int), VV.one (V1.c (C.int .u64 (IntKind.wrap .u64 (↑s.size : Int)))),
 VV.one (V1.c (C.slc 0 0 (numF 9 (IntKind.wrap .u64 (↑s.size : Int))).length none))] ++ anys 13) [Atom.arr Kd.u8 (numF 9 (IntKind.wrap .u64 (↑s.size : Int)))] ∧ ∀ (z : Nat), z ≤ s.size → ite2 (decide ((↑z
 : Int) < (↑s.size : Int))) (((0 : Int) ≤ (↑z : Int) ∧ (↑z : Int) < (↑s.size : Int)) ∧ (numF 9 (↑s.size : Int) ++ List.take z (strI s)).length = (numF 9 (↑s.size : Int) ++ List.take z (strI s)).length ∧
 (1 ≤ 1 ∧ True) ∧ ((numF 9 (↑s.size : Int) ++ List.take z (strI s)).length + 1) * 1 ≤ 140737488355328 ∧ i64ok ((↑z : Int) + (1 : Int)) ∧ Enter 0 (inv_words s) (fun (z' : Nat) => s.size - z' < s.size - z)
 [VV.one (V1.c (C.str s)), VV.any, VV.any, VV.one (V1.c (C.slc 2 0 ((numF 9 (↑s.size : Int) ++ List.take z (strI s)).length + 1) none)), i64 ((↑z : Int) + (1 : Int)), VV.any, VV.any, VV.any, VV.any, i64
 (↑z : Int), VV.one (V1.c (C.str s)), i64 (↑s.size : Int), boolv true, i64 (↑z : Int), i64 ((↑z : Int) + (1 : Int)), VV.one (V1.c (C.slc 0 0 (numF 9 (↑s.size : Int) ++ List.take z (strI s)).length none)),
 VV.one (V1.c (C.str s)), i64 (↑z : Int), VV.one (V1.c (C.int .u8 (bt s (↑z : Int).toNat))), VV.one (V1.c (C.slc 1 0 1 none)), VV.one (V1.c (C.slc 2 0 ((numF 9 (↑s.size : Int) ++ List.take z (strI s)).length
 + 1) none)), VV.any] [Atom.gone, Atom.arr Kd.u8 [bt s (↑z : Int).toNat], Atom.arr Kd.u8 (numF 9 (↑s.size : Int) ++ List.take z (strI s) ++ [bt s (↑z : Int).toNat])]) (EndsAs 0 (ct_words s) (VV.one (V1.c
 (C.slc 0 0 (numF 9 (↑s.size : Int) ++ List.take z (strI s)).length none))) [Atom.arr Kd.u8 (numF 9 (↑s.size : Int) ++ List.take z (strI s))])) := by kernel_rfl
theorem putT_ok (x : RS) (s : ByteArray) (φ : Bag KK) : CtOk Tryz.prog 8 (ct_putT x s φ) := CtOk_of KK_ok tabW ann0 (fn := Tryz.f8) rfl (fun _ _ => rfl) fun hn => by
  obtain ⟨hx, h0⟩ := hn
  rw [vc_putT]
  have hw : IntKind.wrap .u64 (s.size : Int) = s.size := by rw [w64, Int.emod_eq_of_lt (by omega) (by omega)]
  have hlen := numF_len 9 (s.size : Int)
  have hs := strI_len s
  have hc := hx.2
  have hq : cont φ x ++ numF 9 s.size ++ strI s = cont φ x ++ wordsF s := List.append_assoc _ _ _
  have hq2 : (cont φ x ++ numF 9 s.size).length + (strI s).length = (cont φ x ++ wordsF s).length := by rw [← hq]; simp [Nat.add_assoc]
  rw [hw]
  refine ⟨⟨hx, by omega, by omega⟩, into_mk (by kernel_rfl) (by (repeat' first | exact trivial | exact rfl | apply And.intro)) (by (repeat' first | exact trivial | exact rfl | apply And.intro)), fun _ _ => ⟨rfl, strI s, flat_strI s, ?_, (), [], [0, 2], trivial, by (repeat' first | exact trivial | exact rfl | exact hq | exact hq2 | apply And.intro)⟩⟩
  simp only [List.length_append]
  omega
theorem strI_rd (s : ByteArray) (z : Nat) (h : z < s.size) : rd (strI s) z 0 = bt s z := by
  simp [strI, bt, rd, List.getD_eq_getElem?_getD, List.getElem?_map, Array.getElem?_toList]
  cases s.data[z]? <;> rfl
theorem words_ok (s : ByteArray) : CtOk Tryz.prog 12 (ct_words s) := CtOk_of KK_ok tabW (ann1 (inv_words s)) (fn := Tryz.f12) rfl (fun _ _ => rfl) fun hn => by
  have h0 : s.size ≤ 1000000 := hn
  rw [vc_words]
  have hw : IntKind.wrap .u64 (s.size : Int) = s.size := by rw [w64, Int.emod_eq_of_lt (by omega) (by omega)]
  have hlen := numF_len 9 (s.size : Int)
  have hs := strI_len s
  have hq : numF 9 s.size = numF 9 s.size ++ (strI s).take 0 := by simp
  have hq2 : (numF 9 s.size).length = (numF 9 s.size ++ (strI s).take 0).length := by simp
  rw [hw]
  simp only [Int.toNat_natCast]
  refine ⟨⟨by omega, by omega⟩, into_mk (by kernel_rfl) (by (repeat' first | exact trivial | exact rfl | apply And.intro)) (by (repeat' first | exact trivial | exact rfl | apply And.intro)), fun _ _ => ⟨⟨(0 : Nat), [], [0], Nat.zero_le _, trivial, into_mk (by kernel_rfl) (by (repeat' first | exact trivial | exact rfl | exact hq2 | apply And.intro)) (by (repeat' first | exact trivial | exact rfl | exact hq | apply And.intro))⟩, fun z hz => ?_⟩⟩
  refine ite2_decide (fun hl => ?_) (fun hl => ?_)
  · have hz1 : z < (strI s).length := by omega
    have e : numF 9 s.size ++ (strI s).take z ++ [bt s z] = numF 9 s.size ++ (strI s).take (z + 1) := by rw [take_succ_rd hz1, strI_rd s z (by omega), List.append_assoc]
    have e2 : (numF 9 s.size ++ (strI s).take z).length + 1 = (numF 9 s.size ++ (strI s).take (z + 1)).length := by rw [← e]; simp [Nat.add_assoc]
    have b1 : ((strI s).take z).length ≤ s.size := by rw [List.length_take]; omega
    exact ⟨⟨by omega, by omega⟩, trivial, ⟨Nat.le_refl _, trivial⟩, by rw [List.length_append]; omega, by unfold i64ok; omega, (z + 1 : Nat), [], [2], by show z + 1 ≤ s.size; omega, by omega, into_mk (by kernel_rfl) (by (repeat' first | exact trivial | exact rfl | exact e2 | apply And.intro)) (by (repeat' first | exact trivial | exact rfl | exact e | apply And.intro))⟩
  · have e : numF 9 s.size ++ (strI s).take z = wordsF s := by rw [List.take_of_length_le (by omega)]; rfl
    have e2 : (numF 9 s.size ++ (strI s).take z).length = (wordsF s).length := by rw [e]
    exact ⟨(), [], [0], trivial, by (repeat' first | exact trivial | exact rfl | exact e | exact e2 | apply And.intro)⟩
end Go.Proofs.YtndlpbheifalhaaGreatDoor.T
