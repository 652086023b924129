/- The law of Join holds. -/
import Derived.Test.YtnmidichehjbgaaTl
namespace Go.Proofs.Ytnmidichehjbgaa.T
open Go.Proofs.Ytnmidichehjbgaa.E
set_option maxRecDepth 100000
set_option linter.unusedVariables false
theorem ite2_tt {T F : Prop} (h : T) : ite2 true T F := h
theorem ite2_ff {T F : Prop} (h : F) : ite2 false T F := h
theorem upto_zero (l : List ByteArray) : upto l 0 = l := by simp [upto]
theorem upto_len (l : List ByteArray) (i : Nat) (h : i ≤ l.length) : (upto l i).length = l.length := by simp [upto]; omega
theorem upto_rd (l : List ByteArray) (z : Nat) (h : z < l.length) (d : ByteArray) : rd (upto l z ++ words 40) z d = rd l z d := by
  have h1 : ((l.take z).map (fun s => s ++ ext_)).length = z := by simp; omega
  unfold rd upto
  rw [List.getD_eq_getElem?_getD, List.getD_eq_getElem?_getD, List.append_assoc, List.getElem?_append_right (by omega), h1, Nat.sub_self, List.getElem?_append_left (by simp; omega), List.getElem?_drop]
  simp
theorem upto_set (l : List ByteArray) (z : Nat) (h : z < l.length) (x : ByteArray) (hx : x = (rd l z .empty).append ext_) : (upto l z ++ words 40).set z x = upto l (z + 1) ++ words 40 := by
  subst hx
  have e : l.drop z = rd l z .empty :: l.drop (z + 1) := by
    rw [List.drop_eq_getElem_cons h]; unfold rd; rw [List.getD_eq_getElem?_getD, List.getElem?_eq_getElem h]; rfl
  have h1 : ((l.take z).map (fun s => s ++ ext_)).length = z := by simp; omega
  have e2 : l.take (z + 1) = l.take z ++ [rd l z .empty] := by
    rw [List.take_succ_eq_append_getElem h]; unfold rd; rw [List.getD_eq_getElem?_getD, List.getElem?_eq_getElem h]; rfl
  unfold upto
  rw [e, e2, List.map_append, List.append_assoc, List.append_assoc, List.append_assoc]
  rw [List.set_append_right _ _ (by omega), h1, Nat.sub_self]
  rfl
theorem upto_all (l : List ByteArray) : upto l l.length = l.map (fun s => s ++ ext_) := by simp [upto]
theorem words_rd (k : Nat) (h : k < 40) (d : ByteArray) : rd (words 40) k d = wordF k := by
  unfold rd words
  rw [List.getD_eq_getElem?_getD, List.getElem?_map, List.getElem?_range h]; rfl
theorem bput_bput {φ : Bag KK} {b : Nat} {i j : BI KK} : bput (bput φ b i) b j = bput φ b j := by
  funext c; unfold bput; split <;> rfl
theorem row_at (l : List ByteArray) (b c i : Nat) (hi : i ≤ l.length) (hc : far l ≤ c) : RS.row (bagAt b c l i) Kd.str (.mk b 0 l.length (far l)) = some (upto l i) := by
  have e : ∀ xs : List ByteArray, xs.length = l.length → ((xs ++ words 40).drop 0).take l.length = xs := fun xs h => by rw [List.drop_zero, ← h, List.take_left]
  have h1 := upto_len l i hi
  have hf : far l = l.length + 40 := rfl
  have := RS.row_of (K := KK) (φ := bagAt b c l i) (kd := Kd.str) (b := b) (lo := 0) (len := l.length) (cap := far l) (xs := upto l i ++ words 40) bput_same (by show 0 + l.length ≤ (upto l i ++ words 40).length; rw [List.length_append]; omega) (by omega) (by omega)
  rw [this]
  exact congrArg some (e _ h1)
theorem marks_at (l : List ByteArray) (b c i : Nat) (hi : i ≤ l.length) (hc : far l ≤ c) (hl : l.length ≤ 100000) : Marks [RS.mk b 0 (far l) c] [(l.length : Int)] (bagAt b c l i) := by
  have h1 := upto_len l i hi
  have hf : far l = l.length + 40 := rfl
  have hlen : (upto l i ++ words 40).length = far l := by rw [List.length_append, words_len]; omega
  refine ⟨rfl, by simp, fun q hq => ?_⟩
  obtain rfl : q = 0 := by simp at hq; exact hq
  refine ⟨upto l i ++ words 40, ?_, by omega, ⟨by show (0 : Int) ≤ (l.length : Int); omega, by show (l.length : Int) ≤ _; omega⟩, fun k hk hk2 => ?_⟩
  · have := RS.row_of (K := KK) (φ := bagAt b c l i) (kd := Kd.str) (b := b) (lo := 0) (len := far l) (cap := c) (xs := upto l i ++ words 40) bput_same (by show 0 + far l ≤ (upto l i ++ words 40).length; omega) (by omega) hc
    show RS.row (bagAt b c l i) Kd.str (RS.mk b 0 (far l) c) = _
    rw [this]
    refine congrArg some ?_
    show List.take (far l) (List.drop 0 (upto l i ++ words 40)) = upto l i ++ words 40
    rw [List.drop_zero, List.take_of_length_le (by omega)]
  · have hk : (l.length : Int) ≤ (k : Int) := hk
    have e : rd (upto l i ++ words 40) k .empty = rd (words 40) (k - l.length) .empty := by
      unfold rd
      rw [List.getD_eq_getElem?_getD, List.getD_eq_getElem?_getD, List.getElem?_append_right (by omega), h1]
    rw [e, words_rd _ (by omega)]
    congr 1
    show ((k - l.length : Nat) : Int) = (k : Int) - (l.length : Int)
    omega
theorem law_ok (l : List ByteArray) : CtOk Try.prog 3 (ct_law l) := CtOk_of KK_ok tab7 (ann_law l) (fn := Try.f3) rfl (fun _ _ => rfl) fun hn => by
  obtain ⟨hl, hs⟩ := hn
  rw [vc_law]
  refine ⟨⟨by unfold i64ok; omega, hs⟩, into_mk (by kernel_rfl) (by (repeat' first | exact trivial | exact rfl | apply And.intro)) (by (repeat' first | exact trivial | exact rfl | apply And.intro)), fun y hy => ?_⟩
  cases y with
  | false => exact ite2_ff ⟨(), [], [0, 1], trivial, by (repeat' first | exact trivial | exact rfl | apply And.intro)⟩
  | true =>
    have hp := hy rfl
    have hlen := parts_len l
    have hj := joinB_sz l
    refine ite2_tt ⟨⟨by omega, by omega, by omega⟩, into_mk (by kernel_rfl) (by (repeat' first | exact trivial | exact rfl | apply And.intro)) (by (repeat' first | exact trivial | exact rfl | apply And.intro)), fun y1 h1 => ?_⟩
    obtain ⟨b, c⟩ := y1
    obtain ⟨hb, hc⟩ := h1
    have hc : far l ≤ c := hc
    have hB : bput bag0 b (BI.row (K := KK) Kd.str c (l ++ words 40)) = bagAt b c l 0 := by unfold bagAt; rw [upto_zero]
    have hr0 : RS.row (bput bag0 b (BI.row (K := KK) Kd.str c (l ++ words 40))) Kd.str (.mk b 0 l.length (far l)) = some l := by
      rw [hB, row_at l b c 0 (Nat.zero_le _) hc, upto_zero]
    have hc0 := cont_of hr0
    have hm0 : Marks [RS.mk b 0 (far l) c] [(l.length : Int)] (bput bag0 b (BI.row (K := KK) Kd.str c (l ++ words 40))) := by rw [hB]; exact marks_at l b c 0 (Nat.zero_le _) hc (by omega)
    have hq := hB
    refine ⟨⟨⟨by rw [hc0]; omega, by rw [hc0]; omega⟩, by rw [hc0]; exact hr0⟩, into_mk (by kernel_rfl) (by (repeat' first | exact trivial | exact rfl | apply And.intro)) (by (repeat' first | exact trivial | exact rfl | apply And.intro)), fun _ _ => ⟨⟨by omega, by omega⟩, into_mk (by kernel_rfl) (by (repeat' first | exact trivial | exact rfl | apply And.intro)) (by (repeat' first | exact trivial | exact rfl | apply And.intro)), fun _ _ => ite2_decide (fun _ => ⟨⟨by unfold i64ok; omega, hr0⟩, into_mk (by kernel_rfl) (by (repeat' first | exact trivial | exact rfl | apply And.intro)) (by (repeat' first | exact trivial | exact rfl | apply And.intro)), fun _ _ => ⟨hm0, into_mk (by kernel_rfl) (by (repeat' first | exact trivial | exact rfl | apply And.intro)) (by (repeat' first | exact trivial | exact rfl | apply And.intro)), fun _ _ => ⟨⟨(0 : Nat), [], [0, 1, 2, 3, 4, 5, 6], Nat.zero_le _, trivial, into_mk (by kernel_rfl) (by (repeat' first | exact trivial | exact rfl | apply And.intro)) (by (repeat' first | exact trivial | exact rfl | exact hq | apply And.intro))⟩, fun z hz => ?_⟩⟩⟩) (fun h => absurd (by rw [hc0]) h)⟩⟩
    refine ite2_decide (fun h2 => ?_) (fun h2 => ?_)
    · have hz1 : z < l.length := by simp only [RS.len] at h2; omega
      have hul := upto_len l z (by omega)
      have hx : bagAt b c l z b = some (BI.row (K := KK) Kd.str c (upto l z ++ words 40)) := bput_same
      have hlt : z < (upto l z ++ words 40).length := by rw [List.length_append]; omega
      have hrd := upto_rd l z hz1 (ByteArray.mk #[])
      have hsz := parts_mem l z hz1
      have hsz : (rd l z (ByteArray.mk #[])).size ≤ parts l := hsz
      have hset := upto_set l z hz1 (ByteArray.append (rd (upto l z ++ words 40) z (ByteArray.mk #[])) (ByteArray.mk #[(47 : UInt8), (120 : UInt8)])) (by rw [hrd]; rfl)
      refine ⟨⟨by omega, h2⟩, c, upto l z ++ words 40, hx, by show 0 + ((z : Nat) : Int).toNat < _; rw [Int.toNat_natCast, Nat.zero_add]; exact hlt, ?_, ⟨by omega, h2⟩, c, upto l z ++ words 40, hx, by show 0 + ((z : Nat) : Int).toNat < _; rw [Int.toNat_natCast, Nat.zero_add]; exact hlt, by unfold i64ok; omega, (z + 1 : Nat), [], [0, 1, 2, 3, 4, 5, 6], by show z + 1 ≤ l.length; omega, by omega, into_mk (by kernel_rfl) (by (repeat' first | exact trivial | exact rfl | apply And.intro)) ?_⟩
      · show (rd (upto l z ++ words 40) (0 + ((z : Nat) : Int).toNat) (ByteArray.mk #[])).size + 2 ≤ _
        rw [Int.toNat_natCast, Nat.zero_add, hrd]; omega
      · have hq : bput (bagAt b c l z) b (BI.row (K := KK) Kd.str c ((upto l z ++ words 40).set (0 + ((z : Nat) : Int).toNat) (ByteArray.append (rd (upto l z ++ words 40) (0 + ((z : Nat) : Int).toNat) (ByteArray.mk #[])) (ByteArray.mk #[(47 : UInt8), (120 : UInt8)])))) = bagAt b c l (z + 1) := by
          simp only [Int.toNat_natCast, Nat.zero_add]
          rw [hset]
          unfold bagAt
          exact bput_bput
        (repeat' first | exact trivial | exact rfl | exact hq | apply And.intro)
    · obtain rfl : z = l.length := by simp only [RS.len] at h2; omega
      have hrN := row_at l b c l.length (Nat.le_refl _) hc
      have hcN := cont_of hrN
      have hul := upto_len l l.length (Nat.le_refl _)
      have hsz : (joinB (upto l l.length)).size ≤ 90000 := by
        have h1 := joinB_sz (upto l l.length)
        rw [upto_all, parts_ext] at h1
        rw [upto_all]; omega
      have hmN := marks_at l b c l.length (Nat.le_refl _) hc (by omega)
      exact ⟨⟨⟨by rw [hcN]; omega, by rw [hcN]; omega⟩, by rw [hcN]; exact hrN⟩, into_mk (by kernel_rfl) (by (repeat' first | exact trivial | exact rfl | apply And.intro)) (by (repeat' first | exact trivial | exact rfl | apply And.intro)), fun _ _ => ⟨⟨⟨by rw [hcN]; omega, by rw [hcN]; omega⟩, by rw [hcN]; exact hrN⟩, into_mk (by kernel_rfl) (by (repeat' first | exact trivial | exact rfl | apply And.intro)) (by (repeat' first | exact trivial | exact rfl | apply And.intro)), fun _ _ => ite2_decide (fun _ => ⟨hmN, into_mk (by kernel_rfl) (by (repeat' first | exact trivial | exact rfl | apply And.intro)) (by (repeat' first | exact trivial | exact rfl | apply And.intro)), fun _ _ => ⟨(), [], [0, 1], trivial, by (repeat' first | exact trivial | exact rfl | apply And.intro)⟩⟩) (fun h => absurd rfl h)⟩⟩
end Go.Proofs.Ytnmidichehjbgaa.T
