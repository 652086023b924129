/- The plan with its sides exchanged, the function's proof. -/
import Derived.Test.YtljamcgngojaeaaPv
namespace Go.Proofs.Ytljamcgngojaeaa.T
open Go.Proofs.Ytljamcgngojaeaa.E
set_option maxRecDepth 100000
set_option linter.unusedVariables false
theorem flipF_len {l : List Cell} {z : Nat} (h : z ≤ l.length) : (flipF l z).length = z := by
  unfold flipF; rw [List.length_map, List.length_take]; omega
theorem flipF_all (l : List Cell) : flipF l l.length = l.map flipC := by unfold flipF; rw [List.take_length]
theorem flipF_succ {l : List Cell} {z : Nat} (h : z < l.length) : flipF l (z + 1) = flipF l z ++ [flipC (rd l z (KK.dflt Kd.cell))] := map_take_succ flipC cell0 h
theorem tdiv2 {a : Int} (h : i64ok a) : i64ok (a.tdiv 2) := by
  unfold i64ok at *
  have : (a.tdiv 2).natAbs = a.natAbs / 2 := by rw [Int.natAbs_tdiv]; rfl
  omega
theorem rd_swap {its : List Item} {z : Nat} (h : z < its.length) : rd (its.map swapI) z item0 = swapI (rd its z item0) := by
  unfold rd
  rw [List.getD_eq_getElem?_getD, List.getD_eq_getElem?_getD, List.getElem?_map, List.getElem?_eq_getElem h]
  rfl
theorem bl_le (B : List Bool) : ∀ j, (bl B j).length ≤ j
  | 0 => Nat.le_refl _
  | j + 1 => by
    have := bl_le B j
    simp only [bl]
    split
    · simp; omega
    · omega
set_option maxHeartbeats 8000000 in
theorem planSides_ok (l : List Cell) (most : Int) : CtOk Try.prog 7 (ct_planSides l most) := CtOk_of KK_ok tab10 (annSides l most) (fn := Try.f7) rfl (fun _ _ => rfl) fun hn => by
  obtain ⟨hl, hp, hm⟩ := hn
  rw [vc_planSides]
  refine ⟨hp, into_mk (by kernel_rfl) (by (repeat' first | exact trivial | exact rfl | apply And.intro)) (by (repeat' first | exact trivial | exact rfl | apply And.intro)), fun y hy => ite2_mk (fun hy1 => ?_) (fun hy0 => ⟨(), [], [0], trivial, by (repeat' first | exact trivial | exact rfl | apply And.intro)⟩)⟩
  have h300 := hy hy1
  have hfl : (flipF l l.length).length = l.length := flipF_len (Nat.le_refl _)
  have hcf : Cells (flipF l l.length) := by rw [flipF_all]; exact flip_cells hl
  have hQ : ofF (flipF l l.length) most = swapS (ofF l most) := by rw [flipF_all]; exact of_flip l most
  have hFit : ∀ f : Four, fitsF (flipF l l.length) most ⟨f.n1, f.b1, f.n0, f.b0⟩ = fitsF l most f := fun f => by rw [flipF_all]; exact fits_flip l most f
  obtain ⟨k1, k2, k3, k4, _⟩ := of_nums hl most
  have hits := ofS_items l (leftOf l most) l.length
  have n300 : (ofF l most).items.length ≤ 300 := Nat.le_trans hits.1 h300
  have q300 : (ofF l most).left.length ≤ 300 := by
    have : (ofF l most).left = bl (leftOf l most) l.length := ofS_left _ _ _
    rw [this]; exact Nat.le_trans (bl_le _ _) h300
  refine ⟨trivial, into_mk (by kernel_rfl) (by (repeat' first | exact trivial | exact rfl | apply And.intro)) (by (repeat' first | exact trivial | exact rfl | apply And.intro)), fun _ _ => ⟨⟨⟨(0 : Nat), [.cell], [0, 1, 2], Nat.zero_le _, trivial, into_mk (by kernel_rfl) (by (repeat' first | exact trivial | exact rfl | apply And.intro)) (by (repeat' first | exact trivial | exact rfl | apply And.intro))⟩, fun z hz => ite2_decide (fun hlt => ?_) (fun hge => ?_)⟩, fun _ _ => ?_⟩⟩
  · have hz' : z ≤ l.length := hz
    have z1 : (0 : Int) ≤ z ∧ (z : Int) < l.length := by omega
    have z2 : z < l.length := by omega
    have hi1 : i64ok ((z : Int) + 1) := by unfold i64ok; omega
    have hlen := flipF_len hz'
    have hs := flipF_succ z2
    have wl : z + 1 = (flipF l z).length + 1 := by rw [hlen]
    simp only [Int.toNat_natCast, Nat.zero_add]
    refine ⟨z1, z2, trivial, z2, ite2_decide (fun h1 => ?_) (fun h1 => ite2_decide (fun h2 => ?_) (fun h2 => ?_))⟩
    · have hq : flipF l (z + 1) = flipF l z ++ [Cell.mk (rd l z (KK.dflt Kd.cell)).path (rd l z (KK.dflt Kd.cell)).what (3 - (rd l z (KK.dflt Kd.cell)).side) (rd l z (KK.dflt Kd.cell)).mode (rd l z (KK.dflt Kd.cell)).keep (rd l z (KK.dflt Kd.cell)).take (rd l z (KK.dflt Kd.cell)).names (rd l z (KK.dflt Kd.cell)).bytes (rd l z (KK.dflt Kd.cell)).hadN (rd l z (KK.dflt Kd.cell)).hadB] := by
        rw [hs]; congr 2; exact if_pos (.inl h1)
      repeat' first | exact trivial | exact rfl | exact hi1 | omega | (rw [h1]; unfold i64ok; decide) | exact ⟨(z + 1 : Nat), [], [0, 1, 5], z2, by omega, into_mk (by kernel_rfl) (by (repeat' first | exact trivial | exact rfl | exact wl.symm | apply And.intro)) (by simp only [invS7, hq]; (repeat' first | exact trivial | exact rfl | apply And.intro))⟩ | apply And.intro
    · have hq : flipF l (z + 1) = flipF l z ++ [Cell.mk (rd l z (KK.dflt Kd.cell)).path (rd l z (KK.dflt Kd.cell)).what (3 - (rd l z (KK.dflt Kd.cell)).side) (rd l z (KK.dflt Kd.cell)).mode (rd l z (KK.dflt Kd.cell)).keep (rd l z (KK.dflt Kd.cell)).take (rd l z (KK.dflt Kd.cell)).names (rd l z (KK.dflt Kd.cell)).bytes (rd l z (KK.dflt Kd.cell)).hadN (rd l z (KK.dflt Kd.cell)).hadB] := by
        rw [hs]; congr 2; exact if_pos (.inr h2)
      repeat' first | exact trivial | exact rfl | exact hi1 | omega | (rw [h2]; unfold i64ok; decide) | exact ⟨(z + 1 : Nat), [], [0, 1, 5], z2, by omega, into_mk (by kernel_rfl) (by (repeat' first | exact trivial | exact rfl | exact wl.symm | apply And.intro)) (by simp only [invS7, hq]; (repeat' first | exact trivial | exact rfl | apply And.intro))⟩ | apply And.intro
    · have hq : flipF l (z + 1) = flipF l z ++ [Cell.mk (rd l z (KK.dflt Kd.cell)).path (rd l z (KK.dflt Kd.cell)).what (rd l z (KK.dflt Kd.cell)).side (rd l z (KK.dflt Kd.cell)).mode (rd l z (KK.dflt Kd.cell)).keep (rd l z (KK.dflt Kd.cell)).take (rd l z (KK.dflt Kd.cell)).names (rd l z (KK.dflt Kd.cell)).bytes (rd l z (KK.dflt Kd.cell)).hadN (rd l z (KK.dflt Kd.cell)).hadB] := by
        rw [hs]; congr 2; exact if_neg (fun h => h.elim h1 h2)
      repeat' first | exact trivial | exact rfl | exact hi1 | omega | exact ⟨(z + 1 : Nat), [], [0, 1, 5], z2, by omega, into_mk (by kernel_rfl) (by (repeat' first | exact trivial | exact rfl | exact wl.symm | apply And.intro)) (by simp only [invS7, hq]; (repeat' first | exact trivial | exact rfl | apply And.intro))⟩ | apply And.intro
  · have e : z = l.length := by have : z ≤ l.length := hz; omega
    subst e
    exact ⟨(), [], [0, 1, 2], trivial, trivial, into_mk (by kernel_rfl) (by (repeat' first | exact trivial | exact rfl | apply And.intro)) (by (repeat' first | exact trivial | exact rfl | apply And.intro))⟩
  · rw [hFit ⟨(ofF l most).n0.tdiv 2, (ofF l most).b0, (ofF l most).n1, (ofF l most).b1.tdiv 2⟩]
    refine ⟨⟨hl, by omega, hm⟩, into_mk (by kernel_rfl) (by (repeat' first | exact trivial | exact rfl | apply And.intro)) (by (repeat' first | exact trivial | exact rfl | apply And.intro)), fun _ _ => ⟨⟨hcf, by rw [hfl]; omega, hm⟩, into_mk (by kernel_rfl) (by rw [hfl]; (repeat' first | exact trivial | exact rfl | apply And.intro)) (by (repeat' first | exact trivial | exact rfl | apply And.intro)), fun _ _ => ?_⟩⟩
    rw [hQ]
    have hql : (ofF l most).items.length = (swapS (ofF l most)).items.length := (List.length_map ..).symm
    have sp := tdiv2 k1
    have sq := tdiv2 k4
    have i300 : i64ok ((ofF l most).left.length : Int) := by unfold i64ok; omega
    have sql : (ofF l most).left = (swapS (ofF l most)).left := rfl
    have f300 : (flipF l l.length).length ≤ 100000 := by omega
    have l300 : l.length ≤ 100000 := by omega
    repeat' first | exact trivial | exact rfl | exact hl | exact hcf | exact hm | exact sp | exact sq | exact k2 | exact k3 | exact f300 | exact l300 | exact hfl | exact hfl.symm | decide | (intro _ _) | apply And.intro
    · refine ite2_decide (fun _ => ⟨trivial, i300, into_mk (by kernel_rfl) (by (repeat' first | exact trivial | exact rfl | apply And.intro)) (by (repeat' first | exact trivial | exact rfl | apply And.intro)), fun _ _ => ite2_decide (fun _ => ⟨by decide, by decide, ite2_mk (fun _ => ⟨by decide, by decide, ite2_mk (fun _ => ite2_decide (fun _ => ⟨⟨(0 : Nat), [], [0, 1, 2, 3, 4, 5, 6, 7, 8], Nat.zero_le _, trivial, into_mk (by kernel_rfl) (by (repeat' first | exact trivial | exact rfl | apply And.intro)) (by simp only [invS20, flF, hQ]; (repeat' first | exact trivial | exact rfl | apply And.intro))⟩, fun z hz => ?_⟩) (fun hb => ?_)) (fun hb => ?_)⟩) (fun hb => ?_)⟩) (fun hb => absurd sql hb)⟩) (fun hb => absurd rfl hb)
      · refine ite2_decide (fun hlt => ?_) (fun hge => ⟨(), [], [0], trivial, by (repeat' first | exact trivial | exact rfl | apply And.intro)⟩)
        have z1 : (0 : Int) ≤ z ∧ (z : Int) < (ofF l most).items.length := by omega
        have z2 : z < (ofF l most).items.length := by omega
        have z3 : (0 : Int) ≤ z ∧ (z : Int) < (swapS (ofF l most)).items.length := by rw [← hql]; exact z1
        have z4 : z < (swapS (ofF l most)).items.length := by rw [← hql]; exact z2
        have hrd : rd (swapS (ofF l most)).items z (KK.dflt Kd.item) = swapI (rd (ofF l most).items z (KK.dflt Kd.item)) := rd_swap z2
        simp only [Int.toNat_natCast, Nat.zero_add, hrd]
        refine ⟨z3, z4, trivial, z4, z1, z2, trivial, z2, ite2_mk (fun _ => ⟨trivial, by unfold i64ok; omega, ⟨(z + 1 : Nat), [], [0, 1, 2, 3, 4, 5, 6, 7, 8], z2, by omega, into_mk (by kernel_rfl) (by (repeat' first | exact trivial | exact rfl | apply And.intro)) (by simp only [invS20, flF, hQ]; (repeat' first | exact trivial | exact rfl | apply And.intro))⟩⟩) (fun hb => absurd hb (by simp [swapI]))⟩
      · exact absurd (by rw [← hql]) hb
      · exact absurd hb (by simp [swapS])
      · exact absurd hb (by simp [swapS])
end Go.Proofs.Ytljamcgngojaeaa.T
