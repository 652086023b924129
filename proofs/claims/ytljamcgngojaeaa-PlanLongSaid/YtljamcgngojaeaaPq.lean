/- The plan: its room, the function's proof. -/
import Derived.Test.YtljamcgngojaeaaPp
namespace Go.Proofs.Ytljamcgngojaeaa.T
open Go.Proofs.Ytljamcgngojaeaa.E
set_option maxRecDepth 100000
set_option linter.unusedVariables false
theorem take_snoc {α : Type} {xs : List α} {d : α} {z : Nat} (h : z < xs.length) : xs.take (z + 1) = xs.take z ++ [rd xs z d] := by
  rw [List.take_add_one, List.getElem?_eq_getElem h]
  unfold rd
  rw [List.getD_eq_getElem?_getD, List.getElem?_eq_getElem h]
  rfl
theorem rd_mem' {α : Type} {xs : List α} {d : α} {z : Nat} (h : z < xs.length) : rd xs z d ∈ xs := by
  unfold rd; rw [List.getD_eq_getElem?_getD, List.getElem?_eq_getElem h]; exact List.getElem_mem h
theorem rm_next (l : List Cell) (most : Int) {z : Nat} (h : z < (itF l most).length) : rmA l most (z + 1) = rmStep (pc l) (rmA l most z) (itA l most z) := by
  unfold rmA
  rw [take_snoc (d := Item.mk 0 0 .empty 0 0 0 0) h, rmF_snoc]
set_option maxHeartbeats 8000000 in
theorem planRoom_ok (l : List Cell) (most : Int) : CtOk Try.prog 5 (ct_planRoom l most) := CtOk_of KK_ok tab9 (annRoom l most) (fn := Try.f5) rfl (fun _ _ => rfl) fun hn => by
  obtain ⟨hl, hp, hm⟩ := hn
  rw [vc_planRoom]
  refine ⟨hp, into_mk (by kernel_rfl) (by (repeat' first | exact trivial | exact rfl | apply And.intro)) (by (repeat' first | exact trivial | exact rfl | apply And.intro)), fun y hy => ite2_mk (fun hy1 => ?_) (fun hy0 => ⟨(), [], [0], trivial, by (repeat' first | exact trivial | exact rfl | apply And.intro)⟩)⟩
  have h300 := hy hy1
  have hpl := pc_len l
  have hlow := pc_low h300
  have hr := pc_lowR l
  have hits := ofS_items (pc l) (leftOf (pc l) most) (pc l).length
  have n300 : (ofF (plainF l l.length) most).items.length ≤ 300 := Nat.le_trans hits.1 (by rw [hpl]; exact h300)
  have hit : ∀ z, z < (ofF (plainF l l.length) most).items.length → (0 ≤ (itA l most z).cell ∧ (itA l most z).cell < (l.length : Int)) ∧ ((itA l most z).dst = 0 ∨ (itA l most z).dst = 1) := fun z hz => by
    have := hits.2 _ (rd_mem' (d := Item.mk 0 0 .empty 0 0 0 0) hz)
    exact ⟨⟨this.1.1, by have h2 := this.1.2; have e : ((pc l).length : Int) = (l.length : Int) := congrArg _ hpl; rw [e] at h2; exact h2⟩, this.2⟩
  have hlaw := rm_law hr hlow.1 (leftOf (pc l) most) (pc l).length (Nat.le_refl _)
  have hin : ∀ z, z ≤ (ofF (plainF l l.length) most).items.length → (rmA l most z).In z := fun z hz => by
    have := rmF_in hr ((itF l most).take z)
    rw [List.length_take, Nat.min_eq_left hz] at this
    exact this
  refine ⟨trivial, into_mk (by kernel_rfl) (by (repeat' first | exact trivial | exact rfl | apply And.intro)) (by (repeat' first | exact trivial | exact rfl | apply And.intro)), fun _ _ => ⟨⟨hl, h300⟩, into_mk (by kernel_rfl) (by (repeat' first | exact trivial | exact rfl | apply And.intro)) (by (repeat' first | exact trivial | exact rfl | apply And.intro)), fun _ _ => ⟨⟨pc_cells hl, by rw [hpl]; omega, hm⟩, into_mk (by kernel_rfl) ?_ (by (repeat' first | exact trivial | exact rfl | apply And.intro)), fun _ _ => ?_⟩⟩⟩
  · rw [hpl]; (repeat' first | exact trivial | exact rfl | apply And.intro)
  refine ⟨⟨(0 : Nat), [], [0, 1, 2, 3, 4, 5, 6, 7], Nat.zero_le _, trivial, into_mk (by kernel_rfl) (by (repeat' first | exact trivial | exact rfl | apply And.intro)) (by (repeat' first | exact trivial | exact rfl | apply And.intro))⟩, fun z hz => ite2_decide (fun hlt => ?_) (fun hge => ?_)⟩
  · have z1 : (0 : Int) ≤ z ∧ (z : Int) < (ofF (plainF l l.length) most).items.length := ⟨by omega, hlt⟩
    have z2 : z < (ofF (plainF l l.length) most).items.length := by omega
    have hi1 : i64ok ((z : Int) + 1) := by unfold i64ok; omega
    simp only [Int.toNat_natCast, Nat.zero_add]
    have hnext := rm_next l most z2
    obtain ⟨ic, id⟩ := hit z z2
    refine ⟨z1, z2, trivial, z2, ite2_decide (fun hw => ite2_decide (fun hb => absurd ic.1 (Int.not_le.2 hb)) fun _ => ite2_decide (fun hb => absurd ic.2 (Int.not_lt.2 hb)) fun _ => ite2_decide (fun hb => ?_) fun _ => ite2_decide (fun hb => ?_) fun _ => ?_) (fun hw => ⟨hi1, ⟨(z + 1 : Nat), [], [0, 1, 2, 3, 4, 5, 6, 7], z2, by omega, into_mk (by kernel_rfl) (by (repeat' first | exact trivial | exact rfl | apply And.intro)) ?_⟩⟩), ?_, ?_⟩
    · rcases id with id | id
      · exact absurd (id ▸ hb) (by decide)
      · exact absurd (id ▸ hb) (by decide)
    · rcases id with id | id
      · exact absurd (id ▸ hb) (by decide)
      · exact absurd (id ▸ hb) (by decide)
    · rcases id with id | id
      · refine .inl ⟨(z : Nat), [], [0, 1, 2, 3, 4, 5, 6, 7, 8], ⟨rfl, z2, hw, id⟩, trivial, into_mk (by kernel_rfl) (by (repeat' first | exact trivial | exact rfl | apply And.intro)) ?_⟩
        have hq := id
        (repeat' first | exact trivial | exact rfl | exact hq | apply And.intro)
      · refine .inr ⟨(z : Nat), [], [0, 1, 2, 3, 4, 5, 6, 7, 8], ⟨rfl, z2, hw, id⟩, trivial, into_mk (by kernel_rfl) (by (repeat' first | exact trivial | exact rfl | apply And.intro)) ?_⟩
        have hq := id
        (repeat' first | exact trivial | exact rfl | exact hq | apply And.intro)
    · have hq : rmA l most (z + 1) = rmA l most z := by rw [hnext, rmStep]; exact if_neg hw
      simp only [invR9, HR, hq]
      (repeat' first | exact trivial | exact rfl | apply And.intro)
    · rintro z' ⟨hz', h1, h2, h3⟩
      obtain rfl : z' = z := by omega
      have hq : rmA l most (z' + 1) = rm0 (rd (plainF l l.length) (itA l most z').cell.toNat cell0) (rmA l most z') := by
        rw [hnext, rmStep]; exact (if_pos h2).trans (if_pos h3)
      have c := hr.rd (itA l most z').cell.toNat
      have c1 : 0 ≤ (rd (plainF l l.length) (itA l most z').cell.toNat (KK.dflt Kd.cell)).names ∧ (rd (plainF l l.length) (itA l most z').cell.toNat (KK.dflt Kd.cell)).names < 1099511627776 := c.names
      have c2 : 0 ≤ (rd (plainF l l.length) (itA l most z').cell.toNat (KK.dflt Kd.cell)).bytes ∧ (rd (plainF l l.length) (itA l most z').cell.toNat (KK.dflt Kd.cell)).bytes < 1099511627776 := c.bytes
      have c3 : 0 ≤ (rd (plainF l l.length) (itA l most z').cell.toNat (KK.dflt Kd.cell)).hadN ∧ (rd (plainF l l.length) (itA l most z').cell.toNat (KK.dflt Kd.cell)).hadN < 1099511627776 := c.hadN
      have c4 : 0 ≤ (rd (plainF l l.length) (itA l most z').cell.toNat (KK.dflt Kd.cell)).hadB ∧ (rd (plainF l l.length) (itA l most z').cell.toNat (KK.dflt Kd.cell)).hadB < 1099511627776 := c.hadB
      obtain ⟨b1, b2, b3, b4⟩ := hin z' (Nat.le_of_lt z2)
      have c0 : (itA l most z').cell.toNat < (plainF l l.length).length := by rw [hpl]; omega
      have ed : KK.dflt Kd.cell = cell0 := rfl
      have ep : plainF l l.length = pc l := rfl
      have zm : (z' : Int) ≤ 300 := by omega
      refine ⟨ic, c0, trivial, c0, by decide, by decide, ?_⟩
      repeat' first | exact trivial | exact hi1 | (unfold i64ok; omega) | decide | exact ⟨(z' + 1 : Nat), [], [0, 1, 2, 3, 4, 5, 6, 7], z2, by omega, into_mk (by kernel_rfl) (by (repeat' first | exact trivial | exact rfl | apply And.intro)) (by simp only [invR9, HR, hq]; (repeat' first | exact trivial | exact rfl | apply And.intro))⟩ | apply And.intro
    · rintro z' ⟨hz', h1, h2, h3⟩
      obtain rfl : z' = z := by omega
      have hq : rmA l most (z' + 1) = rm1 (rd (plainF l l.length) (itA l most z').cell.toNat cell0) (rmA l most z') := by
        rw [hnext, rmStep]; exact (if_pos h2).trans (if_neg (by rw [h3]; decide))
      have c := hr.rd (itA l most z').cell.toNat
      have c1 : 0 ≤ (rd (plainF l l.length) (itA l most z').cell.toNat (KK.dflt Kd.cell)).names ∧ (rd (plainF l l.length) (itA l most z').cell.toNat (KK.dflt Kd.cell)).names < 1099511627776 := c.names
      have c2 : 0 ≤ (rd (plainF l l.length) (itA l most z').cell.toNat (KK.dflt Kd.cell)).bytes ∧ (rd (plainF l l.length) (itA l most z').cell.toNat (KK.dflt Kd.cell)).bytes < 1099511627776 := c.bytes
      have c3 : 0 ≤ (rd (plainF l l.length) (itA l most z').cell.toNat (KK.dflt Kd.cell)).hadN ∧ (rd (plainF l l.length) (itA l most z').cell.toNat (KK.dflt Kd.cell)).hadN < 1099511627776 := c.hadN
      have c4 : 0 ≤ (rd (plainF l l.length) (itA l most z').cell.toNat (KK.dflt Kd.cell)).hadB ∧ (rd (plainF l l.length) (itA l most z').cell.toNat (KK.dflt Kd.cell)).hadB < 1099511627776 := c.hadB
      obtain ⟨b1, b2, b3, b4⟩ := hin z' (Nat.le_of_lt z2)
      have c0 : (itA l most z').cell.toNat < (plainF l l.length).length := by rw [hpl]; omega
      have ed : KK.dflt Kd.cell = cell0 := rfl
      have ep : plainF l l.length = pc l := rfl
      have zm : (z' : Int) ≤ 300 := by omega
      refine ⟨ic, c0, trivial, c0, by decide, by decide, ?_⟩
      repeat' first | exact trivial | exact hi1 | (unfold i64ok; omega) | decide | exact ⟨(z' + 1 : Nat), [], [0, 1, 2, 3, 4, 5, 6, 7], z2, by omega, into_mk (by kernel_rfl) (by (repeat' first | exact trivial | exact rfl | apply And.intro)) (by simp only [invR9, HR, hq]; (repeat' first | exact trivial | exact rfl | apply And.intro))⟩ | apply And.intro
  · have e : z = (ofF (plainF l l.length) most).items.length := by have : z ≤ (ofF (plainF l l.length) most).items.length := hz; omega
    have hq : rmA l most z = ⟨(ofF (pc l) most).x0, (ofF (pc l) most).y0, (ofF (pc l) most).x1, (ofF (pc l) most).y1, (ofF (pc l) most).n0, (ofF (pc l) most).b0, (ofF (pc l) most).n1, (ofF (pc l) most).b1⟩ := by
      unfold rmA
      rw [e, List.take_length]
      exact hlaw
    rw [hq]
    exact ite2_mk (fun _ => ⟨(), [], [0], trivial, by (repeat' first | exact trivial | exact rfl | apply And.intro)⟩) (fun hb => by simp at hb)
end Go.Proofs.Ytljamcgngojaeaa.T
