/- The plan: as many items as there is room for, the law's proof. -/
import Derived.Test.YtljamcgngojaeaaQa
namespace Go.Proofs.Ytljamcgngojaeaa.T
open Go.Proofs.Ytljamcgngojaeaa.E
set_option maxRecDepth 100000
set_option linter.unusedVariables false
theorem begF_cells {l : List Cell} (h : Cells l) (its : List Item) (k : Nat) : Cells (begF l its k) := fun c hc => by
  unfold begF at hc
  obtain ⟨it, _, rfl⟩ := List.mem_map.1 hc
  have := h.rd it.cell.toNat
  exact ⟨this.what, this.side, this.mode, i64z, i64z, this.names, this.bytes, this.hadN, this.hadB⟩
theorem room_two (f g : Four) : max f.n0 0 ≤ max (roomV f g 2).n0 0 ∧ max f.b0 0 ≤ max (roomV f g 2).b0 0 ∧ max f.n1 0 ≤ max (roomV f g 2).n1 0 ∧ max f.b1 0 ≤ max (roomV f g 2).b1 0 := by
  simp only [roomV]
  refine ⟨?_, ?_, ?_, ?_⟩ <;> (rw [if_pos (by decide)]; omega)
set_option maxHeartbeats 8000000 in
theorem planFits_ok (l : List Cell) (most : Int) (f g : Four) : CtOk Try.prog 8 (ct_planFits l most f g) := CtOk_of KK_ok tab11 (annZ l most f g) (fn := Try.f8) rfl (fun _ _ => rfl) fun hn => by
  obtain ⟨hl, hp, hm⟩ := hn
  rw [vc_planFits]
  refine ⟨hp, into_mk (by kernel_rfl) (by (repeat' first | exact trivial | exact rfl | apply And.intro)) (by (repeat' first | exact trivial | exact rfl | apply And.intro)), fun y hy => ite2_mk (fun hy1 => ?_) (fun hy0 => ⟨(), [], [0], trivial, by (repeat' first | exact trivial | exact rfl | apply And.intro)⟩)⟩
  have h300 := hy hy1
  have l5 : l.length ≤ 100000 := by omega
  have law := fits_law l most f
  have hle : fitsF l most f ≤ (ofF l most).items.length := law.le
  have hits := ofS_items l (leftOf l most) l.length
  have n300 : (ofF l most).items.length ≤ 300 := Nat.le_trans hits.1 h300
  have n5 : (ofF l most).items.length ≤ 100000 := by omega
  have hit : ∀ it ∈ (ofF l most).items, 0 ≤ it.cell ∧ it.cell < (l.length : Int) := fun it h => (hits.2 it h).1
  have hlen := begF_len (l := l) (its := (ofF l most).items) (z := fitsF l most f) hle
  have hall : ((fitsF l most ⟨(ofF l most).n0, (ofF l most).b0, (ofF l most).n1, (ofF l most).b1⟩ : Nat) : Int) = ((ofF l most).items.length : Int) := congrArg _ law.all
  have hlt0 : ¬ ((ofF l most).items.length : Int) < ((fitsF l most ⟨f.n0, f.b0, f.n1, f.b1⟩ : Nat) : Int) := by
    have : fitsF l most ⟨f.n0, f.b0, f.n1, f.b1⟩ ≤ (ofF l most).items.length := hle
    omega
  refine ⟨trivial, into_mk (by kernel_rfl) (by (repeat' first | exact trivial | exact rfl | apply And.intro)) (by (repeat' first | exact trivial | exact rfl | apply And.intro)), fun _ _ => ⟨⟨hl, l5, hm⟩, into_mk (by kernel_rfl) (by (repeat' first | exact trivial | exact rfl | apply And.intro)) (by (repeat' first | exact trivial | exact rfl | apply And.intro)), fun _ _ => ⟨⟨hl, l5, hm⟩, into_mk (by kernel_rfl) (by (repeat' first | exact trivial | exact rfl | apply And.intro)) (by (repeat' first | exact trivial | exact rfl | apply And.intro)), fun _ _ => ?_⟩⟩⟩
  refine ite2_decide (fun h => absurd h hlt0) (fun _ => ?_)
  repeat' first | exact trivial | exact rfl | exact hl | exact hm | exact l5 | (intro _ _) | apply And.intro
  refine ite2_decide (fun _ => ?_) (fun h => absurd hall h)
  refine ⟨⟨rfl, trivial⟩, ⟨(0 : Nat), [], [0, 1, 2, 3, 4, 5, 6], Nat.zero_le _, trivial, into_mk (by kernel_rfl) (by (repeat' first | exact trivial | exact rfl | apply And.intro)) (by (repeat' first | exact trivial | exact rfl | apply And.intro))⟩, fun z hz => ite2_decide (fun hlt => ?_) (fun hge => ?_)⟩
  · have z1 : (0 : Int) ≤ z ∧ (z : Int) < (ofF l most).items.length := by omega
    have z2 : z < (ofF l most).items.length := by omega
    have hi1 : i64ok ((z : Int) + 1) := by unfold i64ok; omega
    have ic : 0 ≤ (rd (ofF l most).items z (KK.dflt Kd.item)).cell ∧ (rd (ofF l most).items z (KK.dflt Kd.item)).cell < (l.length : Int) := hit _ (rd_mem' (d := item0) z2)
    simp only [Int.toNat_natCast, Nat.zero_add]
    refine ⟨z1, z2, trivial, z2, ite2_decide (fun hb => absurd hb (Int.not_lt.2 ic.1)) (fun _ => ⟨z1, z2, trivial, z2, ite2_decide (fun hb => absurd hb (Int.not_le.2 ic.2)) (fun _ => ?_)⟩)⟩
    repeat' first | exact trivial | exact rfl | exact hi1 | exact ⟨(z + 1 : Nat), [], [0, 1, 2, 3, 4, 5, 6], z2, by omega, into_mk (by kernel_rfl) (by (repeat' first | exact trivial | exact rfl | apply And.intro)) (by (repeat' first | exact trivial | exact rfl | apply And.intro))⟩ | apply And.intro
  · refine ⟨?_, fun _ _ => ⟨⟨(0 : Nat), [], [0, 1, 2, 3, 4, 5, 6, 7], Nat.zero_le _, trivial, into_mk (by kernel_rfl) (by (repeat' first | exact trivial | exact rfl | apply And.intro)) (by (repeat' first | exact trivial | exact rfl | apply And.intro))⟩, fun v hv => ⟨ite2_decide (fun hv2 => ?_) (fun hv2 => ?_), fun _ h0 => ?_, fun _ h1 => ?_⟩⟩⟩
    · have hb1 : (begF l (ofF l most).items (fitsF l most f)).length ≤ 100000 := by omega
      have hc1 := begF_cells hl (ofF l most).items (fitsF l most f)
      have i20 : i64ok 1048576 := by unfold i64ok; decide
      repeat' first | exact trivial | exact rfl | exact hl | exact hle | exact n5 | exact hit | exact hc1 | exact hb1 | exact i20 | exact hlen | exact hlen.symm | (intro _ _) | apply And.intro
      refine ite2_mk (fun _ => ite2_decide (fun hn => ?_) (fun hn => by repeat' first | exact trivial | exact rfl | exact ⟨(), [], [0, 1, 2, 3, 4, 5, 6], trivial, trivial, into_mk (by kernel_rfl) (by (repeat' first | exact trivial | exact rfl | apply And.intro)) (by (repeat' first | exact trivial | exact rfl | apply And.intro))⟩ | apply And.intro)) (fun hb => absurd ((law.yes 1048576).symm.trans hb) (by decide))
      have hn' : fitsF l most f + 1 ≤ (ofF l most).items.length := by omega
      have hlen2 := begF_len (l := l) (its := (ofF l most).items) (z := fitsF l most f + 1) hn'
      have hb2 : (begF l (ofF l most).items (fitsF l most f + 1)).length ≤ 100000 := by omega
      have hc2 := begF_cells hl (ofF l most).items (fitsF l most f + 1)
      have hi1 : i64ok ((fitsF l most f : Int) + 1) := by unfold i64ok; omega
      repeat' first | exact trivial | exact rfl | exact hl | exact hi1 | exact hn' | exact n5 | exact hit | exact hc2 | exact hb2 | exact i20 | exact hlen2 | exact hlen2.symm | (intro _ _) | apply And.intro
      exact ite2_mk (fun hb => absurd ((law.no 1048576 hn').symm.trans hb) (by decide)) (fun _ => by repeat' first | exact trivial | exact rfl | exact ⟨(), [], [0, 1, 2, 3, 4, 5, 6], trivial, trivial, into_mk (by kernel_rfl) (by (repeat' first | exact trivial | exact rfl | apply And.intro)) (by (repeat' first | exact trivial | exact rfl | apply And.intro))⟩ | apply And.intro)
    · have hv' : v ≤ 2 := hv
      rcases (by omega : v = 0 ∨ v = 1) with rfl | rfl
      · exact .inl ⟨(), [], [0, 1, 2, 3, 4, 5, 6, 7], rfl, trivial, into_mk (by kernel_rfl) (by (repeat' first | exact trivial | exact rfl | apply And.intro)) (by (repeat' first | exact trivial | exact rfl | apply And.intro))⟩
      · exact .inr ⟨(), [], [0, 1, 2, 3, 4, 5, 6, 7], rfl, trivial, into_mk (by kernel_rfl) (by (repeat' first | exact trivial | exact rfl | apply And.intro)) (by (repeat' first | exact trivial | exact rfl | apply And.intro))⟩
    · obtain rfl : v = 2 := by have hv' : v ≤ 2 := hv; omega
      have hmore := law.more (roomV f g 2) (room_two f g)
      repeat' first | exact trivial | exact rfl | exact hl | exact l5 | exact hm | (intro _ _) | apply And.intro
      exact ite2_decide (fun _ => ⟨(), [], [0], trivial, by (repeat' first | exact trivial | exact rfl | apply And.intro)⟩) (fun hb => absurd (Int.ofNat_le.2 hmore) hb)
    · have hv' : v = 0 := by omega
      subst hv'
      repeat' first | exact trivial | exact rfl | decide | (unfold i64ok; decide) | apply And.intro
      refine ⟨(1 : Nat), [], [0, 1, 2, 3, 4, 5, 6, 7], by show 1 ≤ 2; decide, by decide, into_mk (by kernel_rfl) (by (repeat' first | exact trivial | exact rfl | apply And.intro)) (by (repeat' first | exact trivial | exact rfl | apply And.intro))⟩
    · have hv' : v = 1 := by omega
      subst hv'
      repeat' first | exact trivial | exact rfl | decide | (unfold i64ok; decide) | apply And.intro
      refine ⟨(2 : Nat), [], [0, 1, 2, 3, 4, 5, 6, 7], by show 2 ≤ 2; decide, by decide, into_mk (by kernel_rfl) (by (repeat' first | exact trivial | exact rfl | apply And.intro)) (by (repeat' first | exact trivial | exact rfl | apply And.intro))⟩
end Go.Proofs.Ytljamcgngojaeaa.T
