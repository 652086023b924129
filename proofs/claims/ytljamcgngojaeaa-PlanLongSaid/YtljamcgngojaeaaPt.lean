/- The plan: as many items as there is room for, the function's proof. -/
import Derived.Test.YtljamcgngojaeaaPs
import Derived.Test.YtljamcgngojaeaaPq
namespace Go.Proofs.Ytljamcgngojaeaa.T
open Go.Proofs.Ytljamcgngojaeaa.E
set_option maxRecDepth 100000
set_option linter.unusedVariables false
theorem bal_next (l : List Cell) (most : Int) {z : Nat} (h : z < (ofF l most).items.length) : bal l most (z + 1) = balStep l (bal l most z) (itG l most z) := by
  unfold bal
  rw [take_snoc (d := item0) h, balF_snoc]
theorem fits_next (l : List Cell) (most : Int) (f : Four) {z : Nat} (h : z < (ofF l most).items.length) :
    fitsL l f ((ofF l most).items.drop z) (bal l most z) = if okIt l f (bal l most z) (itG l most z) then fitsL l f ((ofF l most).items.drop (z + 1)) (bal l most (z + 1)) + 1 else 0 := by
  rw [List.drop_eq_getElem_cons h, bal_next l most h, show itG l most z = (ofF l most).items[z] from by unfold itG rd; rw [List.getD_eq_getElem?_getD, List.getElem?_eq_getElem h]; rfl]
  rfl
set_option maxHeartbeats 8000000 in
theorem fits_ok (l : List Cell) (most : Int) (f : Four) : CtOk Try.prog 21 (ct_fits l most f) := CtOk_of KK_ok tab9 (annFits l most f) (fn := Try.f21) rfl (fun _ _ => rfl) fun hn => by
  obtain ⟨hl, hn, hm⟩ := hn
  rw [vc_fits]
  have hits := ofS_items l (leftOf l most) l.length
  have n5 : (ofF l most).items.length ≤ 100000 := Nat.le_trans hits.1 hn
  have hit : ∀ z, z < (ofF l most).items.length → (0 ≤ (itG l most z).cell ∧ (itG l most z).cell < (l.length : Int)) ∧ ((itG l most z).dst = 0 ∨ (itG l most z).dst = 1) := fun z hz => hits.2 _ (rd_mem' (d := item0) hz)
  refine ⟨⟨hl, hn, hm⟩, into_mk (by kernel_rfl) (by (repeat' first | exact trivial | exact rfl | apply And.intro)) (by (repeat' first | exact trivial | exact rfl | apply And.intro)), fun _ _ => ⟨⟨(0 : Nat), [], [0, 1, 2, 3, 4, 5], ⟨Nat.zero_le _, (Nat.zero_add _).symm⟩, trivial, into_mk (by kernel_rfl) (by (repeat' first | exact trivial | exact rfl | apply And.intro)) (by (repeat' first | exact trivial | exact rfl | apply And.intro))⟩, fun z hz => ite2_decide (fun hlt => ?_) (fun hge => ?_)⟩⟩
  · obtain ⟨hz, hF⟩ := hz
    have z1 : (0 : Int) ≤ z ∧ (z : Int) < (ofF l most).items.length := ⟨by omega, hlt⟩
    have z2 : z < (ofF l most).items.length := by omega
    have hi1 : i64ok ((z : Int) + 1) := by unfold i64ok; omega
    simp only [Int.toNat_natCast, Nat.zero_add]
    obtain ⟨ic, id⟩ := hit z z2
    have c0 : (itG l most z).cell.toNat < l.length := by omega
    have hc := hl.rd (itG l most z).cell.toNat
    have hb0 := balF_ok hl ((ofF l most).items.take z)
    have hnb := bal_next l most z2
    have hnf := fits_next l most f z2
    have stop : okIt l f (bal l most z) (itG l most z) = false → (z : Int) = (fitsF l most f : Int) := fun h => by
      have hF' : fitsF l most f = z + fitsL l f ((ofF l most).items.drop z) (bal l most z) := hF
      rw [hF', hnf, h]; simp
    have go : okIt l f (bal l most z) (itG l most z) = true → fitsF l most f = (z + 1) + fitsL l f ((ofF l most).items.drop (z + 1)) (bal l most (z + 1)) := fun h => by
      have hF' : fitsF l most f = z + fitsL l f ((ofF l most).items.drop z) (bal l most z) := hF
      rw [hF', hnf, if_pos h]; omega
    refine ⟨⟨z1, z2, trivial, z2, ?_⟩, fun _ hd => ⟨ite2_decide (fun hw => ?_) (fun hw => ?_), fun _ _ => ⟨?_, fun v hv => ?_⟩⟩, fun _ hd => ⟨ite2_decide (fun hw => ?_) (fun hw => ?_), fun _ _ => ⟨?_, fun v hv => ?_⟩⟩⟩
    · rcases id with id | id
      · have hq := id
        refine .inl ⟨(), [], [0, 1, 2, 3, 4, 5, 6], ?_, trivial, into_mk (by kernel_rfl) (by (repeat' first | exact trivial | exact rfl | apply And.intro)) ?_⟩
        · exact id
        · simp only [invF6, HF, Int.toNat_natCast]; (repeat' first | exact trivial | exact rfl | exact hq | apply And.intro)
      · have hq := id
        refine .inr ⟨(), [], [0, 1, 2, 3, 4, 5, 6], ?_, trivial, into_mk (by kernel_rfl) (by (repeat' first | exact trivial | exact rfl | apply And.intro)) ?_⟩
        · exact id
        · simp only [invF6, HF, Int.toNat_natCast]; (repeat' first | exact trivial | exact rfl | exact hq | apply And.intro)
    · have hb : bal l most (z + 1) = bal l most z := by rw [hnb, balStep]; exact if_pos hw
      have hn1 : needN l (bal l most z) (itG l most z) = 0 := if_pos hw
      have hn2 : needB l (bal l most z) (itG l most z) = 0 := if_pos hw
      exact ⟨(), [], [0, 1, 2, 3, 4, 5, 6, 7], trivial, trivial, into_mk (by kernel_rfl) (by (repeat' first | exact trivial | exact rfl | apply And.intro)) (by simp only [invF9, HF, Int.toNat_natCast, hb, hn1, hn2]; (repeat' first | exact trivial | exact rfl | apply And.intro))⟩
    · have hb : bal l most (z + 1) = ⟨after (bal l most z).n0 (cellOf l (itG l most z)).names (cellOf l (itG l most z)).hadN, after (bal l most z).b0 (cellOf l (itG l most z)).bytes (cellOf l (itG l most z)).hadB, (bal l most z).n1, (bal l most z).b1⟩ := by rw [hnb, balStep]; exact (if_neg hw).trans (if_pos hd)
      have hn1 : needN l (bal l most z) (itG l most z) = addF (bal l most z).n0 (max (cellOf l (itG l most z)).names 0) := (if_neg hw).trans (by rw [if_pos hd])
      have hn2 : needB l (bal l most z) (itG l most z) = addF (bal l most z).b0 (max (cellOf l (itG l most z)).bytes 0) := (if_neg hw).trans (by rw [if_pos hd])
      repeat' first | exact trivial | exact rfl | decide | exact ic | exact c0 | exact hb0.n0 | exact hb0.b0 | exact hc | exact ⟨(), [], [0, 1, 2, 3, 4, 5, 6, 7], trivial, trivial, into_mk (by kernel_rfl) (by (repeat' first | exact trivial | exact rfl | apply And.intro)) (by simp only [invF9, HF, Int.toNat_natCast, hb, hn1, hn2]; (repeat' first | exact trivial | exact rfl | apply And.intro))⟩ | exact into_mk (by kernel_rfl) (by (repeat' first | exact trivial | exact rfl | apply And.intro)) (by (repeat' first | exact trivial | exact rfl | apply And.intro)) | (intro _ _) | apply And.intro
    · exact ⟨(0 : Nat), [], [0, 1, 2, 3, 4, 5, 6, 7], ⟨Nat.zero_le _, fun h => absurd h (Nat.lt_irrefl _), fun h => absurd h (by decide)⟩, trivial, into_mk (by kernel_rfl) (by (repeat' first | exact trivial | exact rfl | apply And.intro)) (by simp only [invF10, HF, HG, Int.toNat_natCast]; (repeat' first | exact trivial | exact rfl | apply And.intro))⟩
    · refine ite2_decide (fun hv2 => ⟨?_, fun _ h0 => ⟨by decide, ite2_decide (fun hb => by have hq := stop (by rw [okIt, if_pos hd]; exact decide_eq_false (fun h => absurd hb (Int.not_lt.2 h.1))); exact ⟨(), [], [0], trivial, by (repeat' first | exact trivial | exact rfl | exact hq | apply And.intro)⟩) (fun hb1 => ite2_decide (fun hb => by have hq := stop (by rw [okIt, if_pos hd]; exact decide_eq_false (fun h => absurd hb (Int.not_lt.2 h.2))); exact ⟨(), [], [0], trivial, by (repeat' first | exact trivial | exact rfl | exact hq | apply And.intro)⟩) (fun hb2 => ⟨by unfold i64ok; decide, ⟨(1 : Nat), [], [0, 1, 2, 3, 4, 5, 6, 7], ⟨by decide, fun _ _ => ⟨Int.not_lt.1 hb1, Int.not_lt.1 hb2⟩, fun h => absurd h (by decide)⟩, by omega, into_mk (by kernel_rfl) (by (repeat' first | exact trivial | exact rfl | apply And.intro)) (by simp only [invF10, HG, HF, Int.toNat_natCast]; (repeat' first | exact trivial | exact rfl | apply And.intro))⟩⟩))⟩, fun _ h1 => ⟨by decide, ite2_decide (fun hb => absurd hb (by omega)) (fun _ => ite2_decide (fun hb => absurd hb (by omega)) (fun _ => ⟨by unfold i64ok; decide, ⟨(2 : Nat), [], [0, 1, 2, 3, 4, 5, 6, 7], ⟨by decide, fun _ _ => hv.2.1 (by omega) (by first | exact trivial | rfl), fun _ h => absurd h (by decide)⟩, by omega, into_mk (by kernel_rfl) (by (repeat' first | exact trivial | exact rfl | apply And.intro)) (by simp only [invF10, HG, HF, Int.toNat_natCast]; (repeat' first | exact trivial | exact rfl | apply And.intro))⟩⟩))⟩⟩) (fun hv2 => ⟨hi1, ⟨(z + 1 : Nat), [], [0, 1, 2, 3, 4, 5], ⟨z2, go (by rw [okIt, if_pos hd]; exact decide_eq_true (hv.2.1 (by omega) (by first | exact trivial | rfl)))⟩, by omega, into_mk (by kernel_rfl) (by (repeat' first | exact trivial | exact rfl | apply And.intro)) (by simp only [invF4, HF]; (repeat' first | exact trivial | exact rfl | apply And.intro))⟩⟩)
      rcases (by omega : v = 0 ∨ v = 1) with rfl | rfl
      · exact .inl ⟨(), [], [0, 1, 2, 3, 4, 5, 6, 7], rfl, trivial, into_mk (by kernel_rfl) (by (repeat' first | exact trivial | exact rfl | apply And.intro)) (by simp only [invF11, HG, HF, Int.toNat_natCast]; (repeat' first | exact trivial | exact rfl | apply And.intro))⟩
      · exact .inr ⟨(), [], [0, 1, 2, 3, 4, 5, 6, 7], rfl, trivial, into_mk (by kernel_rfl) (by (repeat' first | exact trivial | exact rfl | apply And.intro)) (by simp only [invF11, HG, HF, Int.toNat_natCast]; (repeat' first | exact trivial | exact rfl | apply And.intro))⟩
    · have hb : bal l most (z + 1) = bal l most z := by rw [hnb, balStep]; exact if_pos hw
      have hn1 : needN l (bal l most z) (itG l most z) = 0 := if_pos hw
      have hn2 : needB l (bal l most z) (itG l most z) = 0 := if_pos hw
      exact ⟨(), [], [0, 1, 2, 3, 4, 5, 6, 7], trivial, trivial, into_mk (by kernel_rfl) (by (repeat' first | exact trivial | exact rfl | apply And.intro)) (by simp only [invF9, HF, Int.toNat_natCast, hb, hn1, hn2]; (repeat' first | exact trivial | exact rfl | apply And.intro))⟩
    · have hb : bal l most (z + 1) = ⟨(bal l most z).n0, (bal l most z).b0, after (bal l most z).n1 (cellOf l (itG l most z)).names (cellOf l (itG l most z)).hadN, after (bal l most z).b1 (cellOf l (itG l most z)).bytes (cellOf l (itG l most z)).hadB⟩ := by rw [hnb, balStep]; exact (if_neg hw).trans (if_neg (by rw [hd]; decide))
      have hn1 : needN l (bal l most z) (itG l most z) = addF (bal l most z).n1 (max (cellOf l (itG l most z)).names 0) := (if_neg hw).trans (by rw [if_neg (by rw [hd]; decide)])
      have hn2 : needB l (bal l most z) (itG l most z) = addF (bal l most z).b1 (max (cellOf l (itG l most z)).bytes 0) := (if_neg hw).trans (by rw [if_neg (by rw [hd]; decide)])
      repeat' first | exact trivial | exact rfl | decide | exact ic | exact c0 | exact hb0.n1 | exact hb0.b1 | exact hc | exact ⟨(), [], [0, 1, 2, 3, 4, 5, 6, 7], trivial, trivial, into_mk (by kernel_rfl) (by (repeat' first | exact trivial | exact rfl | apply And.intro)) (by simp only [invF9, HF, Int.toNat_natCast, hb, hn1, hn2]; (repeat' first | exact trivial | exact rfl | apply And.intro))⟩ | exact into_mk (by kernel_rfl) (by (repeat' first | exact trivial | exact rfl | apply And.intro)) (by (repeat' first | exact trivial | exact rfl | apply And.intro)) | (intro _ _) | apply And.intro
    · exact ⟨(0 : Nat), [], [0, 1, 2, 3, 4, 5, 6, 7], ⟨Nat.zero_le _, fun h => absurd h (Nat.lt_irrefl _), fun h => absurd h (by decide)⟩, trivial, into_mk (by kernel_rfl) (by (repeat' first | exact trivial | exact rfl | apply And.intro)) (by simp only [invF10, HF, HG, Int.toNat_natCast]; (repeat' first | exact trivial | exact rfl | apply And.intro))⟩
    · refine ite2_decide (fun hv2 => ⟨?_, fun _ h0 => ⟨by decide, ite2_decide (fun hb => absurd hb (by omega)) (fun _ => ite2_decide (fun hb => absurd hb (by omega)) (fun _ => ⟨by unfold i64ok; decide, ⟨(1 : Nat), [], [0, 1, 2, 3, 4, 5, 6, 7], ⟨by decide, fun _ h => absurd h (by decide), fun h => absurd h (by decide)⟩, by omega, into_mk (by kernel_rfl) (by (repeat' first | exact trivial | exact rfl | apply And.intro)) (by simp only [invF10, HG, HF, Int.toNat_natCast]; (repeat' first | exact trivial | exact rfl | apply And.intro))⟩⟩))⟩, fun _ h1 => ⟨by decide, ite2_decide (fun hb => by have hq := stop (by rw [okIt, if_neg (by rw [hd]; decide)]; exact decide_eq_false (fun h => absurd hb (Int.not_lt.2 h.1))); exact ⟨(), [], [0], trivial, by (repeat' first | exact trivial | exact rfl | exact hq | apply And.intro)⟩) (fun hb1 => ite2_decide (fun hb => by have hq := stop (by rw [okIt, if_neg (by rw [hd]; decide)]; exact decide_eq_false (fun h => absurd hb (Int.not_lt.2 h.2))); exact ⟨(), [], [0], trivial, by (repeat' first | exact trivial | exact rfl | exact hq | apply And.intro)⟩) (fun hb2 => ⟨by unfold i64ok; decide, ⟨(2 : Nat), [], [0, 1, 2, 3, 4, 5, 6, 7], ⟨by decide, fun _ h => absurd h (by decide), fun _ _ => ⟨Int.not_lt.1 hb1, Int.not_lt.1 hb2⟩⟩, by omega, into_mk (by kernel_rfl) (by (repeat' first | exact trivial | exact rfl | apply And.intro)) (by simp only [invF10, HG, HF, Int.toNat_natCast]; (repeat' first | exact trivial | exact rfl | apply And.intro))⟩⟩))⟩⟩) (fun hv2 => ⟨hi1, ⟨(z + 1 : Nat), [], [0, 1, 2, 3, 4, 5], ⟨z2, go (by rw [okIt, if_neg (by rw [hd]; decide)]; exact decide_eq_true (hv.2.2 (by omega) (by first | exact trivial | rfl)))⟩, by omega, into_mk (by kernel_rfl) (by (repeat' first | exact trivial | exact rfl | apply And.intro)) (by simp only [invF4, HF]; (repeat' first | exact trivial | exact rfl | apply And.intro))⟩⟩)
      rcases (by omega : v = 0 ∨ v = 1) with rfl | rfl
      · exact .inl ⟨(), [], [0, 1, 2, 3, 4, 5, 6, 7], rfl, trivial, into_mk (by kernel_rfl) (by (repeat' first | exact trivial | exact rfl | apply And.intro)) (by simp only [invF11, HG, HF, Int.toNat_natCast]; (repeat' first | exact trivial | exact rfl | apply And.intro))⟩
      · exact .inr ⟨(), [], [0, 1, 2, 3, 4, 5, 6, 7], rfl, trivial, into_mk (by kernel_rfl) (by (repeat' first | exact trivial | exact rfl | apply And.intro)) (by simp only [invF11, HG, HF, Int.toNat_natCast]; (repeat' first | exact trivial | exact rfl | apply And.intro))⟩
  · obtain ⟨hz, hF⟩ := hz
    have e : z = (ofF l most).items.length := by have : z ≤ (ofF l most).items.length := hz; omega
    have hq : ((ofF l most).items.length : Int) = (fitsF l most f : Int) := by
      have hF' : fitsF l most f = z + fitsL l f ((ofF l most).items.drop z) (bal l most z) := hF
      rw [hF', e, List.drop_length]; rfl
    exact ⟨(), [], [0], trivial, by (repeat' first | exact trivial | exact rfl | exact hq | apply And.intro)⟩
end Go.Proofs.Ytljamcgngojaeaa.T
