/- The plan: what is left, the function. -/
import Derived.Test.YtljamcgngojaeaaPl
namespace Go.Proofs.Ytljamcgngojaeaa.T
open Go.Proofs.Ytljamcgngojaeaa.E
set_option maxRecDepth 100000
set_option linter.unusedVariables false
theorem smallF_range (n : Int) : 0 ≤ smallF n ∧ smallF n < 1099511627776 := by
  have h1 := Int.emod_nonneg (n.natAbs : Int) (show (1099511627776 : Int) ≠ 0 by decide)
  unfold smallF
  have h2 : (Int.tmod n 1099511627776).natAbs < 1099511627776 := by
    rw [Int.natAbs_tmod]; exact Nat.mod_lt _ (by decide)
  split <;> omega
theorem smallF_i64 (n : Int) : i64ok (smallF n) := by have := smallF_range n; unfold i64ok; omega
theorem mem_pc {l : List Cell} {c : Cell} (h : c ∈ pc l) : ∃ d ∈ l, c = plainC d := by
  unfold pc plainF at h
  rw [List.take_length] at h
  obtain ⟨d, h1, h2⟩ := List.mem_map.1 h
  exact ⟨d, h1, h2.symm⟩
theorem pc_len (l : List Cell) : (plainF l l.length).length = l.length := (plainF_len (Nat.le_refl _)).symm
theorem pc_cells {l : List Cell} (h : Cells l) : Cells (pc l) := fun c hc => by
  obtain ⟨d, hd, rfl⟩ := mem_pc hc
  have := h d hd
  exact ⟨this.what, this.side, this.mode, smallF_i64 _, smallF_i64 _, smallF_i64 _, smallF_i64 _, smallF_i64 _, smallF_i64 _⟩
theorem pc_low {l : List Cell} (h : l.length ≤ 300) : Low (pc l) := ⟨by rw [pc_len]; exact h, fun c hc => by
  obtain ⟨d, hd, rfl⟩ := mem_pc hc
  exact ⟨smallF_range _, smallF_range _⟩⟩
theorem lessF_succ {lf : List Int} {la : Int} {z : Nat} (h : z < lf.length) : lessF lf la (z + 1) = if rd lf z 0 = la then lessF lf la z else lessF lf la z ++ [rd lf z 0] := by
  unfold lessF
  rw [List.take_add_one, List.getElem?_eq_getElem h, List.filter_append]
  have : rd lf z 0 = lf[z] := by unfold rd; rw [List.getD_eq_getElem?_getD, List.getElem?_eq_getElem h]; rfl
  rw [this]
  by_cases e : lf[z] = la
  · rw [if_pos e]; simp [e]
  · rw [if_neg e]; simp [e]
theorem want_one {a b : List Int} {n : Nat} (h : n ≤ a.length) : List.take ((a.length : Int) - ((a.length : Int) - (n : Int))).toNat (List.drop (0 + ((a.length : Int) - (n : Int)).toNat) a) = wantF a b n := by
  rw [wantF, if_pos h, show 0 + ((a.length : Int) - (n : Int)).toNat = a.length - n by omega, List.take_of_length_le (by rw [List.length_drop]; omega)]
theorem want_two {a b : List Int} {n : Nat} (h : ¬ n ≤ a.length) (h' : n ≤ a.length + b.length) : List.take a.length a ++ List.take ((b.length : Int) - ((b.length : Int) - ((n : Int) - (a.length : Int)))).toNat (List.drop (0 + ((b.length : Int) - ((n : Int) - (a.length : Int))).toNat) b) = wantF a b n := by
  rw [wantF, if_neg h, List.take_length, show 0 + ((b.length : Int) - ((n : Int) - (a.length : Int))).toNat = b.length - (n - a.length) by omega, List.take_of_length_le (by rw [List.length_drop]; omega)]
theorem last_one {a b : List Int} {n : Nat} (h : n ≤ a.length) (h0 : 0 < n) : rd a (0 + ((a.length : Int) - (n : Int)).toNat) 0 = lastF a b n := by
  rw [lastF, if_pos h, if_pos h0, show 0 + ((a.length : Int) - (n : Int)).toNat = a.length - n by omega]
theorem last_none {a b : List Int} {n : Nat} (h0 : ¬ 0 < n) : (-1 : Int) = lastF a b n := by
  rw [lastF, if_pos (by omega), if_neg h0]
theorem last_two {a b : List Int} {n : Nat} (h : ¬ n ≤ a.length) (h' : n ≤ a.length + b.length) : rd b (0 + ((b.length : Int) - ((n : Int) - (a.length : Int))).toNat) 0 = lastF a b n := by
  rw [lastF, if_neg h, show 0 + ((b.length : Int) - ((n : Int) - (a.length : Int))).toNat = b.length - (n - a.length) by omega]
theorem left_law' {l : List Cell} (h : l.length ≤ 300) (most : Int) : LeftLaw (pc l) (mostF most) (lfF l most) (aF l) (bF l) := by
  have := left_law (pc_low h) (mostF most)
  have e : lfF l most = bl (leaveF (pc l) (mostF most)) (pc l).length := ofS_left _ _ _
  rw [e]; exact this
set_option maxHeartbeats 4000000 in
theorem planLeft_ok (l : List Cell) (most : Int) : CtOk Try.prog 4 (ct_planLeft l most) := CtOk_of KK_ok tab9 (annLeft l most) (fn := Try.f4) rfl (fun _ _ => rfl) fun hn => by
  obtain ⟨hl, hp, hm⟩ := hn
  rw [vc_planLeft]
  refine ⟨hp, into_mk (by kernel_rfl) (by (repeat' first | exact trivial | exact rfl | apply And.intro)) (by (repeat' first | exact trivial | exact rfl | apply And.intro)), fun y hy => ite2_mk (fun hy1 => ?_) (fun hy0 => ⟨(), [], [0], trivial, by (repeat' first | exact trivial | exact rfl | apply And.intro)⟩)⟩
  have h300 := hy hy1
  have law := left_law' h300 most
  have hpl := pc_len l
  have hlow := pc_low h300
  have na : (gA (plainF l l.length) (plainF l l.length).length).length ≤ 300 := Nat.le_trans (gA_len _ _) hlow.1
  have nb : (gB (plainF l l.length) (plainF l l.length).length).length ≤ 300 := Nat.le_trans (gB_len _ _) hlow.1
  have nn : (ofF (plainF l l.length) most).left.length ≤ (gA (plainF l l.length) (plainF l l.length).length).length + (gB (plainF l l.length) (plainF l l.length).length).length := law.few
  have wl : (wantF (gA (plainF l l.length) (plainF l l.length).length) (gB (plainF l l.length) (plainF l l.length).length) (ofF (plainF l l.length) most).left.length).length = (ofF (plainF l l.length) most).left.length := law.wlen
  have lw : (ofF (plainF l l.length) most).left.length < (gA (plainF l l.length) (plainF l l.length).length).length + (gB (plainF l l.length) (plainF l l.length).length).length → lworstF (plainF l l.length) (ofF (plainF l l.length) most).left ≤ min (max most 1) 1048576 := law.worst
  have hll := law.last
  refine ⟨trivial, into_mk (by kernel_rfl) (by (repeat' first | exact trivial | exact rfl | apply And.intro)) (by (repeat' first | exact trivial | exact rfl | apply And.intro)), fun _ _ => ⟨⟨hl, h300⟩, into_mk (by kernel_rfl) (by (repeat' first | exact trivial | exact rfl | apply And.intro)) (by (repeat' first | exact trivial | exact rfl | apply And.intro)), fun _ _ => ⟨⟨pc_cells hl, by rw [hpl]; omega, hm⟩, into_mk (by kernel_rfl) ?_ (by (repeat' first | exact trivial | exact rfl | apply And.intro)), fun _ _ => ⟨hlow.1, into_mk (by kernel_rfl) ?_ (by (repeat' first | exact trivial | exact rfl | apply And.intro)), fun _ _ => ⟨⟨(1 : Nat), [], [0, 1, 2, 3, 4, 5, 6, 7], Nat.le_refl _, trivial, into_mk (by kernel_rfl) (by (repeat' first | exact trivial | exact rfl | apply And.intro)) (by (repeat' first | exact trivial | exact rfl | apply And.intro))⟩, fun z hz => ite2_decide (fun hlt => ?_) (fun hge => ⟨?_, fun _ _ => ⟨⟨(0 : Nat), [], [0, 1, 2, 3, 4, 5, 6, 7, 8], Nat.zero_le _, trivial, into_mk (by kernel_rfl) (by (repeat' first | exact trivial | exact rfl | apply And.intro)) (by (repeat' first | exact trivial | exact rfl | apply And.intro))⟩, fun z hz => ite2_decide (fun hlt => ?_) (fun hge => ⟨?_, fun _ _ => ⟨⟨(0 : Nat), [.int], [0, 1, 2, 3, 4, 5, 6, 7, 8], Nat.zero_le _, trivial, into_mk (by kernel_rfl) (by (repeat' first | exact trivial | exact rfl | apply And.intro)) (by (repeat' first | exact trivial | exact rfl | apply And.intro))⟩, fun z hz => ite2_decide (fun hlt => ?_) (fun hge => ?_)⟩⟩)⟩⟩)⟩⟩⟩⟩⟩
  · rw [hpl]; (repeat' first | exact trivial | exact rfl | apply And.intro)
  · rw [hpl]; (repeat' first | exact trivial | exact rfl | apply And.intro)
  · have z1 : (0 : Int) ≤ z ∧ (z : Int) < (ofF (plainF l l.length) most).left.length := ⟨by omega, hlt⟩
    have e : (z : Int) - 1 = ((z - 1 : Nat) : Int) := by omega
    simp only [e, Int.toNat_natCast, Nat.zero_add]
    refine ⟨z1, by omega, trivial, by omega, by unfold i64ok; omega, by omega, by omega, trivial, by omega, ite2_decide (fun hb => ?_) (fun _ => ⟨trivial, by unfold i64ok; omega, ⟨(z + 1 : Nat), [], [0, 1, 2, 3, 4, 5, 6, 7], Nat.le_add_left _ _, by omega, into_mk (by kernel_rfl) (by (repeat' first | exact trivial | exact rfl | apply And.intro)) (by (repeat' first | exact trivial | exact rfl | apply And.intro))⟩⟩)⟩
    have z2 : z < (ofF (plainF l l.length) most).left.length := by omega
    have := law.incr z hz z2
    exact absurd hb (Int.not_le.2 this)
  · refine ite2_decide (fun h1 => ?_) (fun h1 => ⟨by unfold i64ok; omega, ite2_decide (fun h2 => ?_) (fun h2 => absurd (by omega) h2)⟩)
    · have h1' : (ofF (plainF l l.length) most).left.length ≤ (gA (plainF l l.length) (plainF l l.length).length).length := by omega
      have hq := want_one (b := gB (plainF l l.length) (plainF l l.length).length) h1'
      rw [hq]
      refine ⟨by unfold i64ok; omega, by omega, by omega, ⟨by omega, trivial⟩, by rw [wl]; omega, ite2_decide (fun h3 => ?_) (fun h3 => ?_)⟩
      · rw [last_one (b := gB (plainF l l.length) (plainF l l.length).length) h1' (by omega)]
        exact ⟨by unfold i64ok; omega, by omega, by omega, trivial, by omega, ⟨(), [], [0, 1, 2, 3, 4, 5, 6, 7, 8], trivial, trivial, into_mk (by kernel_rfl) (by (repeat' first | exact trivial | exact rfl | apply And.intro)) (by (repeat' first | exact trivial | exact rfl | exact hq | apply And.intro))⟩⟩
      · rw [last_none (a := gA (plainF l l.length) (plainF l l.length).length) (b := gB (plainF l l.length) (plainF l l.length).length) (n := (ofF (plainF l l.length) most).left.length) (by omega)]
        exact ⟨(), [], [0, 1, 2, 3, 4, 5, 6, 7, 8], trivial, trivial, into_mk (by kernel_rfl) (by (repeat' first | exact trivial | exact rfl | apply And.intro)) (by (repeat' first | exact trivial | exact rfl | exact hq | apply And.intro))⟩
    · have h1' : ¬ (ofF (plainF l l.length) most).left.length ≤ (gA (plainF l l.length) (plainF l l.length).length).length := by omega
      have hq := want_two (b := gB (plainF l l.length) (plainF l l.length).length) h1' nn
      have hw' : (List.take (gA (plainF l l.length) (plainF l l.length).length).length (gA (plainF l l.length) (plainF l l.length).length)).length + (List.take ((↑(gB (plainF l l.length) (plainF l l.length).length).length : Int) - ((↑(gB (plainF l l.length) (plainF l l.length).length).length : Int) - ((↑(ofF (plainF l l.length) most).left.length : Int) - (↑(gA (plainF l l.length) (plainF l l.length).length).length : Int)))).toNat (List.drop (0 + ((↑(gB (plainF l l.length) (plainF l l.length).length).length : Int) - ((↑(ofF (plainF l l.length) most).left.length : Int) - (↑(gA (plainF l l.length) (plainF l l.length).length).length : Int))).toNat) (gB (plainF l l.length) (plainF l l.length).length))).length = (ofF (plainF l l.length) most).left.length := by
        rw [← List.length_append, hq, wl]
      rw [last_two (a := gA (plainF l l.length) (plainF l l.length).length) (b := gB (plainF l l.length) (plainF l l.length).length) h1' nn, hw']
      have t1 : (List.take (gA (plainF l l.length) (plainF l l.length).length).length (gA (plainF l l.length) (plainF l l.length).length)).length = (gA (plainF l l.length) (plainF l l.length).length).length := by rw [List.take_length]
      repeat' first | exact trivial | exact rfl | omega | (unfold i64ok; omega) | exact ⟨(), [], [0, 1, 2, 3, 4, 5, 6, 7, 9], trivial, trivial, into_mk (by kernel_rfl) (by (repeat' first | exact trivial | exact rfl | exact wl.symm | apply And.intro)) (by (repeat' first | exact trivial | exact rfl | exact hq | apply And.intro))⟩ | apply And.intro
  · have z1 : (0 : Int) ≤ z ∧ (z : Int) < (ofF (plainF l l.length) most).left.length := ⟨by omega, hlt⟩
    simp only [Int.toNat_natCast, Nat.zero_add]
    refine ⟨z1, by omega, trivial, by omega, by rw [wl]; unfold i64ok; omega, into_mk (by kernel_rfl) (by (repeat' first | exact trivial | exact rfl | apply And.intro)) (by (repeat' first | exact trivial | exact rfl | apply And.intro)), fun _ _ => ite2_decide (fun hb => ⟨by unfold i64ok; omega, ⟨(z + 1 : Nat), [], [0, 1, 2, 3, 4, 5, 6, 7, 8], by show z + 1 ≤ (ofF (plainF l l.length) most).left.length; omega, by omega, into_mk (by kernel_rfl) (by (repeat' first | exact trivial | exact rfl | apply And.intro)) (by (repeat' first | exact trivial | exact rfl | apply And.intro))⟩⟩) (fun hb => absurd (law.want _ (rd_mem (show z < (ofF (plainF l l.length) most).left.length by omega))) hb)⟩
  · refine ite2_decide (fun _ => ⟨by unfold i64ok; omega, ite2_decide (fun hb => ⟨⟨hlow, by unfold i64ok; omega⟩, into_mk (by kernel_rfl) ?_ (by (repeat' first | exact trivial | exact rfl | apply And.intro)), fun _ _ => ite2_decide (fun hw => absurd hw (Int.not_lt.2 (lw (by omega)))) (fun _ => ⟨(), [], [0, 1, 2, 3, 4, 5, 6, 7], trivial, trivial, into_mk (by kernel_rfl) (by (repeat' first | exact trivial | exact rfl | apply And.intro)) (by (repeat' first | exact trivial | exact rfl | apply And.intro))⟩)⟩) (fun _ => ⟨(), [], [0, 1, 2, 3, 4, 5, 6, 7], trivial, trivial, into_mk (by kernel_rfl) (by (repeat' first | exact trivial | exact rfl | apply And.intro)) (by (repeat' first | exact trivial | exact rfl | apply And.intro))⟩)⟩) (fun hb => absurd (by rw [wl]) hb)
    rw [hpl]; (repeat' first | exact trivial | exact rfl | apply And.intro)
  · have z1 : (0 : Int) ≤ z ∧ (z : Int) < (ofF (plainF l l.length) most).left.length := ⟨by omega, hlt⟩
    have z2 : z < (ofF (plainF l l.length) most).left.length := by omega
    have hs := lessF_succ (la := lastF (gA (plainF l l.length) (plainF l l.length).length) (gB (plainF l l.length) (plainF l l.length).length) (ofF (plainF l l.length) most).left.length) z2
    have ll : (lessF (ofF (plainF l l.length) most).left (lastF (gA (plainF l l.length) (plainF l l.length).length) (gB (plainF l l.length) (plainF l l.length).length) (ofF (plainF l l.length) most).left.length) z).length ≤ 600 := by
      refine Nat.le_trans (List.length_filter_le _ _) ?_
      rw [List.length_take]; omega
    simp only [Int.toNat_natCast, Nat.zero_add]
    refine ⟨z1, z2, trivial, z2, ite2_decide (fun hb => ⟨by unfold i64ok; omega, ⟨(z + 1 : Nat), [], [0, 1, 2, 3, 4, 5, 6, 7, 8], z2, by omega, into_mk (by kernel_rfl) ?_ ?_⟩⟩) (fun hb => ?_)⟩
    · rw [if_pos hb] at hs
      simp only [invQ34, leF, hs]
      (repeat' first | exact trivial | exact rfl | apply And.intro)
    · rw [if_pos hb] at hs
      simp only [invQ34, leF, hs]
      (repeat' first | exact trivial | exact rfl | apply And.intro)
    · rw [if_neg hb] at hs
      have hq := hs.symm
      have wl : (lessF (ofF (plainF l l.length) most).left (lastF (gA (plainF l l.length) (plainF l l.length).length) (gB (plainF l l.length) (plainF l l.length).length) (ofF (plainF l l.length) most).left.length) (z + 1)).length = (lessF (ofF (plainF l l.length) most).left (lastF (gA (plainF l l.length) (plainF l l.length).length) (gB (plainF l l.length) (plainF l l.length).length) (ofF (plainF l l.length) most).left.length) z).length + 1 := by rw [hs]; simp
      repeat' first | exact trivial | exact rfl | omega | (unfold i64ok; omega) | exact ⟨(z + 1 : Nat), [], [0, 1, 2, 3, 4, 5, 6, 7, 10], z2, by omega, into_mk (by kernel_rfl) (by (repeat' first | exact trivial | exact rfl | exact wl.symm | apply And.intro)) (by (repeat' first | exact trivial | exact rfl | exact hq | apply And.intro))⟩ | apply And.intro
  · have hz' : z = (ofF (plainF l l.length) most).left.length := by omega
    subst hz'
    have ll : (lessF (ofF (plainF l l.length) most).left (lastF (gA (plainF l l.length) (plainF l l.length).length) (gB (plainF l l.length) (plainF l l.length).length) (ofF (plainF l l.length) most).left.length) (ofF (plainF l l.length) most).left.length).length ≤ 600 := by
      refine Nat.le_trans (List.length_filter_le _ _) ?_
      rw [List.length_take]; omega
    refine ite2_decide (fun _ => ⟨(), [], [0], trivial, by (repeat' first | exact trivial | exact rfl | apply And.intro)⟩) (fun hb => ⟨⟨hlow, by unfold i64ok; omega⟩, into_mk (by kernel_rfl) ?_ (by (repeat' first | exact trivial | exact rfl | apply And.intro)), fun _ _ => ite2_decide (fun _ => ⟨(), [], [0], trivial, by (repeat' first | exact trivial | exact rfl | apply And.intro)⟩) (fun hw => ?_)⟩)
    · rw [hpl]; (repeat' first | exact trivial | exact rfl | apply And.intro)
    · rcases hll with h0 | h0
      · exact absurd (by rw [show (ofF (plainF l l.length) most).left.length = 0 from h0]; rfl) hb
      · exact absurd h0 hw
end Go.Proofs.Ytljamcgngojaeaa.T
