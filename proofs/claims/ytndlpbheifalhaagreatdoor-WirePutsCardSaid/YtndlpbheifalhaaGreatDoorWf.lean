/- The law WirePuts: its proof. -/
import Derived.Test.YtndlpbheifalhaaGreatDoorWd
namespace Go.Proofs.YtndlpbheifalhaaGreatDoor.T
open Go.Proofs.YtndlpbheifalhaaGreatDoor.E
set_option maxRecDepth 100000
set_option linter.unusedVariables false
theorem numF_ne (l : List Int) (f : Nat) (n : Int) : l ++ numF f n ≠ [] := fun h => by
  have h := (List.append_eq_nil_iff.1 h).2
  cases f with
  | zero => cases h
  | succ f =>
    unfold numF at h
    split at h <;> cases h
theorem wordsF_ne (l : List Int) (s : ByteArray) : l ++ wordsF s ≠ [] := fun h => by
  rw [wordsF, ← List.append_assoc] at h
  exact numF_ne l 9 s.size (List.append_eq_nil_iff.1 h).1
theorem puts_ok (l : List Int) (n : Int) (s : ByteArray) (φ : Bag KK) : CtOk Tryz.prog 3 (ct_puts l n s φ) := CtOk_of KK_ok tabP (ann_puts l n s) (fn := Tryz.f3) rfl (fun _ _ => rfl) fun hn => by
  obtain ⟨n0, n1⟩ := hn
  rw [vc_puts]
  refine ite2_decide (fun h => ⟨φ, [], [0, 1], trivial, by (repeat' first | exact trivial | exact rfl | apply And.intro)⟩) (fun h => ite2_decide (fun h2 => ⟨φ, [], [0, 1], trivial, by (repeat' first | exact trivial | exact rfl | apply And.intro)⟩) (fun h2 => ?_))
  have hl : l.length ≤ 65536 := by omega
  have hs : s.size ≤ 65536 := by omega
  have nl := numF_len 9 n
  have wl : (wordsF s).length ≤ 65546 := by
    have h3 := numF_len 9 s.size
    have h4 := strI_len s
    rw [wordsF, List.length_append]; omega
  have a1 : (l ++ numF 9 n).length ≤ 65546 := by rw [List.length_append]; omega
  have a2 : (l ++ wordsF s).length ≤ 131082 := by rw [List.length_append]; omega
  refine ⟨⟨by omega, by omega, by omega⟩, into_mk (by kernel_rfl) (by (repeat' first | exact trivial | exact rfl | apply And.intro)) (by (repeat' first | exact trivial | exact rfl | apply And.intro)), fun y hy => ?_⟩
  obtain ⟨hy1, hy2⟩ := hy
  have lent0 : Lent l 0 y.1 y.2 ⟨0, 0, [], [], [], [], [], [], [], [], 0⟩ (bput φ y.1 (.row Kd.u8 y.2 (l ++ lots 600))) := ⟨by rw [bump_zero]; exact bput_same, hy2, fun q hq => by simp [Bk.all] at hq⟩
  refine ⟨⟨((0 : Nat), ⟨0, 0, [], [], [], [], [], [], [], [], 0⟩, bput φ y.1 (.row Kd.u8 y.2 (l ++ lots 600)), y.1, y.2), [.ru8, .ru8, .ru8, .ru8, .ru8, .int, .int, .int], [0, 1, 2, 3, 6, 7, 8, 9, 10, 11, 12, 13, 14, 15], ⟨Nat.zero_le _, RestOk.new _, rfl, lent0⟩, trivial, into_mk (by kernel_rfl) (by (repeat' first | exact trivial | exact rfl | apply And.intro)) (by (repeat' first | exact trivial | exact rfl | apply And.intro))⟩, ?_⟩
  rintro ⟨i, B, φ', b, c⟩ ⟨hi, hb, hsn, hL⟩
  have hb : RestOk φ' B := hb
  have hsn : B.seen = 2 * (i : Int) := hsn
  have hi : i ≤ 3 := hi
  have hL : Lent l 0 b c B φ' := hL
  obtain ⟨hh, hc⟩ := hL.has (Nat.zero_le _) hl
  rw [bump_zero] at hc
  dsimp only
  refine ite2_decide (fun hil => ?_) (fun hil => ?_)
  · rw [hc]
    refine ⟨⟨hh, n0, n1⟩, into_mk (by kernel_rfl) (by (repeat' first | exact trivial | exact rfl | apply And.intro)) (by (repeat' first | exact trivial | exact rfl | apply And.intro)), fun _ _ => ⟨⟨hh, by omega⟩, into_mk (by kernel_rfl) (by (repeat' first | exact trivial | exact rfl | apply And.intro)) (by (repeat' first | exact trivial | exact rfl | apply And.intro)), fun _ _ => ⟨⟨n0, n1⟩, into_mk (by kernel_rfl) (by (repeat' first | exact trivial | exact rfl | apply And.intro)) (by (repeat' first | exact trivial | exact rfl | apply And.intro)), fun _ _ => ⟨⟨by omega, by omega⟩, into_mk (by kernel_rfl) (by (repeat' first | exact trivial | exact rfl | apply And.intro)) (by (repeat' first | exact trivial | exact rfl | apply And.intro)), fun _ _ => ⟨⟨by omega, by omega⟩, into_mk (by kernel_rfl) (by (repeat' first | exact trivial | exact rfl | apply And.intro)) (by (repeat' first | exact trivial | exact rfl | apply And.intro)), fun _ _ => ite2_decide (fun _ => ⟨by omega, into_mk (by kernel_rfl) (by (repeat' first | exact trivial | exact rfl | apply And.intro)) (by (repeat' first | exact trivial | exact rfl | apply And.intro)), fun _ _ => ⟨⟨by omega, by omega⟩, into_mk (by kernel_rfl) (by (repeat' first | exact trivial | exact rfl | apply And.intro)) (by (repeat' first | exact trivial | exact rfl | apply And.intro)), fun _ _ => ⟨⟨by omega, by omega⟩, into_mk (by kernel_rfl) (by (repeat' first | exact trivial | exact rfl | apply And.intro)) (by (repeat' first | exact trivial | exact rfl | apply And.intro)), fun _ _ => ite2_decide (fun _ => ⟨⟨hh, by omega⟩, into_mk (by kernel_rfl) (by (repeat' first | exact trivial | exact rfl | apply And.intro)) (by (repeat' first | exact trivial | exact rfl | apply And.intro)), fun _ _ => ite2_decide (fun _ => ⟨hL.marks (Nat.zero_le _) hl, into_mk (by kernel_rfl) (by (repeat' first | exact trivial | exact rfl | apply And.intro)) (by (repeat' first | exact trivial | exact rfl | apply And.intro)), fun _ _ => ⟨rfl, fun hz => absurd hz (numF_ne _ _ _), fun b1 c1 hf1 hc1 => ?_⟩⟩) (fun h => absurd rfl h)⟩) (fun h => absurd rfl h)⟩⟩⟩) (fun h => absurd rfl h)⟩⟩⟩⟩⟩
    have z1 := Frz.mk (kd := Kd.u8) (xs := l ++ numF 9 n) b1 c1 hf1 hc1
    refine ⟨by unfold i64ok; omega, ⟨hb.ext z1.ext, alone_frz hb (by omega) z1, ⟨by omega, by omega⟩, by omega⟩, into_mk (by kernel_rfl) (by (repeat' first | exact trivial | exact rfl | apply And.intro)) (by (repeat' first | exact trivial | exact rfl | apply And.intro)), fun y1 hy1 => ⟨rfl, fun hz => absurd hz (wordsF_ne _ _), fun b2 c2 hf2 hc2 => ?_⟩⟩
    obtain ⟨r1, q1, t1⟩ := hy1
    have t1 : StaysX (bput φ' b1 (.row Kd.u8 c1 (l ++ numF 9 n))) B.bk (.mk b1 0 (l ++ numF 9 n).length c1) y1.2 y1.1.bk := t1
    have hL1 : Lent l 0 b c y1.1 y1.2 := (hL.ext z1.ext).book (hL.off z1) t1
    have q1 : y1.1.seen = B.seen + 1 := q1
    have z2 := Frz.mk (kd := Kd.u8) (xs := l ++ wordsF s) b2 c2 hf2 hc2
    refine ⟨by unfold i64ok; omega, by unfold i64ok; omega, ⟨r1.ext z2.ext, alone_frz r1 (by omega) z2, ⟨by omega, by omega⟩, by omega⟩, into_mk (by kernel_rfl) (by (repeat' first | exact trivial | exact rfl | apply And.intro)) (by (repeat' first | exact trivial | exact rfl | apply And.intro)), fun y2 hy2 => ?_⟩
    obtain ⟨r2, q2, t2⟩ := hy2
    have t2 : StaysX (bput y1.2 b2 (.row Kd.u8 c2 (l ++ wordsF s))) y1.1.bk (.mk b2 0 (l ++ wordsF s).length c2) y2.2 y2.1.bk := t2
    have hL2 : Lent l 0 b c y2.1 y2.2 := (hL1.ext z2.ext).book (hL1.off z2) t2
    have q2 : y2.1.seen = y1.1.seen + 1 := q2
    exact ⟨by unfold i64ok; omega, ((i + 1 : Nat), y2.1, y2.2, b, c), [], [0, 1, 2, 3, 4, 5, 28, 29, 30, 31, 32, 33, 34, 35], ⟨by show i + 1 ≤ 3; omega, r2, by show y2.1.seen = 2 * ((i + 1 : Nat) : Int); omega, hL2⟩, by show 3 - (i + 1) < 3 - i; omega, into_mk (by kernel_rfl) (by (repeat' first | exact trivial | exact rfl | apply And.intro)) (by (repeat' first | exact trivial | exact rfl | apply And.intro))⟩
  · refine ⟨⟨((0 : Nat), φ'), [], [0, 1, 2, 3, 4, 5, 6, 7, 8, 9, 10, 11, 12, 13], ⟨Nat.zero_le _, hb, hL⟩, trivial, into_mk (by kernel_rfl) (by (repeat' first | exact trivial | exact rfl | apply And.intro)) (by (repeat' first | exact trivial | exact rfl | apply And.intro))⟩, ?_⟩
    rintro ⟨k, ψ⟩ ⟨hk, hbk, hLk⟩
    have hk : k ≤ l.length := hk
    have hbk : RestOk ψ B := hbk
    have hLk : Lent l k b c B ψ := hLk
    obtain ⟨hh2, hc2⟩ := hLk.has hk hl
    have hbl := bump_len l k hk
    have hx1 := hLk.1
    have lt : (bump l k ++ lots 600).length = l.length + 600 := by rw [List.length_append, lots_len, hbl]
    simp only [Int.toNat_natCast, RS.lo, RS.blk, RS.len, Nat.zero_add]
    refine ite2_decide (fun hkl => ?_) (fun hkl => ?_)
    · have hk1 : k < l.length := by omega
      have hq : bput ψ b (.row Kd.u8 c ((bump l k ++ lots 600).set k (IntKind.wrap .u8 (rd (bump l k ++ lots 600) k 0 + 1)))) = bput ψ b (.row Kd.u8 c (bump l (k + 1) ++ lots 600)) := by rw [bump_set l k hk1 _ (by rw [bump_rd l k hk1])]
      exact ⟨⟨by omega, hkl⟩, c, bump l k ++ lots 600, hx1, by omega, ⟨by omega, hkl⟩, c, bump l k ++ lots 600, hx1, by omega, by unfold i64ok; omega, ((k + 1 : Nat), bput ψ b (.row Kd.u8 c (bump l (k + 1) ++ lots 600))), [], [0, 1, 2, 3, 4, 5, 6, 7, 8, 9, 10, 11, 12, 13], ⟨hk1, hbk.write hLk.2.2, ⟨bput_same, hLk.2.1, hLk.2.2⟩⟩, by show l.length - (k + 1) < l.length - k; omega, into_mk (by kernel_rfl) (by (repeat' first | exact trivial | exact rfl | apply And.intro)) (by (repeat' first | exact trivial | exact rfl | exact hq | apply And.intro))⟩
    · have hz : cont ψ RS.nil = [] := cont_of rfl
      have a3 : (bump l k ++ numF 9 n).length ≤ 65546 := by rw [List.length_append]; omega
      rw [hc2, hz]
      exact ⟨hh2, into_mk (by kernel_rfl) (by (repeat' first | exact trivial | exact rfl | apply And.intro)) (by (repeat' first | exact trivial | exact rfl | apply And.intro)), fun _ _ => ⟨⟨hh2, n0, n1⟩, into_mk (by kernel_rfl) (by (repeat' first | exact trivial | exact rfl | apply And.intro)) (by (repeat' first | exact trivial | exact rfl | apply And.intro)), fun _ _ => ⟨⟨n0, n1⟩, into_mk (by kernel_rfl) (by (repeat' first | exact trivial | exact rfl | apply And.intro)) (by (repeat' first | exact trivial | exact rfl | apply And.intro)), fun _ _ => ⟨⟨by omega, by omega⟩, into_mk (by kernel_rfl) (by (repeat' first | exact trivial | exact rfl | apply And.intro)) (by (repeat' first | exact trivial | exact rfl | apply And.intro)), fun _ _ => ⟨⟨by omega, by omega⟩, into_mk (by kernel_rfl) (by (repeat' first | exact trivial | exact rfl | apply And.intro)) (by (repeat' first | exact trivial | exact rfl | apply And.intro)), fun _ _ => ite2_decide (fun _ => ⟨⟨Has.nil_ _, by omega⟩, into_mk (by kernel_rfl) (by (repeat' first | exact trivial | exact rfl | apply And.intro)) (by (repeat' first | exact trivial | exact rfl | apply And.intro)), fun _ _ => ⟨by omega, into_mk (by kernel_rfl) (by (repeat' first | exact trivial | exact rfl | apply And.intro)) (by (repeat' first | exact trivial | exact rfl | apply And.intro)), fun _ _ => ⟨⟨by rw [List.nil_append]; omega, by omega⟩, into_mk (by kernel_rfl) (by (repeat' first | exact trivial | exact rfl | apply And.intro)) (by (repeat' first | exact trivial | exact rfl | apply And.intro)), fun _ _ => ite2_decide (fun _ => ⟨hbk.ok, into_mk (by kernel_rfl) (by (repeat' first | exact trivial | exact rfl | apply And.intro)) (by (repeat' first | exact trivial | exact rfl | apply And.intro)), fun _ _ => ⟨hLk.marks hk hl, into_mk (by kernel_rfl) (by (repeat' first | exact trivial | exact rfl | apply And.intro)) (by (repeat' first | exact trivial | exact rfl | apply And.intro)), fun _ _ => ⟨ψ, [], [0, 1], trivial, by (repeat' first | exact trivial | exact rfl | apply And.intro)⟩⟩⟩) (fun h => absurd rfl h)⟩⟩⟩) (fun h => absurd trivial h)⟩⟩⟩⟩⟩
end Go.Proofs.YtndlpbheifalhaaGreatDoor.T
