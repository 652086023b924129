/- Text 16 of 26 texts that prove the statement of RowParses; it holds without conditions beyond the statement's own. -/
import Derived.Laws.OwnMore
import Derived.Maps.AppendAt
import Derived.Tactics
import Derived.Deep.LoopGhost
import GoSem.Core.Utf8
import Derived.Laws.RangeAny
import Derived.Below
import Derived.Deep.Draws
import Derived.Deep.AppendLies
import Derived.OwnWalk
import Derived.Laws.BytesArg
import Derived.Laws.MakeOwn
import Derived.Deep.OwnRows
import Derived.Lib.ConvBytes
import Derived.Laws.Slices
import Derived.WalkKit
import Derived.KernelRfl
import Derived.RowKit3
import Derived.Deep.QuietTactic
import Derived.BigQuiet
import Derived.WideLaws
import Derived.Deep.DeepCutAuto
import Derived.Deep.CutBlock
import Derived.Deep.RegionHeld3
import Derived.Laws.Rows
import Derived.Lib.AppendStr
import Derived.ArgAppend
import Derived.Laws.IdiomCopy
import Derived.RowKit
import Derived.OrdersHeld
import Derived.Laws.BitsLemmas
import Derived.Test.YtoidibkcdkdneaaGreatDoorProg
import Derived.Test.YtoidibkcdkdneaaGreatDoorKP7
import Derived.Test.YtoidibkcdkdneaaGreatDoorKP8
import Derived.Test.YtoidibkcdkdneaaGreatDoorKP9
import Derived.Test.YtoidibkcdkdneaaGreatDoorKP10
namespace Foot
end Foot
namespace Go.Proofs
end Go.Proofs
namespace Go.Proofs.YtoidibkcdkdneaaGreatDoor
end Go.Proofs.YtoidibkcdkdneaaGreatDoor
namespace Go.Proofs.YtoidibkcdkdneaaGreatDoor.E
end Go.Proofs.YtoidibkcdkdneaaGreatDoor.E
namespace Go.Proofs.YtoidibkcdkdneaaGreatDoor.Hand
end Go.Proofs.YtoidibkcdkdneaaGreatDoor.Hand
namespace Go.Proofs.YtoidibkcdkdneaaGreatDoor.MPat
end Go.Proofs.YtoidibkcdkdneaaGreatDoor.MPat
namespace Go.Proofs.YtoidibkcdkdneaaGreatDoor.MStr
end Go.Proofs.YtoidibkcdkdneaaGreatDoor.MStr
namespace Go.Proofs.YtoidibkcdkdneaaGreatDoor.PRead
end Go.Proofs.YtoidibkcdkdneaaGreatDoor.PRead
namespace Go.Proofs.YtoidibkcdkdneaaGreatDoor.PSplit
end Go.Proofs.YtoidibkcdkdneaaGreatDoor.PSplit
namespace Go.Proofs.YtoidibkcdkdneaaGreatDoor.R
end Go.Proofs.YtoidibkcdkdneaaGreatDoor.R
namespace Go.Proofs.YtoidibkcdkdneaaGreatDoor.T
end Go.Proofs.YtoidibkcdkdneaaGreatDoor.T
namespace Go.Proofs.YtoidibkcdkdneaaGreatDoor.TR
end Go.Proofs.YtoidibkcdkdneaaGreatDoor.TR
namespace Go.Proofs.YtoidibkcdkdneaaGreatDoor.TrulesParses
end Go.Proofs.YtoidibkcdkdneaaGreatDoor.TrulesParses
namespace Go.Proofs.YtoidibkcdkdneaaGreatDoorW.PrintLast
end Go.Proofs.YtoidibkcdkdneaaGreatDoorW.PrintLast
namespace Go.Proofs.YtoidibkcdkdneaaGreatDoorW.PrintMore
end Go.Proofs.YtoidibkcdkdneaaGreatDoorW.PrintMore
namespace Go.Proofs.YtoidibkcdkdneaaGreatDoorW.PrintWords
end Go.Proofs.YtoidibkcdkdneaaGreatDoorW.PrintWords
namespace Kd
end Kd
section
namespace Go.Proofs.YtoidibkcdkdneaaGreatDoor.Hand
set_option linter.unusedSimpArgs false
open Go.RowKit Go.Proofs.YtoidibkcdkdneaaGreatDoor.MPat Go.Proofs.YtoidibkcdkdneaaGreatDoorW.PrintWords Go.Proofs.YtoidibkcdkdneaaGreatDoorW.PrintLast Go.Proofs.YtoidibkcdkdneaaGreatDoorW.PrintMore
set_option linter.unusedVariables false
set_option maxHeartbeats 4000000 in
set_option maxRecDepth 100000 in
theorem fits_Name (p q : Addr) (n of : Nat) (M : Nat → Bool) (O : Nat → Nat → Bool) (w : World) (hn : n ≤ 4611686018427387904) (hof : of ≤ 4611686018427387904)
    (hm : ∀ (x : Int) (i : Nat) (W : World), x = i → i < n → Below w.heap.size w W → Calls Tryz.prog 89 #[.int .i64 x, .pointer (some p)] W fun e w' => e = .returned (.bool (M i)) ∧ Below W.heap.size W w')
    (ho : ∀ (x y : Int) (i k : Nat) (W : World), x = i → y = k → i < n → k < of → Below w.heap.size w W → Calls Tryz.prog 90 #[.int .i64 x, .int .i64 y, .pointer (some p), .pointer (some q)] W fun e w' => e = .returned (.bool (O i k)) ∧ Below W.heap.size W w') :
    Calls Tryz.prog 50 #[.int .i64 n, .int .i64 of, .func (.func 89) #[] #[.pointer (some p)], .func (.func 90) #[] #[.pointer (some p), .pointer (some q)]] w fun e w' => e = .returned (.bool (mt n of M O 0 0)) ∧ Below w.heap.size w w' := by
  have HM := Aside0.mk hm
  have HO := Aside0.mk ho
  clear hm ho
  go_enter Tryz.func50, Tryz.ntmps50
  go_wp2
  go_loopw [9, 10, 11, 12] (fun v9 v10 v11 v12 w' => ∃ (b t m : Nat) (star : Bool), v9 = .int .i64 ((b : Int) + (m : Int)) ∧ v10 = .int .i64 ((t : Int) + (m : Int)) ∧ v11 = .int .i64 ((b : Int) - 1) ∧ v12 = .int .i64 t ∧ Aside0 (Seek n of M O b t m star) ∧ Aside0 (star = false → b = 0) ∧ Aside0 (star = true → 0 < b) ∧ Aside0 (Below w.heap.size w w')) (fun v9 v10 v11 v12 w' => left n of (intOf v11 + 1).toNat (intOf v12).toNat ((intOf v9).toNat - (intOf v11 + 1).toNat))
  case atStart => exact ⟨0, 0, 0, false, rfl, rfl, rfl, rfl, ⟨Seek.start⟩, ⟨fun _ => rfl⟩, ⟨fun h => by cases h⟩, ⟨Below.refl _ _⟩⟩
  case round =>
    obtain ⟨b, t, m, star, rfl, rfl, rfl, rfl, HS, H0, H1, HB⟩ := hrel
    have hle := HS.out.le
    have hle' := HS.out.le'
    by_cases hk : t + m < of
    · have hkb : decide ((t : Int) + (m : Int) < (of : Int)) = true := decide_eq_true (by omega)
      by_cases hi : b + m < n
      · have hib : decide ((b : Int) + (m : Int) < (n : Int)) = true := decide_eq_true (by omega)
        cases hM : M (b + m) with
        | true =>
          have HS' := Aside0.mk (HS.out.many hi hM)
          have HL := Aside0.mk (left_many (t := t) hi hle')
          clear HS
          go_wp2_with (first | (go_at_call 89; refine (HM.out _ (b + m) _ (by omega) hi HB.out).mono ?_; rintro e w1 ⟨rfl, hb⟩; have HB1 := Aside0.mk (HB.out.trans (hb.mono HB.out.size)); clear hb))
          go_roundw
          case rel => exact ⟨b + m + 1, t + m, 0, true, by go_num, by go_num, by go_num, by go_num, HS', ⟨fun h => by cases h⟩, ⟨fun _ => by omega⟩, HB1⟩
          case measure => exact left_lt HL.out (by simp only [intOf]; omega) (by simp only [intOf]; omega) (by simp only [intOf]; omega) (by simp only [intOf]; omega) (by simp only [intOf]; omega) (by simp only [intOf]; omega)
        | false =>
          cases hO : O (b + m) (t + m) with
          | true =>
            have HS' := Aside0.mk (HS.out.one hi hM hk hO)
            have HL := Aside0.mk (left_one (n := n) (b := b) hk)
            clear HS
            go_wp2_with (first | (go_at_call 89; refine (HM.out _ (b + m) _ (by omega) hi HB.out).mono ?_; rintro e w1 ⟨rfl, hb⟩; have HB1 := Aside0.mk (HB.out.trans (hb.mono HB.out.size)); clear hb) | (go_at_call 90; refine (HO.out _ _ (b + m) (t + m) _ (by omega) (by omega) hi hk HB1.out).mono ?_; rintro e w2 ⟨rfl, hb⟩; have HB2 := Aside0.mk (HB1.out.trans (hb.mono HB1.out.size)); clear hb))
            go_roundw
            case rel => exact ⟨b, t, m + 1, star, by go_num, by go_num, rfl, rfl, HS', H0, H1, HB2⟩
            case measure => exact left_lt HL.out (by simp only [intOf]; omega) (by simp only [intOf]; omega) (by simp only [intOf]; omega) (by simp only [intOf]; omega) (by simp only [intOf]; omega) (by simp only [intOf]; omega)
          | false =>
            cases star with
            | true =>
              have HP := Aside0.mk (H1.out rfl)
              have HS' := Aside0.mk (HS.out.back hk (fun _ => hM) (fun _ => hO))
              have HL := Aside0.mk (left_back (n := n) (b := b) hk)
              have d1 : decide (0 ≤ (b : Int) - 1) = true := decide_eq_true (by have := HP.out; omega)
              have d2 : decide (1 ≤ (b : Int)) = true := decide_eq_true (by have := HP.out; omega)
              clear HS
              go_wp2_with (first | (go_at_call 89; refine (HM.out _ (b + m) _ (by omega) hi HB.out).mono ?_; rintro e w1 ⟨rfl, hb⟩; have HB1 := Aside0.mk (HB.out.trans (hb.mono HB.out.size)); clear hb) | (go_at_call 90; refine (HO.out _ _ (b + m) (t + m) _ (by omega) (by omega) hi hk HB1.out).mono ?_; rintro e w2 ⟨rfl, hb⟩; have HB2 := Aside0.mk (HB1.out.trans (hb.mono HB1.out.size)); clear hb))
              go_roundw
              case rel => exact ⟨b, t + 1, 0, true, by go_num, by go_num, rfl, by go_num, HS', ⟨fun h => by cases h⟩, ⟨fun _ => HP.out⟩, HB2⟩
              case measure => exact left_lt HL.out (by simp only [intOf]; omega) (by simp only [intOf]; omega) (by simp only [intOf]; omega) (by simp only [intOf]; omega) (by simp only [intOf]; omega) (by simp only [intOf]; omega)
            | false =>
              have HP := Aside0.mk (H0.out rfl)
              have hf := HS.out.fail hk (fun _ => hM) (fun _ => hO)
              have HF := Aside0.mk hf
              have d1 : decide (0 ≤ (b : Int) - 1) = false := decide_eq_false (by have := HP.out; omega)
              have d2 : decide (1 ≤ (b : Int)) = false := decide_eq_false (by have := HP.out; omega)
              clear HS hf H0 H1
              go_wp2_with (first | (go_at_call 89; refine (HM.out _ (b + m) _ (by omega) hi HB.out).mono ?_; rintro e w1 ⟨rfl, hb⟩; have HB1 := Aside0.mk (HB.out.trans (hb.mono HB.out.size)); clear hb) | (go_at_call 90; refine (HO.out _ _ (b + m) (t + m) _ (by omega) (by omega) hi hk HB1.out).mono ?_; rintro e w2 ⟨rfl, hb⟩; have HB2 := Aside0.mk (HB1.out.trans (hb.mono HB1.out.size)); clear hb))
              go_ret
              exact ⟨by rw [HF.out]; rfl, HB2.out⟩
      · have hib : decide ((b : Int) + (m : Int) < (n : Int)) = false := decide_eq_false (by omega)
        cases star with
        | true =>
          have HP := Aside0.mk (H1.out rfl)
          have HS' := Aside0.mk (HS.out.back hk (fun h => absurd h hi) (fun h => absurd h hi))
          have HL := Aside0.mk (left_back (n := n) (b := b) hk)
          have d1 : decide (0 ≤ (b : Int) - 1) = true := decide_eq_true (by have := HP.out; omega)
          have d2 : decide (1 ≤ (b : Int)) = true := decide_eq_true (by have := HP.out; omega)
          clear HS
          go_wp2
          go_roundw
          case rel => exact ⟨b, t + 1, 0, true, by go_num, by go_num, rfl, by go_num, HS', ⟨fun h => by cases h⟩, ⟨fun _ => HP.out⟩, HB⟩
          case measure => exact left_lt HL.out (by simp only [intOf]; omega) (by simp only [intOf]; omega) (by simp only [intOf]; omega) (by simp only [intOf]; omega) (by simp only [intOf]; omega) (by simp only [intOf]; omega)
        | false =>
          have HP := Aside0.mk (H0.out rfl)
          have hf := HS.out.fail hk (fun h => absurd h hi) (fun h => absurd h hi)
          have HF := Aside0.mk hf
          have d1 : decide (0 ≤ (b : Int) - 1) = false := decide_eq_false (by have := HP.out; omega)
          have d2 : decide (1 ≤ (b : Int)) = false := decide_eq_false (by have := HP.out; omega)
          clear HS hf H0 H1
          go_wp2
          go_ret
          exact ⟨by rw [HF.out]; rfl, HB.out⟩
    · have hkb : decide ((t : Int) + (m : Int) < (of : Int)) = false := decide_eq_false (by omega)
      have HF := Aside0.mk (HS.out.last hk)
      obtain ⟨wo, rfl⟩ : ∃ wo : World, wo = wr := ⟨_, rfl⟩
      clear HS H0 H1
      go_wp2
      go_loopw [9] (fun v9 w' => ∃ i : Nat, i ≤ n ∧ v9 = .int .i64 i ∧ Aside0 (mt n of M O 0 0 = mt n of M O i of) ∧ Aside0 (Below w.heap.size w w')) (fun v9 w' => n - (intOf v9).toNat)
      case atStart => exact ⟨b + m, hle, by go_num, HF, HB⟩
      case round =>
        obtain ⟨i, hin, rfl, HG, HB'⟩ := hrel
        by_cases hi : i < n
        · have hib : decide ((i : Int) < (n : Int)) = true := decide_eq_true (by omega)
          cases hM : M i with
          | true =>
            have HG' := Aside0.mk (HG.out.trans (mt_tail hi hM))
            clear HG
            go_wp2_with (first | (go_at_call 89; refine (HM.out _ i _ (by omega) hi HB'.out).mono ?_; rintro e w1 ⟨rfl, hb⟩; have HB1 := Aside0.mk (HB'.out.trans (hb.mono HB'.out.size)); clear hb))
            go_roundw
            case rel => exact ⟨i + 1, by omega, by go_num, HG', HB1⟩
            case measure => simp only [intOf]; omega
          | false =>
            have HG' := Aside0.mk (HG.out.trans (mt_tail_no hi hM))
            have d1 : ((i : Int) == (n : Int)) = false := by rw [beq_eq_false_iff_ne]; omega
            clear HG
            go_wp2_with (first | (go_at_call 89; refine (HM.out _ i _ (by omega) hi HB'.out).mono ?_; rintro e w1 ⟨rfl, hb⟩; have HB1 := Aside0.mk (HB'.out.trans (hb.mono HB'.out.size)); clear hb))
            go_ret
            exact ⟨by rw [HG'.out]; rfl, HB1.out⟩
        · have hib : decide ((i : Int) < (n : Int)) = false := decide_eq_false (by omega)
          have HG' := Aside0.mk (HG.out.trans (mt_fin hi))
          have d1 : ((i : Int) == (n : Int)) = true := by rw [beq_iff_eq]; omega
          clear HG
          go_wp2
          go_ret
          exact ⟨by rw [HG'.out]; rfl, HB'.out⟩
end Go.Proofs.YtoidibkcdkdneaaGreatDoor.Hand
end
section
namespace Go.Proofs.YtoidibkcdkdneaaGreatDoor.Hand
set_option linter.unusedSimpArgs false
open Go.RowKit Go.Proofs.YtoidibkcdkdneaaGreatDoor.MPat Go.Proofs.YtoidibkcdkdneaaGreatDoorW.PrintWords Go.Proofs.YtoidibkcdkdneaaGreatDoorW.PrintLast Go.Proofs.YtoidibkcdkdneaaGreatDoorW.PrintMore
set_option linter.unusedVariables false
set_option maxHeartbeats 4000000 in
set_option maxRecDepth 100000 in
theorem fits_Match (p q : Addr) (n of : Nat) (M : Nat → Bool) (O : Nat → Nat → Bool) (w : World) (hn : n ≤ 4611686018427387904) (hof : of ≤ 4611686018427387904)
    (hm : ∀ (x : Int) (i : Nat) (W : World), x = i → i < n → Below w.heap.size w W → Calls Tryz.prog 51 #[.int .i64 x, .pointer (some p)] W fun e w' => e = .returned (.bool (M i)) ∧ Below W.heap.size W w')
    (ho : ∀ (x y : Int) (i k : Nat) (W : World), x = i → y = k → i < n → k < of → Below w.heap.size w W → Calls Tryz.prog 52 #[.int .i64 x, .int .i64 y, .pointer (some p), .pointer (some q)] W fun e w' => e = .returned (.bool (O i k)) ∧ Below W.heap.size W w') :
    Calls Tryz.prog 50 #[.int .i64 n, .int .i64 of, .func (.func 51) #[] #[.pointer (some p)], .func (.func 52) #[] #[.pointer (some p), .pointer (some q)]] w fun e w' => e = .returned (.bool (mt n of M O 0 0)) ∧ Below w.heap.size w w' := by
  have HM := Aside0.mk hm
  have HO := Aside0.mk ho
  clear hm ho
  go_enter Tryz.func50, Tryz.ntmps50
  go_wp2
  go_loopw [9, 10, 11, 12] (fun v9 v10 v11 v12 w' => ∃ (b t m : Nat) (star : Bool), v9 = .int .i64 ((b : Int) + (m : Int)) ∧ v10 = .int .i64 ((t : Int) + (m : Int)) ∧ v11 = .int .i64 ((b : Int) - 1) ∧ v12 = .int .i64 t ∧ Aside0 (Seek n of M O b t m star) ∧ Aside0 (star = false → b = 0) ∧ Aside0 (star = true → 0 < b) ∧ Aside0 (Below w.heap.size w w')) (fun v9 v10 v11 v12 w' => left n of (intOf v11 + 1).toNat (intOf v12).toNat ((intOf v9).toNat - (intOf v11 + 1).toNat))
  case atStart => exact ⟨0, 0, 0, false, rfl, rfl, rfl, rfl, ⟨Seek.start⟩, ⟨fun _ => rfl⟩, ⟨fun h => by cases h⟩, ⟨Below.refl _ _⟩⟩
  case round =>
    obtain ⟨b, t, m, star, rfl, rfl, rfl, rfl, HS, H0, H1, HB⟩ := hrel
    have hle := HS.out.le
    have hle' := HS.out.le'
    by_cases hk : t + m < of
    · have hkb : decide ((t : Int) + (m : Int) < (of : Int)) = true := decide_eq_true (by omega)
      by_cases hi : b + m < n
      · have hib : decide ((b : Int) + (m : Int) < (n : Int)) = true := decide_eq_true (by omega)
        cases hM : M (b + m) with
        | true =>
          have HS' := Aside0.mk (HS.out.many hi hM)
          have HL := Aside0.mk (left_many (t := t) hi hle')
          clear HS
          go_wp2_with (first | (go_at_call 51; refine (HM.out _ (b + m) _ (by omega) hi HB.out).mono ?_; rintro e w1 ⟨rfl, hb⟩; have HB1 := Aside0.mk (HB.out.trans (hb.mono HB.out.size)); clear hb))
          go_roundw
          case rel => exact ⟨b + m + 1, t + m, 0, true, by go_num, by go_num, by go_num, by go_num, HS', ⟨fun h => by cases h⟩, ⟨fun _ => by omega⟩, HB1⟩
          case measure => exact left_lt HL.out (by simp only [intOf]; omega) (by simp only [intOf]; omega) (by simp only [intOf]; omega) (by simp only [intOf]; omega) (by simp only [intOf]; omega) (by simp only [intOf]; omega)
        | false =>
          cases hO : O (b + m) (t + m) with
          | true =>
            have HS' := Aside0.mk (HS.out.one hi hM hk hO)
            have HL := Aside0.mk (left_one (n := n) (b := b) hk)
            clear HS
            go_wp2_with (first | (go_at_call 51; refine (HM.out _ (b + m) _ (by omega) hi HB.out).mono ?_; rintro e w1 ⟨rfl, hb⟩; have HB1 := Aside0.mk (HB.out.trans (hb.mono HB.out.size)); clear hb) | (go_at_call 52; refine (HO.out _ _ (b + m) (t + m) _ (by omega) (by omega) hi hk HB1.out).mono ?_; rintro e w2 ⟨rfl, hb⟩; have HB2 := Aside0.mk (HB1.out.trans (hb.mono HB1.out.size)); clear hb))
            go_roundw
            case rel => exact ⟨b, t, m + 1, star, by go_num, by go_num, rfl, rfl, HS', H0, H1, HB2⟩
            case measure => exact left_lt HL.out (by simp only [intOf]; omega) (by simp only [intOf]; omega) (by simp only [intOf]; omega) (by simp only [intOf]; omega) (by simp only [intOf]; omega) (by simp only [intOf]; omega)
          | false =>
            cases star with
            | true =>
              have HP := Aside0.mk (H1.out rfl)
              have HS' := Aside0.mk (HS.out.back hk (fun _ => hM) (fun _ => hO))
              have HL := Aside0.mk (left_back (n := n) (b := b) hk)
              have d1 : decide (0 ≤ (b : Int) - 1) = true := decide_eq_true (by have := HP.out; omega)
              have d2 : decide (1 ≤ (b : Int)) = true := decide_eq_true (by have := HP.out; omega)
              clear HS
              go_wp2_with (first | (go_at_call 51; refine (HM.out _ (b + m) _ (by omega) hi HB.out).mono ?_; rintro e w1 ⟨rfl, hb⟩; have HB1 := Aside0.mk (HB.out.trans (hb.mono HB.out.size)); clear hb) | (go_at_call 52; refine (HO.out _ _ (b + m) (t + m) _ (by omega) (by omega) hi hk HB1.out).mono ?_; rintro e w2 ⟨rfl, hb⟩; have HB2 := Aside0.mk (HB1.out.trans (hb.mono HB1.out.size)); clear hb))
              go_roundw
              case rel => exact ⟨b, t + 1, 0, true, by go_num, by go_num, rfl, by go_num, HS', ⟨fun h => by cases h⟩, ⟨fun _ => HP.out⟩, HB2⟩
              case measure => exact left_lt HL.out (by simp only [intOf]; omega) (by simp only [intOf]; omega) (by simp only [intOf]; omega) (by simp only [intOf]; omega) (by simp only [intOf]; omega) (by simp only [intOf]; omega)
            | false =>
              have HP := Aside0.mk (H0.out rfl)
              have hf := HS.out.fail hk (fun _ => hM) (fun _ => hO)
              have HF := Aside0.mk hf
              have d1 : decide (0 ≤ (b : Int) - 1) = false := decide_eq_false (by have := HP.out; omega)
              have d2 : decide (1 ≤ (b : Int)) = false := decide_eq_false (by have := HP.out; omega)
              clear HS hf H0 H1
              go_wp2_with (first | (go_at_call 51; refine (HM.out _ (b + m) _ (by omega) hi HB.out).mono ?_; rintro e w1 ⟨rfl, hb⟩; have HB1 := Aside0.mk (HB.out.trans (hb.mono HB.out.size)); clear hb) | (go_at_call 52; refine (HO.out _ _ (b + m) (t + m) _ (by omega) (by omega) hi hk HB1.out).mono ?_; rintro e w2 ⟨rfl, hb⟩; have HB2 := Aside0.mk (HB1.out.trans (hb.mono HB1.out.size)); clear hb))
              go_ret
              exact ⟨by rw [HF.out]; rfl, HB2.out⟩
      · have hib : decide ((b : Int) + (m : Int) < (n : Int)) = false := decide_eq_false (by omega)
        cases star with
        | true =>
          have HP := Aside0.mk (H1.out rfl)
          have HS' := Aside0.mk (HS.out.back hk (fun h => absurd h hi) (fun h => absurd h hi))
          have HL := Aside0.mk (left_back (n := n) (b := b) hk)
          have d1 : decide (0 ≤ (b : Int) - 1) = true := decide_eq_true (by have := HP.out; omega)
          have d2 : decide (1 ≤ (b : Int)) = true := decide_eq_true (by have := HP.out; omega)
          clear HS
          go_wp2
          go_roundw
          case rel => exact ⟨b, t + 1, 0, true, by go_num, by go_num, rfl, by go_num, HS', ⟨fun h => by cases h⟩, ⟨fun _ => HP.out⟩, HB⟩
          case measure => exact left_lt HL.out (by simp only [intOf]; omega) (by simp only [intOf]; omega) (by simp only [intOf]; omega) (by simp only [intOf]; omega) (by simp only [intOf]; omega) (by simp only [intOf]; omega)
        | false =>
          have HP := Aside0.mk (H0.out rfl)
          have hf := HS.out.fail hk (fun h => absurd h hi) (fun h => absurd h hi)
          have HF := Aside0.mk hf
          have d1 : decide (0 ≤ (b : Int) - 1) = false := decide_eq_false (by have := HP.out; omega)
          have d2 : decide (1 ≤ (b : Int)) = false := decide_eq_false (by have := HP.out; omega)
          clear HS hf H0 H1
          go_wp2
          go_ret
          exact ⟨by rw [HF.out]; rfl, HB.out⟩
    · have hkb : decide ((t : Int) + (m : Int) < (of : Int)) = false := decide_eq_false (by omega)
      have HF := Aside0.mk (HS.out.last hk)
      obtain ⟨wo, rfl⟩ : ∃ wo : World, wo = wr := ⟨_, rfl⟩
      clear HS H0 H1
      go_wp2
      go_loopw [9] (fun v9 w' => ∃ i : Nat, i ≤ n ∧ v9 = .int .i64 i ∧ Aside0 (mt n of M O 0 0 = mt n of M O i of) ∧ Aside0 (Below w.heap.size w w')) (fun v9 w' => n - (intOf v9).toNat)
      case atStart => exact ⟨b + m, hle, by go_num, HF, HB⟩
      case round =>
        obtain ⟨i, hin, rfl, HG, HB'⟩ := hrel
        by_cases hi : i < n
        · have hib : decide ((i : Int) < (n : Int)) = true := decide_eq_true (by omega)
          cases hM : M i with
          | true =>
            have HG' := Aside0.mk (HG.out.trans (mt_tail hi hM))
            clear HG
            go_wp2_with (first | (go_at_call 51; refine (HM.out _ i _ (by omega) hi HB'.out).mono ?_; rintro e w1 ⟨rfl, hb⟩; have HB1 := Aside0.mk (HB'.out.trans (hb.mono HB'.out.size)); clear hb))
            go_roundw
            case rel => exact ⟨i + 1, by omega, by go_num, HG', HB1⟩
            case measure => simp only [intOf]; omega
          | false =>
            have HG' := Aside0.mk (HG.out.trans (mt_tail_no hi hM))
            have d1 : ((i : Int) == (n : Int)) = false := by rw [beq_eq_false_iff_ne]; omega
            clear HG
            go_wp2_with (first | (go_at_call 51; refine (HM.out _ i _ (by omega) hi HB'.out).mono ?_; rintro e w1 ⟨rfl, hb⟩; have HB1 := Aside0.mk (HB'.out.trans (hb.mono HB'.out.size)); clear hb))
            go_ret
            exact ⟨by rw [HG'.out]; rfl, HB1.out⟩
        · have hib : decide ((i : Int) < (n : Int)) = false := decide_eq_false (by omega)
          have HG' := Aside0.mk (HG.out.trans (mt_fin hi))
          have d1 : ((i : Int) == (n : Int)) = true := by rw [beq_iff_eq]; omega
          clear HG
          go_wp2
          go_ret
          exact ⟨by rw [HG'.out]; rfl, HB'.out⟩
end Go.Proofs.YtoidibkcdkdneaaGreatDoor.Hand
end
