/- Text 19 of 26 texts that prove the statement of RowParses; it holds without conditions beyond the statement's own. -/
import Derived.Laws.OwnMore
import Derived.Maps.AppendAt
import Derived.Tactics
import Derived.Laws.StructEq
import Derived.Deep.LoopGhost
import GoSem.Core.Utf8
import Derived.Laws.RangeAny
import Derived.Below
import Derived.Deep.Draws
import Derived.Deep.AppendLies
import Derived.OwnWalk
import Derived.Laws.BytesArg
import Derived.Laws.MakeOwn
import Derived.Deep.OwnRows
import Derived.Lib.ConvBytes
import Derived.Laws.Slices
import Derived.WalkKit
import Derived.KernelRfl
import Derived.RowKit3
import Derived.Deep.QuietTactic
import Derived.BigQuiet
import Derived.WideLaws
import Derived.Deep.DeepCutAuto
import Derived.Deep.CutBlock
import Derived.Deep.RegionHeld3
import Derived.Laws.Rows
import Derived.Lib.AppendStr
import Derived.ArgAppend
import Derived.Laws.IdiomCopy
import Derived.RowKit
import Derived.OrdersHeld
import Derived.Laws.BitsLemmas
import Derived.Test.YtoidibkcdkdneaaGreatDoorProg
import Derived.Lib.OthersKept
import Derived.WalkSmall
import Derived.WalkLawsBesides
import Derived.Test.YtoidibkcdkdneaaGreatDoorKP8
import Derived.Test.YtoidibkcdkdneaaGreatDoorKP9
import Derived.Test.YtoidibkcdkdneaaGreatDoorKP10
import Derived.Test.YtoidibkcdkdneaaGreatDoorKP11
import Derived.Test.YtoidibkcdkdneaaGreatDoorKP17
namespace Foot
end Foot
namespace Go.Proofs
end Go.Proofs
namespace Go.Proofs.YtoidibkcdkdneaaGreatDoor
end Go.Proofs.YtoidibkcdkdneaaGreatDoor
namespace Go.Proofs.YtoidibkcdkdneaaGreatDoor.E
end Go.Proofs.YtoidibkcdkdneaaGreatDoor.E
namespace Go.Proofs.YtoidibkcdkdneaaGreatDoor.Hand
end Go.Proofs.YtoidibkcdkdneaaGreatDoor.Hand
namespace Go.Proofs.YtoidibkcdkdneaaGreatDoor.MPat
end Go.Proofs.YtoidibkcdkdneaaGreatDoor.MPat
namespace Go.Proofs.YtoidibkcdkdneaaGreatDoor.MStr
end Go.Proofs.YtoidibkcdkdneaaGreatDoor.MStr
namespace Go.Proofs.YtoidibkcdkdneaaGreatDoor.PRead
end Go.Proofs.YtoidibkcdkdneaaGreatDoor.PRead
namespace Go.Proofs.YtoidibkcdkdneaaGreatDoor.PSplit
end Go.Proofs.YtoidibkcdkdneaaGreatDoor.PSplit
namespace Go.Proofs.YtoidibkcdkdneaaGreatDoor.R
end Go.Proofs.YtoidibkcdkdneaaGreatDoor.R
namespace Go.Proofs.YtoidibkcdkdneaaGreatDoor.T
end Go.Proofs.YtoidibkcdkdneaaGreatDoor.T
namespace Go.Proofs.YtoidibkcdkdneaaGreatDoor.TR
end Go.Proofs.YtoidibkcdkdneaaGreatDoor.TR
namespace Go.Proofs.YtoidibkcdkdneaaGreatDoor.TrulesParses
end Go.Proofs.YtoidibkcdkdneaaGreatDoor.TrulesParses
namespace Go.Proofs.YtoidibkcdkdneaaGreatDoorW.PrintLast
end Go.Proofs.YtoidibkcdkdneaaGreatDoorW.PrintLast
namespace Go.Proofs.YtoidibkcdkdneaaGreatDoorW.PrintMore
end Go.Proofs.YtoidibkcdkdneaaGreatDoorW.PrintMore
namespace Go.Proofs.YtoidibkcdkdneaaGreatDoorW.PrintWords
end Go.Proofs.YtoidibkcdkdneaaGreatDoorW.PrintWords
namespace Kd
end Kd
section
namespace Go.Proofs.YtoidibkcdkdneaaGreatDoor.PSplit
open Go.RowKit Go.Proofs.YtoidibkcdkdneaaGreatDoor.Hand Go.Proofs.YtoidibkcdkdneaaGreatDoorW.PrintWords Go.Proofs.YtoidibkcdkdneaaGreatDoorW.PrintLast Go.Proofs.YtoidibkcdkdneaaGreatDoorW.PrintMore
attribute [local go_sem] max2_int min2_int max_two min_two max_three min_three max_four min_four   -- for this text's walks alone
set_option linter.unusedVariables false
set_option linter.unusedSimpArgs false
def errW : Option Int → Value
  | none => .nilIface
  | some c => .iface 0 (.int .i64 c)
theorem errW_none : errW none = .nilIface := rfl
theorem errW_some (c : Int) : errW (some c) = .iface 0 (.int .i64 c) := rfl
end Go.Proofs.YtoidibkcdkdneaaGreatDoor.PSplit
end
section
namespace Go.Proofs.YtoidibkcdkdneaaGreatDoor.PSplit
open Go.RowKit Go.Proofs.YtoidibkcdkdneaaGreatDoor.Hand Go.Proofs.YtoidibkcdkdneaaGreatDoorW.PrintWords Go.Proofs.YtoidibkcdkdneaaGreatDoorW.PrintLast Go.Proofs.YtoidibkcdkdneaaGreatDoorW.PrintMore
attribute [local go_sem] max2_int min2_int max_two min_two max_three min_three max_four min_four   -- for this text's walks alone
set_option linter.unusedVariables false
set_option linter.unusedSimpArgs false
def path_Split.l0 : Nat → List ByteArray → List ByteArray → Int → Int → Option (List ByteArray × Int)
  | 0, _, _, _, _ => none
  | k + 1, x6, x17, x18, x19 => if x19 < x18 then (if 0 ≤ x19 then (if x19 < (x17.length : Int) then ((path_Check.f (rdOf ByteArray.empty x17 x19)).bind fun t105 => (if t105 = 0 then (path_Split.l0 k x6 x17 x18 (wrap64 (x19 + 1))) else (some (([] : List ByteArray), t105)))) else (none)) else (none)) else (some (x6, 0))
def path_Split.f (k : Nat) (a0 : ByteArray) (a1 : Int) : Option (List ByteArray × Int) := (path_pieces.f a0).bind fun t101 => (if (t101.length : Int) > (mx a1 0) then (some (([] : List ByteArray), 31)) else (path_Split.l0 k t101 t101 (t101.length : Int) 0))
set_option maxHeartbeats 8000000 in
set_option maxRecDepth 100000 in
theorem path_Split.calls (k : Nat) (a0 : ByteArray) (a1 : Int) (r1 : List ByteArray) (r2 : Int) (w : World) (h : path_Split.f k a0 a1 = some (r1, r2)) :
    Calls Tryz.prog 49 #[.string a0, .int .i64 a1] w fun e w' => ∃ v0_ : Value, e = .returned (.tuple #[v0_, .int .i64 r2]) ∧ Kd.R Kd.string 9 w' w.heap.size (fun _ => True) v0_ r1 ∧ Below w.heap.size w w' := by
  have HB := Aside0.mk (Below.refl w.heap.size w)
  have H : ((path_pieces.f a0).bind fun t101 => (if (t101.length : Int) > (mx a1 0) then (some (([] : List ByteArray), 31)) else (path_Split.l0 k t101 t101 (t101.length : Int) 0))) = some (r1, r2) := h
  clear h
  replace H := Option.bind_eq_some_iff.mp H
  obtain ⟨t101, A30, H⟩ := H
  replace H : (if (t101.length : Int) > (mx a1 0) then (some (([] : List ByteArray), 31)) else (path_Split.l0 k t101 t101 (t101.length : Int) 0)) = some (r1, r2) := H
  have A3 := Aside0.mk A30
  clear A30
  obtain ⟨ji4, hji4⟩ : ∃ j_ : Int, (mx a1 0) = j_ := ⟨_, rfl⟩
  replace H : (if (t101.length : Int) > (ji4) then (some (([] : List ByteArray), 31)) else (path_Split.l0 k t101 t101 (t101.length : Int) 0)) = some (r1, r2) := by first | (rw [hji4] at H; exact H) | (simp only [hji4] at H ⊢; exact H)
  (try rw [hji4] at A3)
  (try (have hji4l : 0 ≤ ji4 := by (rw [← hji4]; unfold mx; (repeat' split) <;> omega)))
  (try (have hji4m : 0 ≤ ji4 := by omega))
  have hji4_ : (if a1 < 0 then 0 else a1) = ji4 := hji4
  by_cases c5 : (t101.length : Int) > (ji4)
  · rw [if_pos c5] at H
    have c5b0 : decide ((ji4) < (t101.length : Int)) = true := decide_eq_true c5
    clear c5
    simp only [Option.some.injEq, Prod.mk.injEq] at H
    obtain ⟨rfl, rfl⟩ := H
    go_enter Tryz.func49, Tryz.ntmps49
    go_wp2_with (first | ((with_reducible refine gate_callee (f := 84) rfl ?_); refine goesL_ (some 11) rfl rfl Tryz.func84 (by kernel_rfl) rfl #[.string a0] rfl (by (try simp only [List.map_toArray, List.map_cons, List.map_nil]); first | done | rfl | (simp only [List.length_drop, List.length_take]; rfl)) ?_; (with_reducible refine (path_pieces.calls a0 t101 _ A3.out).mono ?_); rintro e w6 ⟨v102, rfl, ho0, hb⟩; refine ⟨_, rfl, ?_⟩; have n0_ := Aside0.mk (Kd.R_lower ho0 (below_size (by repeat (first | (with_reducible first | exact HB.out | apply below_alloc | apply pw_below_drewN | apply below_drew1) | exact HB.out)))); have n1_ := Aside0.mk (below_step (by repeat (first | (with_reducible first | exact HB.out | apply below_alloc | apply pw_below_drewN | apply below_drew1) | exact HB.out)) hb); clear HB; have HO103 := n0_; have HB := n1_; clear n0_ n1_; (try clear hb); (try clear hb2); (try clear hk); (try clear hi); (try clear ho0); obtain ⟨Ao7, co7, eo7⟩ := Kd.R_slice HO103.out; subst eo7))
    go_ret2
    exact ⟨_, by first | rfl | (simp [errW_none, errW_some] <;> rfl) | (simp only [← hji4]; first | rfl | (simp [errW_none, errW_some] <;> rfl)) | (simp [*, errW_none, errW_some] <;> rfl), by first | exact Kd.R_nil _ _ _ _ _ | exact Kd.N_nil _ _ _ _ _ | exact Kd.V_nil _ _ _ _ _ | exact Kd.Q_nil _ _ _ _ _ | exact Kd.S_nil _ _ _ _ _, by repeat (first | (with_reducible first | exact HB.out | apply below_alloc | apply pw_below_drewN | apply below_drew1) | exact HB.out)⟩
  · rw [if_neg c5] at H
    have c5b0 : decide ((ji4) < (t101.length : Int)) = false := decide_eq_false c5
    clear c5
    have H' := Aside0.mk H
    clear H
    go_enter Tryz.func49, Tryz.ntmps49
    go_wp2_with (first | ((with_reducible refine gate_callee (f := 84) rfl ?_); refine goesL_ (some 11) rfl rfl Tryz.func84 (by kernel_rfl) rfl #[.string a0] rfl (by (try simp only [List.map_toArray, List.map_cons, List.map_nil]); first | done | rfl | (simp only [List.length_drop, List.length_take]; rfl)) ?_; (with_reducible refine (path_pieces.calls a0 t101 _ A3.out).mono ?_); rintro e w8 ⟨v102, rfl, ho0, hb⟩; refine ⟨_, rfl, ?_⟩; have n0_ := Aside0.mk (Kd.R_lower ho0 (below_size (by repeat (first | (with_reducible first | exact HB.out | apply below_alloc | apply pw_below_drewN | apply below_drew1) | exact HB.out)))); have n1_ := Aside0.mk (below_step (by repeat (first | (with_reducible first | exact HB.out | apply below_alloc | apply pw_below_drewN | apply below_drew1) | exact HB.out)) hb); clear HB; have HO103 := n0_; have HB := n1_; clear n0_ n1_; (try clear hb); (try clear hb2); (try clear hk); (try clear hi); (try clear ho0); obtain ⟨Ao9, co9, eo9⟩ := Kd.R_slice HO103.out; subst eo9))
    go_loopg [19] k (fun kq v19 w' => ∃ (x19_1 : Int), v19 = .int .i64 x19_1 ∧ Aside0 (path_Split.l0 kq t101 t101 (t101.length : Int) x19_1 = some (r1, r2)) ∧ Aside0 (kq ≤ k) ∧ Aside0 (Kd.R Kd.string 9 w' w.heap.size (fun _ => True) (.slice Ao9 t101.length co9) t101) ∧ Aside0 (Kd.R Kd.string 9 w' w.heap.size (fun _ => True) (.slice Ao9 t101.length co9) t101) ∧ Aside0 (Below w.heap.size w w'))
    case atStart => exact ⟨(0), (by first | rfl | (simp; done) | (simp [*]; done) | exact congrArg (Value.int .i64) (by unfold wrap64; omega)), H', ⟨Nat.le_refl _⟩, ⟨by (with_reducible repeat (first | apply Kd.R_alloc | apply Kd.R_drewN | apply Kd.R_drew)); exact HO103.out⟩, ⟨by (with_reducible repeat (first | apply Kd.R_alloc | apply Kd.R_drewN | apply Kd.R_drew)); exact HO103.out⟩, ⟨by repeat (first | (with_reducible first | exact HB.out | apply below_alloc | apply pw_below_drewN | apply below_drew1) | exact HB.out)⟩⟩
    case round =>
      clear H'
      try clear p2
      try clear c4
      try clear c5
      try clear c5b0
      try clear c8
      obtain ⟨x19_1, rfl, HA, HK1, HO_6, HO_17, HB⟩ := hrel
      cases gk with
      | zero => exact absurd HA.out (by simp [path_Split.l0])
      | succ k1 =>
        have H := HA.out
        clear HA
        simp only [path_Split.l0] at H
        by_cases c10 : x19_1 < (t101.length : Int)
        · rw [if_pos c10] at H
          have c10b0 : decide (x19_1 < (t101.length : Int)) = true := decide_eq_true c10
          clear c10
          by_cases c11 : 0 ≤ x19_1
          · rw [if_pos c11] at H
            have c11b0 : decide (0 ≤ x19_1) = true := decide_eq_true c11
            clear c11
            by_cases c12 : x19_1 < (t101.length : Int)
            · rw [if_pos c12] at H
              have c12b0 : decide (x19_1 < (t101.length : Int)) = true := decide_eq_true c12
              clear c12
              replace H := Option.bind_eq_some_iff.mp H
              obtain ⟨t105, A130, H⟩ := H
              replace H : (if t105 = 0 then (path_Split.l0 k1 t101 t101 (t101.length : Int) (wrap64 (x19_1 + 1))) else (some (([] : List ByteArray), t105))) = some (r1, r2) := H
              have A13 := Aside0.mk A130
              clear A130
              by_cases c14 : t105 = 0
              · rw [if_pos c14] at H
                have c14b0 : (t105 == 0) = true := beq_iff_eq.mpr c14
                have c14b1 : (t105 != 0) = false := bne_eq_false_iff_eq.mpr c14
                clear c14
                have H' := Aside0.mk H
                clear H
                have p104 : 0 ≤ (x19_1 : Int) := of_decide_eq_true (by first | (with_reducible assumption) | assumption)
                have q104 : x19_1 < (t101.length : Int) := of_decide_eq_true (by first | (with_reducible assumption) | assumption)
                obtain ⟨ad104, e104, hx104_0⟩ := Kd.at_string (Kd.R_reads' HO_17.out).2.2 x19_1 p104 q104
                cases e104
                replace p104 := eq_true p104
                replace q104 := eq_true q104
                go_wp2_with (first | ((with_reducible refine gate_callee (f := 88) rfl ?_); refine goesL_ (some 24) rfl rfl Tryz.func88 (by kernel_rfl) rfl #[.string (rdOf ByteArray.empty t101 x19_1)] rfl (by (try simp only [List.map_toArray, List.map_cons, List.map_nil]); first | done | rfl | (simp only [List.length_drop, List.length_take]; rfl)) ?_; (with_reducible refine (path_Check.calls (rdOf ByteArray.empty t101 x19_1) t105 _ A13.out).mono ?_); rintro e w15 ⟨rfl, hb⟩; refine ⟨_, rfl, ?_⟩; have n0_ := Aside0.mk (Kd.R_below (by (with_reducible repeat (first | apply Kd.R_alloc | apply Kd.R_drewN | apply Kd.R_drew)); exact HO_6.out) hb); have n1_ := Aside0.mk (Kd.R_below (by (with_reducible repeat (first | apply Kd.R_alloc | apply Kd.R_drewN | apply Kd.R_drew)); exact HO_17.out) hb); have n2_ := Aside0.mk (below_step (by repeat (first | (with_reducible first | exact HB.out | apply below_alloc | apply pw_below_drewN | apply below_drew1) | exact HB.out)) hb); clear HO_6; clear HO_17; clear HB; have HO_6 := n0_; have HO_17 := n1_; have HB := n2_; clear n0_ n1_ n2_; (try clear hb); (try clear hb2); (try clear hk); (try clear hi)))
                go_roundg k1
                case measure => have := HK1.out; omega
                case rel => exact ⟨(wrap64 (x19_1 + 1)), (by first | rfl | (simp; done) | (simp [*]; done) | exact congrArg (Value.int .i64) (by unfold wrap64; omega)), H', ⟨by have := HK1.out; omega⟩, ⟨by (with_reducible repeat (first | apply Kd.R_alloc | apply Kd.R_drewN | apply Kd.R_drew)); exact HO_6.out⟩, ⟨by (with_reducible repeat (first | apply Kd.R_alloc | apply Kd.R_drewN | apply Kd.R_drew)); exact HO_17.out⟩, ⟨by repeat (first | (with_reducible first | exact HB.out | apply below_alloc | apply pw_below_drewN | apply below_drew1) | exact HB.out)⟩⟩
              · rw [if_neg c14] at H
                have c14b0 : (t105 == 0) = false := beq_eq_false_iff_ne.mpr c14
                have c14b1 : (t105 != 0) = true := bne_iff_ne.mpr c14
                simp only [Option.some.injEq, Prod.mk.injEq] at H
                obtain ⟨rfl, rfl⟩ := H
                have p104 : 0 ≤ (x19_1 : Int) := of_decide_eq_true (by first | (with_reducible assumption) | assumption)
                have q104 : x19_1 < (t101.length : Int) := of_decide_eq_true (by first | (with_reducible assumption) | assumption)
                obtain ⟨ad104, e104, hx104_0⟩ := Kd.at_string (Kd.R_reads' HO_17.out).2.2 x19_1 p104 q104
                cases e104
                replace p104 := eq_true p104
                replace q104 := eq_true q104
                go_wp2_with (first | ((with_reducible refine gate_callee (f := 88) rfl ?_); refine goesL_ (some 24) rfl rfl Tryz.func88 (by kernel_rfl) rfl #[.string (rdOf ByteArray.empty t101 x19_1)] rfl (by (try simp only [List.map_toArray, List.map_cons, List.map_nil]); first | done | rfl | (simp only [List.length_drop, List.length_take]; rfl)) ?_; (with_reducible refine (path_Check.calls (rdOf ByteArray.empty t101 x19_1) t105 _ A13.out).mono ?_); rintro e w16 ⟨rfl, hb⟩; refine ⟨_, rfl, ?_⟩; have n0_ := Aside0.mk (Kd.R_below (by (with_reducible repeat (first | apply Kd.R_alloc | apply Kd.R_drewN | apply Kd.R_drew)); exact HO_6.out) hb); have n1_ := Aside0.mk (Kd.R_below (by (with_reducible repeat (first | apply Kd.R_alloc | apply Kd.R_drewN | apply Kd.R_drew)); exact HO_17.out) hb); have n2_ := Aside0.mk (below_step (by repeat (first | (with_reducible first | exact HB.out | apply below_alloc | apply pw_below_drewN | apply below_drew1) | exact HB.out)) hb); clear HO_6; clear HO_17; clear HB; have HO_6 := n0_; have HO_17 := n1_; have HB := n2_; clear n0_ n1_ n2_; (try clear hb); (try clear hb2); (try clear hk); (try clear hi)))
                go_ret2
                exact ⟨_, by first | rfl | (simp [errW_none, errW_some] <;> rfl) | (simp only [← hji4]; first | rfl | (simp [errW_none, errW_some] <;> rfl)) | (simp [*, errW_none, errW_some] <;> rfl), by first | exact Kd.R_nil _ _ _ _ _ | exact Kd.N_nil _ _ _ _ _ | exact Kd.V_nil _ _ _ _ _ | exact Kd.Q_nil _ _ _ _ _ | exact Kd.S_nil _ _ _ _ _, by repeat (first | (with_reducible first | exact HB.out | apply below_alloc | apply pw_below_drewN | apply below_drew1) | exact HB.out)⟩
            · rw [if_neg c12] at H
              exact absurd H (by simp)
          · rw [if_neg c11] at H
            exact absurd H (by simp)
        · rw [if_neg c10] at H
          have c10b0 : decide (x19_1 < (t101.length : Int)) = false := decide_eq_false c10
          clear c10
          simp only [Option.some.injEq, Prod.mk.injEq] at H
          obtain ⟨rfl, rfl⟩ := H
          go_wp2
          go_ret2
          exact ⟨_, by first | rfl | (simp [errW_none, errW_some] <;> rfl) | (simp only [← hji4]; first | rfl | (simp [errW_none, errW_some] <;> rfl)) | (simp [*, errW_none, errW_some] <;> rfl), by (with_reducible repeat (first | apply Kd.R_alloc | apply Kd.R_drewN | apply Kd.R_drew)); exact HO_6.out, by repeat (first | (with_reducible first | exact HB.out | apply below_alloc | apply pw_below_drewN | apply below_drew1) | exact HB.out)⟩
end Go.Proofs.YtoidibkcdkdneaaGreatDoor.PSplit
end
section
namespace Go.Proofs.YtoidibkcdkdneaaGreatDoor.Hand
open Go.RowKit Go.Proofs.YtoidibkcdkdneaaGreatDoor.MStr Go.Proofs.YtoidibkcdkdneaaGreatDoor.PSplit Go.Proofs.YtoidibkcdkdneaaGreatDoorW.PrintWords Go.Proofs.YtoidibkcdkdneaaGreatDoorW.PrintLast Go.Proofs.YtoidibkcdkdneaaGreatDoorW.PrintMore
set_option linter.unusedVariables false
set_option linter.unusedSimpArgs false
/-- What Split answers. -/
def splitB (s : ByteArray) (most : Int) : List ByteArray × Int :=
  if mx most 0 < ((pieces s).length : Int) then ([], 31) else if (pieces s).all nameB = true then (pieces s, 0) else ([], 30)
theorem split_loop (l : List ByteArray) (hl : l.length ≤ 8796093022207) (d : Nat) : ∀ (k j : Nat), l.length - j ≤ d → d < k → (l.take j).all nameB = true →
    path_Split.l0 k l l (l.length : Int) (j : Int) = some (if l.all nameB = true then (l, 0) else ([], 30)) := by
  induction d with
  | zero =>
    intro k j h1 h2 h3
    obtain ⟨k, rfl⟩ : ∃ m, k = m + 1 := ⟨k - 1, by omega⟩
    simp only [path_Split.l0]
    rw [List.take_of_length_le (by omega)] at h3
    rw [if_neg (by omega), if_pos h3]
  | succ d ih =>
    intro k j h1 h2 h3
    obtain ⟨k, rfl⟩ : ∃ m, k = m + 1 := ⟨k - 1, by omega⟩
    simp only [path_Split.l0]
    by_cases hj : j < l.length
    · have hr : rdOf ByteArray.empty l (j : Int) = l[j] := by
        unfold rdOf
        rw [Int.toNat_natCast, List.getD_eq_getElem?_getD, List.getElem?_eq_getElem hj]
        rfl
      have hw : wrap64 ((j : Int) + 1) = ((j + 1 : Nat) : Int) := by unfold wrap64; omega
      rw [if_pos (by omega), if_pos (by omega), if_pos (by omega), hr, hw]
      unfold path_Check.f
      rw [Option.bind_some]
      by_cases hn : nameB l[j] = true
      · rw [if_pos hn, if_pos rfl]
        refine ih k (j + 1) (by omega) (by omega) ?_
        rw [List.take_succ_eq_append_getElem hj, List.all_append, h3]
        simp [hn]
      · rw [if_neg hn, if_neg (by decide), if_neg]
        intro h
        rw [List.all_eq_true] at h
        exact hn (h _ (List.getElem_mem hj))
    · rw [List.take_of_length_le (by omega)] at h3
      rw [if_neg (by omega), if_pos h3]
theorem split_f (s : ByteArray) (most : Int) (hs : s.size ≤ 8796093022206) : path_Split.f ((pieces s).length + 1) s most = some (splitB s most) := by
  unfold path_Split.f path_pieces.f splitB
  rw [if_pos hs, Option.bind_some]
  by_cases h : mx most 0 < ((pieces s).length : Int)
  · rw [if_pos h, if_pos h]
  · rw [if_neg h, if_neg h]
    have := split_loop (pieces s) (pieces_few s _ hs) (pieces s).length ((pieces s).length + 1) 0 (by omega) (by omega) (by simp)
    rw [Int.ofNat_zero] at this
    rw [this]
theorem split_calls (s : ByteArray) (most : Int) (hs : s.size ≤ 8796093022206) (w : World) :
    Calls Tryz.prog 49 #[.string s, .int .i64 most] w fun e w' => ∃ v0_ : Value, e = .returned (.tuple #[v0_, .int .i64 (splitB s most).2]) ∧ Kd.R Kd.string 9 w' w.heap.size (fun _ => True) v0_ (splitB s most).1 ∧ Below w.heap.size w w' :=
  path_Split.calls _ s most (splitB s most).1 (splitB s most).2 w (split_f s most hs)
end Go.Proofs.YtoidibkcdkdneaaGreatDoor.Hand
end
