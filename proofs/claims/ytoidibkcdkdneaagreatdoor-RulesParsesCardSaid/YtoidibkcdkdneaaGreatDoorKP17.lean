/- Text 18 of 26 texts that prove the statement of RowParses; it holds without conditions beyond the statement's own. -/
import Derived.Laws.OwnMore
import Derived.Maps.AppendAt
import Derived.Tactics
import Derived.Deep.LoopGhost
import GoSem.Core.Utf8
import Derived.Laws.RangeAny
import Derived.Below
import Derived.Deep.Draws
import Derived.Deep.AppendLies
import Derived.OwnWalk
import Derived.Laws.BytesArg
import Derived.Laws.MakeOwn
import Derived.Deep.OwnRows
import Derived.Lib.ConvBytes
import Derived.Laws.Slices
import Derived.WalkKit
import Derived.KernelRfl
import Derived.RowKit3
import Derived.Deep.QuietTactic
import Derived.BigQuiet
import Derived.WideLaws
import Derived.Deep.DeepCutAuto
import Derived.Deep.CutBlock
import Derived.Deep.RegionHeld3
import Derived.Laws.Rows
import Derived.Lib.AppendStr
import Derived.ArgAppend
import Derived.Laws.IdiomCopy
import Derived.RowKit
import Derived.Test.YtoidibkcdkdneaaGreatDoorProg
import Derived.Test.YtoidibkcdkdneaaGreatDoorKP7
import Derived.Test.YtoidibkcdkdneaaGreatDoorKP8
namespace Foot
end Foot
namespace Go.Proofs
end Go.Proofs
namespace Go.Proofs.YtoidibkcdkdneaaGreatDoor
end Go.Proofs.YtoidibkcdkdneaaGreatDoor
namespace Go.Proofs.YtoidibkcdkdneaaGreatDoor.E
end Go.Proofs.YtoidibkcdkdneaaGreatDoor.E
namespace Go.Proofs.YtoidibkcdkdneaaGreatDoor.Hand
end Go.Proofs.YtoidibkcdkdneaaGreatDoor.Hand
namespace Go.Proofs.YtoidibkcdkdneaaGreatDoor.MPat
end Go.Proofs.YtoidibkcdkdneaaGreatDoor.MPat
namespace Go.Proofs.YtoidibkcdkdneaaGreatDoor.MStr
end Go.Proofs.YtoidibkcdkdneaaGreatDoor.MStr
namespace Go.Proofs.YtoidibkcdkdneaaGreatDoor.PRead
end Go.Proofs.YtoidibkcdkdneaaGreatDoor.PRead
namespace Go.Proofs.YtoidibkcdkdneaaGreatDoor.PSplit
end Go.Proofs.YtoidibkcdkdneaaGreatDoor.PSplit
namespace Go.Proofs.YtoidibkcdkdneaaGreatDoor.R
end Go.Proofs.YtoidibkcdkdneaaGreatDoor.R
namespace Go.Proofs.YtoidibkcdkdneaaGreatDoor.T
end Go.Proofs.YtoidibkcdkdneaaGreatDoor.T
namespace Go.Proofs.YtoidibkcdkdneaaGreatDoor.TR
end Go.Proofs.YtoidibkcdkdneaaGreatDoor.TR
namespace Go.Proofs.YtoidibkcdkdneaaGreatDoor.TrulesParses
end Go.Proofs.YtoidibkcdkdneaaGreatDoor.TrulesParses
namespace Go.Proofs.YtoidibkcdkdneaaGreatDoorW.PrintLast
end Go.Proofs.YtoidibkcdkdneaaGreatDoorW.PrintLast
namespace Go.Proofs.YtoidibkcdkdneaaGreatDoorW.PrintMore
end Go.Proofs.YtoidibkcdkdneaaGreatDoorW.PrintMore
namespace Go.Proofs.YtoidibkcdkdneaaGreatDoorW.PrintWords
end Go.Proofs.YtoidibkcdkdneaaGreatDoorW.PrintWords
namespace Kd
end Kd
section
namespace Go.Proofs.YtoidibkcdkdneaaGreatDoor.Hand
set_option linter.unusedVariables false
set_option linter.unusedSimpArgs false
open Go.RowKit Go.Proofs.YtoidibkcdkdneaaGreatDoor.MStr Go.Proofs.YtoidibkcdkdneaaGreatDoorW.PrintWords
set_option linter.unusedVariables false
def path_Check.f (s : ByteArray) : Option Int := some (if nameB s = true then 0 else 30)
theorem below_iter {w : World} (s : ByteArray) (pos : Nat) : Below w.heap.size w (w.iter s pos) := below_alloc (Below.refl _ _) _
set_option maxHeartbeats 1000000 in
set_option maxRecDepth 100000 in
theorem path_Check.calls (s : ByteArray) (r : Int) (w : World) (h : path_Check.f s = some r) :
    Calls Tryz.prog 88 #[.string s] w fun e w' => e = .returned (.int .i64 r) ∧ Below w.heap.size w w' := by
  have hr : r = if nameB s = true then 0 else 30 := (Option.some.inj h).symm
  clear h
  by_cases c1 : (s.size : Int) < 1
  · have hf : nameB s = false := by simp [nameB]; omega
    rw [hf] at hr
    have c1b : decide ((s.size : Int) < 1) = true := decide_eq_true c1
    have c1c : decide (s.size < 1) = true := decide_eq_true (by omega)
    clear c1 hf
    subst hr
    go_enter Tryz.func88, Tryz.ntmps88
    go_wp2
    go_ret
    exact ⟨by first | rfl | simp, Below.refl _ _⟩
  have c1b : decide ((s.size : Int) < 1) = false := decide_eq_false c1
  have c1c : decide (s.size < 1) = false := decide_eq_false (by omega)
  by_cases c2 : (s.size : Int) > 255
  · have hf : nameB s = false := by simp [nameB]; omega
    rw [hf] at hr
    have c2b : decide (255 < (s.size : Int)) = true := decide_eq_true c2
    have c2c : decide (255 < s.size) = true := decide_eq_true (by omega)
    clear c1 c2 hf
    subst hr
    go_enter Tryz.func88, Tryz.ntmps88
    go_wp2
    go_ret
    exact ⟨by first | rfl | simp, Below.refl _ _⟩
  have c2b : decide (255 < (s.size : Int)) = false := decide_eq_false c2
  have c2c : decide (255 < s.size) = false := decide_eq_false (by omega)
  by_cases c3 : s.toList = ([46] : List UInt8)
  · have hf : nameB s = false := by simp [nameB, c3]
    rw [hf] at hr
    have c3b : (s.toList == ([46] : List UInt8)) = true := beq_iff_eq.mpr c3
    clear c1 c2 c3 hf
    subst hr
    go_enter Tryz.func88, Tryz.ntmps88
    go_wp2
    go_ret
    exact ⟨by first | rfl | simp, Below.refl _ _⟩
  have c3b : (s.toList == ([46] : List UInt8)) = false := beq_eq_false_iff_ne.mpr c3
  by_cases c4 : s.toList = ([46, 46] : List UInt8)
  · have hf : nameB s = false := by simp [nameB, c4]
    rw [hf] at hr
    have c4b : (s.toList == ([46, 46] : List UInt8)) = true := beq_iff_eq.mpr c4
    clear c1 c2 c3 c4 hf
    subst hr
    go_enter Tryz.func88, Tryz.ntmps88
    go_wp2
    go_ret
    exact ⟨by first | rfl | simp, Below.refl _ _⟩
  have c4b : (s.toList == ([46, 46] : List UInt8)) = false := beq_eq_false_iff_ne.mpr c4
  have hn : nameB s = !(s.data.toList.any badByte) := by
    have e1 : decide (1 ≤ s.size) = true := decide_eq_true (by omega)
    have e2 : decide (s.size ≤ 255) = true := decide_eq_true (by omega)
    simp only [nameB, e1, e2, c3b, c4b, Bool.true_and, Bool.not_false]
  rw [hn] at hr
  have HR := Aside0.mk hr
  clear hr hn c1 c2 c3 c4
  go_enter Tryz.func88, Tryz.ntmps88
  go_wp2
  go_loopw [2] (fun v w' => ∃ pos : Nat, w' = w.iter s pos ∧ v = .int .i64 0 ∧ Aside0 (goodTo s pos)) (fun _ w' => s.size - w'.iterPos w.heap.size)
  case atStart => exact ⟨0, rfl, rfl, ⟨goodTo_zero s⟩⟩
  case round =>
    obtain ⟨pos, rfl, rfl, hg⟩ := hrel
    by_cases hp : pos < s.size
    · have hnx : ∀ ty, (Instr.next (.pointer (some ⟨w.heap.size, 0, none⟩)) true ty).run Tryz.prog (w.iter s pos) = _ := fun ty => run_next_any w s pos ty hp
      rcases decode_cases s pos hp with ⟨ha, hd⟩ | ⟨ha, hr1, hr2, hr3, hr4⟩
      · rw [hd] at hnx
        by_cases hb : badByte (s.get! pos) = true
        · have hall := not_good s pos hp hb
          have hr := HR.out
          rw [hall] at hr
          have hx : ((((s.get! pos).toNat : Nat) : Int) == 47) = true ∨ (((((s.get! pos).toNat : Nat) : Int) == 47) = false ∧ ((((s.get! pos).toNat : Nat) : Int) == 0) = true) := by
            simp only [badByte, Bool.or_eq_true, beq_iff_eq] at hb
            rcases hb with hb | hb
            · exact .inl (by rw [hb]; rfl)
            · exact .inr ⟨by rw [hb]; rfl, by rw [hb]; rfl⟩
          clear HR hg hall hb hd ha
          subst hr
          generalize (s.get! pos).toNat = b at *
          rcases hx with hx | ⟨hx, hy⟩
          · go_wp2
            go_ret
            exact ⟨by first | rfl | simp, below_iter _ _⟩
          · go_wp2
            go_ret
            exact ⟨by first | rfl | simp, below_iter _ _⟩
        · have hb' : badByte (s.get! pos) = false := by simpa using hb
          have hg' := Aside0.mk (goodTo_ascii s pos hg.out hb')
          have hx : ((((s.get! pos).toNat : Nat) : Int) == 47) = false := by
            simp only [badByte, Bool.or_eq_false_iff, beq_eq_false_iff_ne] at hb'
            rw [beq_eq_false_iff_ne]; omega
          have hy : ((((s.get! pos).toNat : Nat) : Int) == 0) = false := by
            simp only [badByte, Bool.or_eq_false_iff, beq_eq_false_iff_ne] at hb'
            rw [beq_eq_false_iff_ne]; omega
          clear hb hb' hd ha hg
          generalize (s.get! pos).toNat = b at *
          go_wp2
          go_roundw
          case rel => exact ⟨pos + 1, rfl, rfl, hg'⟩
          case measure => simp; omega
      · have hg' := Aside0.mk (goodTo_high s pos _ hg.out hr4)
        have hx : ((((Utf8.decode s pos).1 : Nat) : Int) == 47) = false := by rw [beq_eq_false_iff_ne]; omega
        have hy : ((((Utf8.decode s pos).1 : Nat) : Int) == 0) = false := by rw [beq_eq_false_iff_ne]; omega
        clear ha hr4 hg
        generalize hd : Utf8.decode s pos = d at *
        clear hd
        go_wp2
        go_roundw
        case rel => exact ⟨pos + d.2, rfl, rfl, hg'⟩
        case measure => simp; omega
    · have hnx : ∀ ty, (Instr.next (.pointer (some ⟨w.heap.size, 0, none⟩)) true ty).run Tryz.prog (w.iter s pos) = _ := fun ty => run_next_end w s pos ty hp
      have hall := goodTo_all s pos hp hg.out
      have hr := HR.out
      rw [hall] at hr
      clear HR hg hall
      subst hr
      go_wp2
      go_ret
      exact ⟨by first | rfl | simp, below_iter _ _⟩
end Go.Proofs.YtoidibkcdkdneaaGreatDoor.Hand
end
