/- Text 3 of 22 texts that prove the statement of PathBack; it holds without conditions beyond the statement's own. -/
import GoSem.Core.Utf8
import Derived.Laws.RangeAny
import Derived.Below
import Derived.Deep.Draws
import Derived.Deep.AppendLies
import Derived.Maps.AppendAt
import Derived.OwnWalk
import Derived.Laws.BytesArg
import Derived.Laws.MakeOwn
import Derived.Laws.OwnMore
import Derived.Deep.OwnRows
import Derived.Tactics
import Derived.Lib.ConvBytes
import Derived.Laws.Slices
import Derived.WalkKit
import Derived.KernelRfl
import Derived.RowKit3
import Derived.Deep.LoopGhost
import Derived.Deep.QuietTactic
import Derived.BigQuiet
import Derived.WideLaws
import Derived.Deep.DeepCutAuto
import Derived.Deep.CutBlock
import Derived.Deep.RegionHeld3
import Derived.Laws.Rows
import Derived.Lib.AppendStr
import Derived.ArgAppend
import Derived.Laws.IdiomCopy
import Derived.RowKit
import Derived.Test.YtnnpjkpmankeiaaProg
import Derived.Test.YtnnpjkpmankeiaaKB0
import Derived.Test.YtnnpjkpmankeiaaKB1
namespace Foot
end Foot
namespace Go.Proofs
end Go.Proofs
namespace Go.Proofs.Ytnnpjkpmankeiaa
end Go.Proofs.Ytnnpjkpmankeiaa
namespace Go.Proofs.Ytnnpjkpmankeiaa.Hand
end Go.Proofs.Ytnnpjkpmankeiaa.Hand
namespace Go.Proofs.Ytnnpjkpmankeiaa.MPat
end Go.Proofs.Ytnnpjkpmankeiaa.MPat
namespace Go.Proofs.Ytnnpjkpmankeiaa.MStr
end Go.Proofs.Ytnnpjkpmankeiaa.MStr
namespace Go.Proofs.Ytnnpjkpmankeiaa.PL
end Go.Proofs.Ytnnpjkpmankeiaa.PL
namespace Go.Proofs.Ytnnpjkpmankeiaa.PRead
end Go.Proofs.Ytnnpjkpmankeiaa.PRead
namespace Go.Proofs.Ytnnpjkpmankeiaa.PSplit
end Go.Proofs.Ytnnpjkpmankeiaa.PSplit
namespace Go.Proofs.Ytnnpjkpmankeiaa.Q
end Go.Proofs.Ytnnpjkpmankeiaa.Q
namespace Go.Proofs.Ytnnpjkpmankeiaa.pathBack
end Go.Proofs.Ytnnpjkpmankeiaa.pathBack
namespace Go.Proofs.YtnnpjkpmankeiaaW.PrintLast
end Go.Proofs.YtnnpjkpmankeiaaW.PrintLast
namespace Go.Proofs.YtnnpjkpmankeiaaW.PrintMore
end Go.Proofs.YtnnpjkpmankeiaaW.PrintMore
namespace Go.Proofs.YtnnpjkpmankeiaaW.PrintWords
end Go.Proofs.YtnnpjkpmankeiaaW.PrintWords
namespace Kd
end Kd
section
namespace Go.Proofs.Ytnnpjkpmankeiaa.Hand
set_option linter.unusedVariables false
set_option linter.unusedSimpArgs false
open Go.RowKit Go.Proofs.Ytnnpjkpmankeiaa.MStr Go.Proofs.YtnnpjkpmankeiaaW.PrintWords
set_option linter.unusedVariables false
def path_Check.f (s : ByteArray) : Option Int := some (if nameB s = true then 0 else 30)
theorem below_iter {w : World} (s : ByteArray) (pos : Nat) : Below w.heap.size w (w.iter s pos) := below_alloc (Below.refl _ _) _
set_option maxHeartbeats 1000000 in
set_option maxRecDepth 100000 in
theorem path_Check.calls (s : ByteArray) (r : Int) (w : World) (h : path_Check.f s = some r) :
    Calls Try.prog 12 #[.string s] w fun e w' => e = .returned (.int .i64 r) ∧ Below w.heap.size w w' := by
  have hr : r = if nameB s = true then 0 else 30 := (Option.some.inj h).symm
  clear h
  by_cases c1 : (s.size : Int) < 1
  · have hf : nameB s = false := by simp [nameB]; omega
    rw [hf] at hr
    have c1b : decide ((s.size : Int) < 1) = true := decide_eq_true c1
    have c1c : decide (s.size < 1) = true := decide_eq_true (by omega)
    clear c1 hf
    subst hr
    go_enter Try.func12, Try.ntmps12
    go_wp2
    go_ret
    exact ⟨by first | rfl | simp, Below.refl _ _⟩
  have c1b : decide ((s.size : Int) < 1) = false := decide_eq_false c1
  have c1c : decide (s.size < 1) = false := decide_eq_false (by omega)
  by_cases c2 : (s.size : Int) > 255
  · have hf : nameB s = false := by simp [nameB]; omega
    rw [hf] at hr
    have c2b : decide (255 < (s.size : Int)) = true := decide_eq_true c2
    have c2c : decide (255 < s.size) = true := decide_eq_true (by omega)
    clear c1 c2 hf
    subst hr
    go_enter Try.func12, Try.ntmps12
    go_wp2
    go_ret
    exact ⟨by first | rfl | simp, Below.refl _ _⟩
  have c2b : decide (255 < (s.size : Int)) = false := decide_eq_false c2
  have c2c : decide (255 < s.size) = false := decide_eq_false (by omega)
  by_cases c3 : s.toList = ([46] : List UInt8)
  · have hf : nameB s = false := by simp [nameB, c3]
    rw [hf] at hr
    have c3b : (s.toList == ([46] : List UInt8)) = true := beq_iff_eq.mpr c3
    clear c1 c2 c3 hf
    subst hr
    go_enter Try.func12, Try.ntmps12
    go_wp2
    go_ret
    exact ⟨by first | rfl | simp, Below.refl _ _⟩
  have c3b : (s.toList == ([46] : List UInt8)) = false := beq_eq_false_iff_ne.mpr c3
  by_cases c4 : s.toList = ([46, 46] : List UInt8)
  · have hf : nameB s = false := by simp [nameB, c4]
    rw [hf] at hr
    have c4b : (s.toList == ([46, 46] : List UInt8)) = true := beq_iff_eq.mpr c4
    clear c1 c2 c3 c4 hf
    subst hr
    go_enter Try.func12, Try.ntmps12
    go_wp2
    go_ret
    exact ⟨by first | rfl | simp, Below.refl _ _⟩
  have c4b : (s.toList == ([46, 46] : List UInt8)) = false := beq_eq_false_iff_ne.mpr c4
  have hn : nameB s = !(s.data.toList.any badByte) := by
    have e1 : decide (1 ≤ s.size) = true := decide_eq_true (by omega)
    have e2 : decide (s.size ≤ 255) = true := decide_eq_true (by omega)
    simp only [nameB, e1, e2, c3b, c4b, Bool.true_and, Bool.not_false]
  rw [hn] at hr
  have HR := Aside0.mk hr
  clear hr hn c1 c2 c3 c4
  go_enter Try.func12, Try.ntmps12
  go_wp2
  go_loopw [2] (fun v w' => ∃ pos : Nat, w' = w.iter s pos ∧ v = .int .i64 0 ∧ Aside0 (goodTo s pos)) (fun _ w' => s.size - w'.iterPos w.heap.size)
  case atStart => exact ⟨0, rfl, rfl, ⟨goodTo_zero s⟩⟩
  case round =>
    obtain ⟨pos, rfl, rfl, hg⟩ := hrel
    by_cases hp : pos < s.size
    · have hnx : ∀ ty, (Instr.next (.pointer (some ⟨w.heap.size, 0, none⟩)) true ty).run Try.prog (w.iter s pos) = _ := fun ty => run_next_any w s pos ty hp
      rcases decode_cases s pos hp with ⟨ha, hd⟩ | ⟨ha, hr1, hr2, hr3, hr4⟩
      · rw [hd] at hnx
        by_cases hb : badByte (s.get! pos) = true
        · have hall := not_good s pos hp hb
          have hr := HR.out
          rw [hall] at hr
          have hx : ((((s.get! pos).toNat : Nat) : Int) == 47) = true ∨ (((((s.get! pos).toNat : Nat) : Int) == 47) = false ∧ ((((s.get! pos).toNat : Nat) : Int) == 0) = true) := by
            simp only [badByte, Bool.or_eq_true, beq_iff_eq] at hb
            rcases hb with hb | hb
            · exact .inl (by rw [hb]; rfl)
            · exact .inr ⟨by rw [hb]; rfl, by rw [hb]; rfl⟩
          clear HR hg hall hb hd ha
          subst hr
          generalize (s.get! pos).toNat = b at *
          rcases hx with hx | ⟨hx, hy⟩
          · go_wp2
            go_ret
            exact ⟨by first | rfl | simp, below_iter _ _⟩
          · go_wp2
            go_ret
            exact ⟨by first | rfl | simp, below_iter _ _⟩
        · have hb' : badByte (s.get! pos) = false := by simpa using hb
          have hg' := Aside0.mk (goodTo_ascii s pos hg.out hb')
          have hx : ((((s.get! pos).toNat : Nat) : Int) == 47) = false := by
            simp only [badByte, Bool.or_eq_false_iff, beq_eq_false_iff_ne] at hb'
            rw [beq_eq_false_iff_ne]; omega
          have hy : ((((s.get! pos).toNat : Nat) : Int) == 0) = false := by
            simp only [badByte, Bool.or_eq_false_iff, beq_eq_false_iff_ne] at hb'
            rw [beq_eq_false_iff_ne]; omega
          clear hb hb' hd ha hg
          generalize (s.get! pos).toNat = b at *
          go_wp2
          go_roundw
          case rel => exact ⟨pos + 1, rfl, rfl, hg'⟩
          case measure => simp; omega
      · have hg' := Aside0.mk (goodTo_high s pos _ hg.out hr4)
        have hx : ((((Utf8.decode s pos).1 : Nat) : Int) == 47) = false := by rw [beq_eq_false_iff_ne]; omega
        have hy : ((((Utf8.decode s pos).1 : Nat) : Int) == 0) = false := by rw [beq_eq_false_iff_ne]; omega
        clear ha hr4 hg
        generalize hd : Utf8.decode s pos = d at *
        clear hd
        go_wp2
        go_roundw
        case rel => exact ⟨pos + d.2, rfl, rfl, hg'⟩
        case measure => simp; omega
    · have hnx : ∀ ty, (Instr.next (.pointer (some ⟨w.heap.size, 0, none⟩)) true ty).run Try.prog (w.iter s pos) = _ := fun ty => run_next_end w s pos ty hp
      have hall := goodTo_all s pos hp hg.out
      have hr := HR.out
      rw [hall] at hr
      clear HR hg hall
      subst hr
      go_wp2
      go_ret
      exact ⟨by first | rfl | simp, below_iter _ _⟩
end Go.Proofs.Ytnnpjkpmankeiaa.Hand
end
