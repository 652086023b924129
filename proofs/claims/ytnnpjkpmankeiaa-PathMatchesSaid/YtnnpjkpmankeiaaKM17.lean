import GoSem.Core.Utf8
import Derived.Laws.RangeAny
import Derived.Below
import Derived.Deep.Draws
import Derived.Deep.AppendLies
import Derived.Maps.AppendAt
import Derived.OwnWalk
import Derived.Laws.BytesArg
import Derived.Laws.MakeOwn
import Derived.Laws.OwnMore
import Derived.Deep.OwnRows
import Derived.Tactics
import Derived.Lib.ConvBytes
import Derived.Laws.Slices
import Derived.WalkKit
import Derived.KernelRfl
import Derived.RowKit3
import Derived.Deep.LoopGhost
import Derived.Deep.QuietTactic
import Derived.BigQuiet
import Derived.WideLaws
import Derived.Deep.DeepCutAuto
import Derived.Deep.CutBlock
import Derived.Deep.RegionHeld3
import Derived.Laws.Rows
import Derived.Lib.AppendStr
import Derived.ArgAppend
import Derived.Laws.IdiomCopy
import Derived.RowKit
import Derived.Test.YtnnpjkpmankeiaaProg
import GoSem.Op.String
import Derived.WalkLawsBesides
import Derived.OrdersHeld
import Derived.Laws.BitsLemmas
import Derived.Lib.OthersKept
import Derived.WalkSmall
import Derived.Shelf.Strings.Builder1
import Derived.Shelf.Strings.Builder2
import Derived.Shelf.Strings.OnBuilder
import Derived.Shelf.Strings.Search1
import Derived.Shelf.Strings.Search2
import Derived.Shelf.Strings.Search3
import Derived.Shelf.LaysM
import Derived.Shelf.Strings.Shaped
import Derived.Laws.StructEq
import Derived.StillTailTactics
import Derived.Test.YtnnpjkpmankeiaaKM13
import Derived.Test.YtnnpjkpmankeiaaKM16
namespace Foot
end Foot
namespace Go.Proofs
end Go.Proofs
namespace Go.Proofs.Ytnnpjkpmankeiaa
end Go.Proofs.Ytnnpjkpmankeiaa
namespace Go.Proofs.Ytnnpjkpmankeiaa.Hand
end Go.Proofs.Ytnnpjkpmankeiaa.Hand
namespace Go.Proofs.Ytnnpjkpmankeiaa.MPat
end Go.Proofs.Ytnnpjkpmankeiaa.MPat
namespace Go.Proofs.Ytnnpjkpmankeiaa.MStr
end Go.Proofs.Ytnnpjkpmankeiaa.MStr
namespace Go.Proofs.Ytnnpjkpmankeiaa.PL
end Go.Proofs.Ytnnpjkpmankeiaa.PL
namespace Go.Proofs.Ytnnpjkpmankeiaa.PRead
end Go.Proofs.Ytnnpjkpmankeiaa.PRead
namespace Go.Proofs.Ytnnpjkpmankeiaa.PSplit
end Go.Proofs.Ytnnpjkpmankeiaa.PSplit
namespace Go.Proofs.Ytnnpjkpmankeiaa.Pure
end Go.Proofs.Ytnnpjkpmankeiaa.Pure
namespace Go.Proofs.Ytnnpjkpmankeiaa.Q
end Go.Proofs.Ytnnpjkpmankeiaa.Q
namespace Go.Proofs.Ytnnpjkpmankeiaa.pathMatches
end Go.Proofs.Ytnnpjkpmankeiaa.pathMatches
namespace Go.Proofs.YtnnpjkpmankeiaaW.PrintLast
end Go.Proofs.YtnnpjkpmankeiaaW.PrintLast
namespace Go.Proofs.YtnnpjkpmankeiaaW.PrintMore
end Go.Proofs.YtnnpjkpmankeiaaW.PrintMore
namespace Go.Proofs.YtnnpjkpmankeiaaW.PrintWords
end Go.Proofs.YtnnpjkpmankeiaaW.PrintWords
namespace Kd
end Kd
section
namespace Go.Proofs.Ytnnpjkpmankeiaa.Q
open Go.RowKit Go.Proofs.Ytnnpjkpmankeiaa.PL Go.Proofs.Ytnnpjkpmankeiaa.Hand Go.Proofs.Ytnnpjkpmankeiaa.MStr Go.Proofs.YtnnpjkpmankeiaaW.PrintWords Go.Proofs.YtnnpjkpmankeiaaW.PrintLast
set_option linter.unusedVariables false
set_option linter.unusedSimpArgs false
theorem bad_iff (c : UInt8) : badByte c = true ↔ c = 47 ∨ c = 0 := by
  unfold badByte
  rw [Bool.or_eq_true, beq_iff_eq, beq_iff_eq]
  exact ⟨fun h => h.imp (fun h => UInt8.toNat_inj.1 h) (fun h => UInt8.toNat_inj.1 h), fun h => h.imp (fun h => by rw [h]; rfl) (fun h => by rw [h]; rfl)⟩
theorem name_l0 (s : ByteArray) (hs : s.size ≤ 9000000000000000000) (n : Nat) : ∀ i, s.size - i = n → Ev (fun k => twineref3_Name.l0 k s (i : Nat)) (! (s.data.toList.drop i).any badByte) := by
  induction n with
  | zero =>
    intro i h
    refine Ev.succ ?_
    simp only [twineref3_Name.l0]
    refine Ev.neg (by omega) (Ev.ret ?_)
    rw [List.drop_eq_nil_of_le (by rw [size_list]; omega)]
    rfl
  | succ n ih =>
    intro i h
    refine Ev.succ ?_
    simp only [twineref3_Name.l0]
    refine Ev.pos (by omega) (Ev.pos (by omega) ?_)
    have hd := drop_get s i (by omega)
    refine Ev.either (fun h1 => Ev.ret ?_) (fun h1 => Ev.either (fun h2 => Ev.ret ?_) (fun h2 => ?_))
    · have e := (bt_eq s i (by omega) 47).1 h1
      rw [hd, List.any_cons, (bad_iff _).2 (.inl e)]
      rfl
    · have e := (bt_eq s i (by omega) 0).1 h2
      rw [hd, List.any_cons, (bad_iff _).2 (.inr e)]
      rfl
    · rw [wrap_up i (by omega)]
      refine (ih (i + 1) (by omega)).as ?_
      have e : badByte (s.get! i) = false := by
        rw [Bool.eq_false_iff]
        intro hc
        rcases (bad_iff _).1 hc with e | e
        · exact h1 ((bt_eq s i (by omega) 47).2 e)
        · exact h2 ((bt_eq s i (by omega) 0).2 e)
      rw [hd, List.any_cons, e, Bool.false_or]
theorem name_ev (s : ByteArray) (hs : s.size ≤ 9000000000000000000) : Ev (fun k => twineref3_Name.f k s) (nameB s) := by
  have hj : nameB s = false → Ev (fun k => twineref3_Name.j0 k s true) (nameB s) := by
    intro h
    refine Ev.succ ?_
    simp only [twineref3_Name.j0]
    exact Ev.pos (by trivial) (Ev.ret h.symm)
  unfold twineref3_Name.f
  refine Ev.either (fun h => hj ?_) (fun h1 => Ev.either (fun h => hj ?_) (fun h2 => Ev.either (fun h => hj ?_) (fun h3 => ?_)))
  · simp [nameB]; omega
  · simp [nameB]; omega
  · simp [nameB, h]
  · by_cases h4 : s.toList = ([46, 46] : List UInt8)
    · rw [beq_iff_eq.2 h4]
      exact hj (by simp [nameB, h4])
    · rw [beq_eq_false_iff_ne.2 h4]
      refine Ev.succ ?_
      simp only [twineref3_Name.j0]
      refine Ev.neg (by simp) ?_
      refine (name_l0 s hs s.size 0 (by omega)).as ?_
      have e1 : decide (1 ≤ s.size) = true := decide_eq_true (by omega)
      have e2 : decide (s.size ≤ 255) = true := decide_eq_true (by omega)
      simp only [nameB, e1, e2, beq_eq_false_iff_ne.2 h3, beq_eq_false_iff_ne.2 h4, List.drop_zero, Bool.not_false, Bool.and_true, Bool.true_and]
end Go.Proofs.Ytnnpjkpmankeiaa.Q
end
section
namespace Go.Proofs.Ytnnpjkpmankeiaa.Q
open Go.RowKit Go.Proofs.Ytnnpjkpmankeiaa.PL Go.Proofs.Ytnnpjkpmankeiaa.Hand Go.Proofs.Ytnnpjkpmankeiaa.MStr Go.Proofs.YtnnpjkpmankeiaaW.PrintWords Go.Proofs.YtnnpjkpmankeiaaW.PrintLast
set_option linter.unusedVariables false
set_option linter.unusedSimpArgs false
theorem pieces_l0 (s : ByteArray) (hs : s.size ≤ 8796093022206) (h0 : ¬ s.toList = []) (n : Nat) : ∀ acc a b, s.size - b = n → Cutting s acc a b →
    Ev (fun k => twineref3_Pieces.l0 k s acc (a : Nat) (b : Nat)) (pieces s) := by
  induction n with
  | zero =>
    intro acc a b h hc
    have h1 := hc.few
    have h2 := hc.le
    have h3 := hc.le'
    refine Ev.succ ?_
    simp only [twineref3_Pieces.l0]
    refine Ev.neg (by omega) (Ev.pos (by omega) (Ev.pos (by omega) (Ev.pos (by omega) (Ev.ret ?_))))
    rw [Int.toNat_natCast, hc.fin (by omega) h0]
  | succ n ih =>
    intro acc a b h hc
    have h1 := hc.few
    have h2 := hc.le
    have h3 := hc.le'
    refine Ev.succ ?_
    simp only [twineref3_Pieces.l0]
    refine Ev.pos (by omega) (Ev.pos (by omega) (Ev.either (fun he => ?_) (fun he => ?_)))
    · refine Ev.pos (by omega) (Ev.pos (by omega) (Ev.pos (by omega) (Ev.pos (by omega) ?_)))
      rw [wrap_up b (by omega), Int.toNat_natCast, Int.toNat_natCast]
      exact ih _ _ _ (by omega) (hc.slash (by omega) ((bt_eq s b (by omega) 47).1 he))
    · rw [wrap_up b (by omega)]
      refine ih _ _ _ (by omega) (hc.pass (n := 1) (by omega) (fun j hj1 hj2 => ?_))
      obtain rfl : j = b := by omega
      exact fun e => he ((bt_eq s j (by omega) 47).2 e)
theorem pieces_ev (s : ByteArray) (hs : s.size ≤ 8796093022206) : Ev (fun k => twineref3_Pieces.f k s) (pieces s) := by
  unfold twineref3_Pieces.f
  refine Ev.either (fun h => Ev.ret ?_) (fun h => pieces_l0 s hs h s.size [] 0 0 (by omega) (Cutting.start s))
  rw [pieces, if_pos h]
end Go.Proofs.Ytnnpjkpmankeiaa.Q
end
