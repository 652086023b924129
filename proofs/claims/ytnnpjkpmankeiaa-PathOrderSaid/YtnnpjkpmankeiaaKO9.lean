import Derived.Below
import Derived.Deep.Draws
import Derived.Deep.AppendLies
import Derived.Maps.AppendAt
import Derived.OwnWalk
import Derived.Laws.BytesArg
import Derived.Laws.MakeOwn
import Derived.Laws.OwnMore
import Derived.Deep.OwnRows
import Derived.Tactics
import Derived.Lib.ConvBytes
import Derived.Laws.Slices
import Derived.WalkKit
import Derived.KernelRfl
import Derived.RowKit3
import Derived.Deep.LoopGhost
import Derived.Deep.QuietTactic
import Derived.BigQuiet
import Derived.WideLaws
import Derived.Deep.DeepCutAuto
import Derived.Deep.CutBlock
import Derived.Deep.RegionHeld3
import Derived.Laws.Rows
import Derived.Lib.AppendStr
import Derived.ArgAppend
import Derived.Laws.IdiomCopy
import Derived.RowKit
import Derived.Test.YtnnpjkpmankeiaaProg
import Derived.Shelf.Strings.Builder1
import Derived.Shelf.Strings.Builder2
import Derived.Shelf.Strings.OnBuilder
import Derived.Shelf.Strings.Search1
import Derived.Shelf.Strings.Search2
import Derived.Shelf.Strings.Search3
import Derived.Shelf.LaysM
import Derived.Shelf.Strings.Shaped
import Derived.Test.YtnnpjkpmankeiaaKO1
import Derived.Test.YtnnpjkpmankeiaaKO8
namespace Foot
end Foot
namespace Go.Proofs
end Go.Proofs
namespace Go.Proofs.Ytnnpjkpmankeiaa
end Go.Proofs.Ytnnpjkpmankeiaa
namespace Go.Proofs.Ytnnpjkpmankeiaa.Hand
end Go.Proofs.Ytnnpjkpmankeiaa.Hand
namespace Go.Proofs.Ytnnpjkpmankeiaa.MPat
end Go.Proofs.Ytnnpjkpmankeiaa.MPat
namespace Go.Proofs.Ytnnpjkpmankeiaa.MStr
end Go.Proofs.Ytnnpjkpmankeiaa.MStr
namespace Go.Proofs.Ytnnpjkpmankeiaa.PL
end Go.Proofs.Ytnnpjkpmankeiaa.PL
namespace Go.Proofs.Ytnnpjkpmankeiaa.PRead
end Go.Proofs.Ytnnpjkpmankeiaa.PRead
namespace Go.Proofs.Ytnnpjkpmankeiaa.PSplit
end Go.Proofs.Ytnnpjkpmankeiaa.PSplit
namespace Go.Proofs.Ytnnpjkpmankeiaa.Pure
end Go.Proofs.Ytnnpjkpmankeiaa.Pure
namespace Go.Proofs.Ytnnpjkpmankeiaa.Q
end Go.Proofs.Ytnnpjkpmankeiaa.Q
namespace Go.Proofs.Ytnnpjkpmankeiaa.pathOrder
end Go.Proofs.Ytnnpjkpmankeiaa.pathOrder
namespace Go.Proofs.YtnnpjkpmankeiaaW.PrintLast
end Go.Proofs.YtnnpjkpmankeiaaW.PrintLast
namespace Go.Proofs.YtnnpjkpmankeiaaW.PrintMore
end Go.Proofs.YtnnpjkpmankeiaaW.PrintMore
namespace Go.Proofs.YtnnpjkpmankeiaaW.PrintWords
end Go.Proofs.YtnnpjkpmankeiaaW.PrintWords
namespace Kd
end Kd
section
namespace Go.Proofs.Ytnnpjkpmankeiaa.Hand
set_option linter.unusedVariables false
set_option linter.unusedSimpArgs false
open Go.RowKit Go.Proofs.YtnnpjkpmankeiaaW.PrintWords
/-- strings.Contains at a text of one byte. -/
def strings_Contains.f (s sub : ByteArray) : Option Bool := if sub.size = 1 then some (decide (0 ≤ Lib.indexByte s.data.toList (sub.get! 0))) else none
theorem strings_Contains.calls (a0 a1 : ByteArray) (r : Bool) (w : World) (h : strings_Contains.f a0 a1 = some r) :
    Calls Try.prog 74 #[.string a0, .string a1] w fun e w' => e = .returned (.bool r) ∧ Drawn0 w w' := by
  unfold strings_Contains.f at h
  split at h
  case isFalse => cases h
  rename_i h1
  have hr := Option.some.inj h
  subst hr
  have e1 : a1 = ⟨#[a1.get! 0]⟩ := by
    cases a1 with
    | mk d =>
      have hd : d.size = 1 := h1
      apply ByteArray.ext
      apply Array.ext
      · simp [hd]
      · intro i h2 h3
        simp at h3
        subst h3
        simp [ByteArray.get!, getElem!_pos, hd]
  rw [e1]
  refine (Try.strings_Contains_one a0 _ w).mono ?_
  rintro e w' ⟨rfl, rfl⟩
  exact ⟨by rw [← e1], Drawn0.refl _⟩
end Go.Proofs.Ytnnpjkpmankeiaa.Hand
end
