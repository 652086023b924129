/- Text 14 of 27 texts that prove the statement of RowSays; it holds without conditions beyond the statement's own. -/
import Derived.Laws.OwnMore
import Derived.Maps.AppendAt
import Derived.Tactics
import Derived.Deep.LoopGhost
import Derived.Below
import Derived.Deep.Draws
import Derived.Deep.AppendLies
import Derived.OwnWalk
import Derived.Laws.BytesArg
import Derived.Laws.MakeOwn
import Derived.Deep.OwnRows
import Derived.Lib.ConvBytes
import Derived.Laws.Slices
import Derived.WalkKit
import Derived.KernelRfl
import Derived.RowKit3
import Derived.Deep.QuietTactic
import Derived.BigQuiet
import Derived.WideLaws
import Derived.Deep.DeepCutAuto
import Derived.Deep.CutBlock
import Derived.Deep.RegionHeld3
import Derived.Laws.Rows
import Derived.Lib.AppendStr
import Derived.ArgAppend
import Derived.Laws.IdiomCopy
import Derived.RowKit
import Derived.Test.YtoidibkcdkdneaaDoorProg
import Derived.Shelf.Strings.Builder1
import Derived.Shelf.Strings.Builder2
import Derived.Shelf.Strings.OnBuilder
import Derived.Shelf.Small.Wraps
import Derived.Shelf.Strings.Search1
import Derived.Shelf.Strings.Search2
import Derived.Shelf.Strings.Search3
import Derived.Shelf.Strings.Count
import Derived.Shelf.LaysM
import Derived.Shelf.Strings.Shaped
import Derived.Shelf.Strings.LastIndex
import Derived.Shelf.Strings.Prefix
import Derived.Shelf.Strings.Split
import Derived.Shelf.Unicode.DecodeSlow
import Derived.Test.YtoidibkcdkdneaaDoorKS8
import Derived.Test.YtoidibkcdkdneaaDoorKS12
namespace Foot
end Foot
namespace Go.Proofs
end Go.Proofs
namespace Go.Proofs.YtoidibkcdkdneaaDoor
end Go.Proofs.YtoidibkcdkdneaaDoor
namespace Go.Proofs.YtoidibkcdkdneaaDoor.E
end Go.Proofs.YtoidibkcdkdneaaDoor.E
namespace Go.Proofs.YtoidibkcdkdneaaDoor.Hand
end Go.Proofs.YtoidibkcdkdneaaDoor.Hand
namespace Go.Proofs.YtoidibkcdkdneaaDoor.MPat
end Go.Proofs.YtoidibkcdkdneaaDoor.MPat
namespace Go.Proofs.YtoidibkcdkdneaaDoor.MStr
end Go.Proofs.YtoidibkcdkdneaaDoor.MStr
namespace Go.Proofs.YtoidibkcdkdneaaDoor.PRead
end Go.Proofs.YtoidibkcdkdneaaDoor.PRead
namespace Go.Proofs.YtoidibkcdkdneaaDoor.PSplit
end Go.Proofs.YtoidibkcdkdneaaDoor.PSplit
namespace Go.Proofs.YtoidibkcdkdneaaDoor.R
end Go.Proofs.YtoidibkcdkdneaaDoor.R
namespace Go.Proofs.YtoidibkcdkdneaaDoor.T
end Go.Proofs.YtoidibkcdkdneaaDoor.T
namespace Go.Proofs.YtoidibkcdkdneaaDoor.TR
end Go.Proofs.YtoidibkcdkdneaaDoor.TR
namespace Go.Proofs.YtoidibkcdkdneaaDoor.TrulesSays
end Go.Proofs.YtoidibkcdkdneaaDoor.TrulesSays
namespace Go.Proofs.YtoidibkcdkdneaaDoorW.PrintLast
end Go.Proofs.YtoidibkcdkdneaaDoorW.PrintLast
namespace Go.Proofs.YtoidibkcdkdneaaDoorW.PrintMore
end Go.Proofs.YtoidibkcdkdneaaDoorW.PrintMore
namespace Go.Proofs.YtoidibkcdkdneaaDoorW.PrintWords
end Go.Proofs.YtoidibkcdkdneaaDoorW.PrintWords
namespace Kd
end Kd
section
namespace Go.Proofs.YtoidibkcdkdneaaDoor.Hand
set_option linter.unusedVariables false
set_option linter.unusedSimpArgs false
open Go.RowKit Go.Proofs.YtoidibkcdkdneaaDoorW.PrintWords
theorem add_at {w : World} {ad : Addr} {v : Value} (h : w.cell? (ad.add 0) = some v) (j : Nat) : ad.add j = ⟨ad.block, ad.off + j, none⟩ := by
  have hs : ad.spot = none := by
    rw [show ad.add 0 = ad by simp [Addr.add]] at h
    unfold World.cell? at h
    split at h
    · split at h
      · cases h
      · rename_i hn
        simpa using hn
    · cases h
  unfold Addr.add
  split
  · rename_i h0
    subst h0
    cases ad
    simp_all
  · rfl
/-- strings.Contains at a text of one byte. -/
def strings_Contains.f (s sub : ByteArray) : Option Bool := if sub.size = 1 then some (decide (0 ≤ Lib.indexByte s.data.toList (sub.get! 0))) else none
theorem strings_Contains.calls (a0 a1 : ByteArray) (r : Bool) (w : World) (h : strings_Contains.f a0 a1 = some r) :
    Calls Tryd.prog 69 #[.string a0, .string a1] w fun e w' => e = .returned (.bool r) ∧ Drawn0 w w' := by
  unfold strings_Contains.f at h
  split at h
  case isFalse => cases h
  rename_i h1
  have hr := Option.some.inj h
  subst hr
  have e1 : a1 = ⟨#[a1.get! 0]⟩ := by
    cases a1 with
    | mk d =>
      have hd : d.size = 1 := h1
      apply ByteArray.ext
      apply Array.ext
      · simp [hd]
      · intro i h2 h3
        simp at h3
        subst h3
        simp [ByteArray.get!, getElem!_pos, hd]
  rw [e1]
  refine (Tryd.strings_Contains_one a0 _ w).mono ?_
  rintro e w' ⟨rfl, rfl⟩
  exact ⟨by rw [← e1], Drawn0.refl _⟩
end Go.Proofs.YtoidibkcdkdneaaDoor.Hand
end
