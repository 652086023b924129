import Derived.Test.YtnnpjkpmankeiaaPLx1
namespace Go.Proofs.Ytnnpjkpmankeiaa.Pure
open Go.RowKit Go.Proofs.Ytnnpjkpmankeiaa.PL Go.Proofs.YtnnpjkpmankeiaaW.PrintWords Go.Proofs.YtnnpjkpmankeiaaW.PrintLast

/-- YOURS: twinelaw3_PathNames.f  = some true
What it reaches (each with k first where it has rounds; `.mono`: more rounds tell the same; `.l0`, ..: its loops, with `.mono_l`): twinelaw3_PathNames.f -/
theorem PathNames : twinelaw3_PathNames.Pure := by
  unfold twinelaw3_PathNames.Pure
  decide +kernel

end Go.Proofs.Ytnnpjkpmankeiaa.Pure
