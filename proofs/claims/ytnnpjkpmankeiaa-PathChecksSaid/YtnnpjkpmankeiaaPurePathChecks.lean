import Derived.Test.YtnnpjkpmankeiaaQName
namespace Go.Proofs.Ytnnpjkpmankeiaa.Pure
open Go.Proofs.Ytnnpjkpmankeiaa.PL
theorem PathChecks : twinelaw3_PathChecks.Pure := Q.pathChecks_ev
end Go.Proofs.Ytnnpjkpmankeiaa.Pure
