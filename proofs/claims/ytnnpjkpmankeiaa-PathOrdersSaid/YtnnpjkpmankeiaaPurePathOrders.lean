import Derived.Test.YtnnpjkpmankeiaaQOrders
namespace Go.Proofs.Ytnnpjkpmankeiaa.Pure
open Go.Proofs.Ytnnpjkpmankeiaa.PL
theorem PathOrders : twinelaw3_PathOrders.Pure := Q.pathOrders_ev
end Go.Proofs.Ytnnpjkpmankeiaa.Pure
