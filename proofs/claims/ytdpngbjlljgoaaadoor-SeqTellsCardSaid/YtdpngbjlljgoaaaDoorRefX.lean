/- The contract of chimeref1.NthOf for every input. -/
import Derived.Test.YtdpngbjlljgoaaaDoorRefW
namespace Go.Proofs.YtdpngbjlljgoaaaDoor
open Go.RowKit

end Go.Proofs.YtdpngbjlljgoaaaDoor
