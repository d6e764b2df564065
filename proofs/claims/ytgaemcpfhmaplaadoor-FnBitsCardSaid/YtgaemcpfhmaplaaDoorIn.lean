/- The contract of spec.l00In. -/
import Derived.Test.YtgaemcpfhmaplaaDoorBase
namespace Go.Proofs.YtgaemcpfhmaplaaDoor
open Go.RowKit

end Go.Proofs.YtgaemcpfhmaplaaDoor
