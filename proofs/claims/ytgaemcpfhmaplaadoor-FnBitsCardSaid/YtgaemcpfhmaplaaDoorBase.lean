/- What every walk imports. Nothing is proved here. -/
import Derived.Test.YtgaemcpfhmaplaaDoorRows
import Derived.Test.YtgaemcpfhmaplaaDoorPlain
import Derived.WalkSpells
import Derived.WalkLawsBesides
import Derived.BigQuiet
import Derived.Deep.QuietTactic
import Derived.Lib.Hide
namespace Go.Proofs.YtgaemcpfhmaplaaDoor
open Go.RowKit

end Go.Proofs.YtgaemcpfhmaplaaDoor
