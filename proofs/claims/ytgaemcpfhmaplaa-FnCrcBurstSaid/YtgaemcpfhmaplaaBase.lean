/- What every walk imports. Nothing is proved here. -/
import Derived.Test.YtgaemcpfhmaplaaRows
import Derived.Test.YtgaemcpfhmaplaaPlain
import Derived.WalkSpells
import Derived.WalkLawsBesides
import Derived.BigQuiet
import Derived.Deep.QuietTactic
import Derived.Lib.Hide
namespace Go.Proofs.Ytgaemcpfhmaplaa
open Go.RowKit

end Go.Proofs.Ytgaemcpfhmaplaa
