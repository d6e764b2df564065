/- What every walk imports. Nothing is proved here. -/
import Derived.Test.YtfdcainjppljhaaRows
import Derived.Test.YtfdcainjppljhaaPlain
import Derived.WalkSpells
import Derived.WalkLawsBesides
import Derived.BigQuiet
import Derived.Deep.QuietTactic
import Derived.Lib.Hide
namespace Go.Proofs.Ytfdcainjppljhaa
open Go.RowKit

end Go.Proofs.Ytfdcainjppljhaa
