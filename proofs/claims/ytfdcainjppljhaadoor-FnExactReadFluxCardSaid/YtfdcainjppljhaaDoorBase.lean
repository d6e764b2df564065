/- What every walk imports. Nothing is proved here. -/
import Derived.Test.YtfdcainjppljhaaDoorRows
import Derived.Test.YtfdcainjppljhaaDoorPlain
import Derived.WalkSpells
import Derived.WalkLawsBesides
import Derived.BigQuiet
import Derived.Deep.QuietTactic
import Derived.Lib.Hide
namespace Go.Proofs.YtfdcainjppljhaaDoor
open Go.RowKit

end Go.Proofs.YtfdcainjppljhaaDoor
