/- What every walk imports. Nothing is proved here. -/
import Derived.Test.YtmjmhdjfaamgkaaDoorRows
import Derived.Test.YtmjmhdjfaamgkaaDoorPlain
import Derived.WalkSpells
import Derived.WalkLawsBesides
import Derived.BigQuiet
import Derived.Deep.QuietTactic
import Derived.Lib.Hide
namespace Go.Proofs.YtmjmhdjfaamgkaaDoor
open Go.RowKit

end Go.Proofs.YtmjmhdjfaamgkaaDoor
