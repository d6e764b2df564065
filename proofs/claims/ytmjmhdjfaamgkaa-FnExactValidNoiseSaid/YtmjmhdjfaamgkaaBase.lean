/- What every walk imports. Nothing is proved here. -/
import Derived.Test.YtmjmhdjfaamgkaaRows
import Derived.Test.YtmjmhdjfaamgkaaPlain
import Derived.WalkSpells
import Derived.WalkLawsBesides
import Derived.BigQuiet
import Derived.Deep.QuietTactic
import Derived.Lib.Hide
namespace Go.Proofs.Ytmjmhdjfaamgkaa
open Go.RowKit

end Go.Proofs.Ytmjmhdjfaamgkaa
