/- What every walk imports. Nothing is proved here. -/
import Derived.Test.YtdoaoeenmfnjhaaRows
import Derived.Test.YtdoaoeenmfnjhaaPlain
import Derived.WalkSpells
import Derived.WalkLawsBesides
import Derived.BigQuiet
import Derived.Deep.QuietTactic
import Derived.Lib.Hide
namespace Go.Proofs.Ytdoaoeenmfnjhaa
open Go.RowKit

end Go.Proofs.Ytdoaoeenmfnjhaa
