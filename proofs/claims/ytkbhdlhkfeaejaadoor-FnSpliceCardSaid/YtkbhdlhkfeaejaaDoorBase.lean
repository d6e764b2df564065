/- What every walk imports. Nothing is proved here. -/
import Derived.Test.YtkbhdlhkfeaejaaDoorRows
import Derived.Test.YtkbhdlhkfeaejaaDoorPlain
import Derived.WalkSpells
import Derived.WalkLawsBesides
import Derived.BigQuiet
import Derived.Deep.QuietTactic
import Derived.Lib.Hide
namespace Go.Proofs.YtkbhdlhkfeaejaaDoor
open Go.RowKit

end Go.Proofs.YtkbhdlhkfeaejaaDoor
