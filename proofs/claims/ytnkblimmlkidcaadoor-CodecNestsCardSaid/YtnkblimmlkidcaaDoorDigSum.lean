/- digest.Sum and identityref03.Sum compute sumS. -/
import Derived.Test.YtnkblimmlkidcaaDoorProg
import Derived.Test.YtnkblimmlkidcaaDoorDigPlain
import Derived.WalkKit
import Derived.Lib.Hide
import Derived.WalkSpells
import Derived.WalkLawsBesides
namespace Go.Proofs.YtnkblimmlkidcaaDoor
open Go.RowKit

end Go.Proofs.YtnkblimmlkidcaaDoor
