/- Joined: ClmNarrow. -/
import Derived.Test.YtiiioefjdebggaaGreatDoorSeg11
/- claims.Narrow and its reference. -/
namespace Go.Proofs.YtiiioefjdebggaaGreatDoor
open Go.RowKit

end Go.Proofs.YtiiioefjdebggaaGreatDoor

