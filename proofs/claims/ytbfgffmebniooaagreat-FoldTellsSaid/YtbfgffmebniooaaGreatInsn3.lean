/- An instruction taken by the reference, and bytes that are none: walked. No statement is proved here. -/
import Derived.Test.YtbfgffmebniooaaGreatInsn2
namespace Go.Proofs.YtbfgffmebniooaaGreat
open Go.RowKit

end Go.Proofs.YtbfgffmebniooaaGreat
