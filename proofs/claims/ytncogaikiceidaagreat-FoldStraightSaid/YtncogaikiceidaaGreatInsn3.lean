/- An instruction taken by the reference, and bytes that are none: walked. No statement is proved here. -/
import Derived.Test.YtncogaikiceidaaGreatInsn2
namespace Go.Proofs.YtncogaikiceidaaGreat
open Go.RowKit

end Go.Proofs.YtncogaikiceidaaGreat
