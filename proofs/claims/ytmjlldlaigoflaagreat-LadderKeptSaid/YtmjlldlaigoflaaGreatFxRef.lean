/- Contracts of the plain numbers with six decimals. No statement of the seat is proved here. -/
import Derived.Test.YtmjlldlaigoflaaGreatFxProg
set_option linter.unusedSimpArgs false
set_option linter.unusedVariables false
namespace Go.Proofs.YtmjlldlaigoflaaGreat
open Go Go.Sx



end Go.Proofs.YtmjlldlaigoflaaGreat
