/- Words for the walks: those of the kit's print.sh that this claim's texts name. -/
import Derived.Test.YtfimodphnfejdaaVInv
import Derived.Test.YtfimodphnfejdaaVFootNe
namespace Go.Proofs.YtfimodphnfejdaaW.PrintWords
open Go.RowKit
end Go.Proofs.YtfimodphnfejdaaW.PrintWords
namespace Go.Proofs.YtfimodphnfejdaaW.PrintLast
end Go.Proofs.YtfimodphnfejdaaW.PrintLast
