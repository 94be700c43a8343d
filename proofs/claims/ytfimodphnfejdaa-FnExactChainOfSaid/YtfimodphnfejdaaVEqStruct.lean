/- Words for the walks: those of the kit's print.sh that this claim's texts name. -/
import Derived.Test.YtfimodphnfejdaaVWords
import Derived.Laws.StructEq
namespace Go.Proofs.YtfimodphnfejdaaW.PrintWords
open Go.RowKit
end Go.Proofs.YtfimodphnfejdaaW.PrintWords
