/- Words for the walks: those of the kit's print.sh that this claim's texts name. -/
import Derived.Test.YtfimodphnfejdaaVTab
namespace Go.Proofs.YtfimodphnfejdaaW.PrintLast
end Go.Proofs.YtfimodphnfejdaaW.PrintLast
