/- Words for the walks: those of the kit's print.sh that this claim's texts name. -/
import Derived.Test.YtfimodphnfejdaaVWords
import Derived.Test.YtfimodphnfejdaaVLast
namespace Go.Proofs.YtfimodphnfejdaaW.PrintWords
open Go.RowKit
namespace Kd
end Kd
end Go.Proofs.YtfimodphnfejdaaW.PrintWords
