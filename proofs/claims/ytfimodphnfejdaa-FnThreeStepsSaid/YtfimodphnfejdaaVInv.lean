/- Words for the walks: those of the kit's print.sh that this claim's texts name. -/
import Derived.Test.YtfimodphnfejdaaVTab
namespace Go.Proofs.YtfimodphnfejdaaW.PrintLast
def up (b : Nat → Bool) (i : Nat) : Nat → Bool := fun j => if j = i then true else b j
end Go.Proofs.YtfimodphnfejdaaW.PrintLast
