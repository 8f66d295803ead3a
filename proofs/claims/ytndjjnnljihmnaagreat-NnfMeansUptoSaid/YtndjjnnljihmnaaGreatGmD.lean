/- The law NnfTurns: the walk. -/
import Derived.Test.YtndjjnnljihmnaaGreatGmC
import Derived.Test.YtndjjnnljihmnaaGreatGmB
import Derived.Test.YtndjjnnljihmnaaGreatGmO
namespace Go.Proofs.YtndjjnnljihmnaaGreat
open Go.RowKit
set_option linter.unusedVariables false
set_option linter.unusedSimpArgs false
theorem NRes.all {S : Nat → Prop} {w : World} {g : Fm} {en : Int} {e : Ending} (h : NRes S w g en e) : NRes All w g en e := h.lift (Stay.mono fun _ _ => trivial)
end Go.Proofs.YtndjjnnljihmnaaGreat
