/- The law UnitMore holds: for every input the call returns true, and each argument reads behind the call as it read before. No conditions. -/
import Derived.Test.YtmefbjdhmlhkjaaLUnitMore
import Derived.Test.YtmefbjdhmlhkjaaP6
namespace Go.Proofs.Ytmefbjdhmlhkjaa
theorem unitMore_holds : Rows.UnitMoreSaid := unitMore.said UnitMore_pure
#print axioms unitMore_holds
end Go.Proofs.Ytmefbjdhmlhkjaa
