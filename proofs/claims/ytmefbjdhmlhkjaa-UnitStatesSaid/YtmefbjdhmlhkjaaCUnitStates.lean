/- The law UnitStates holds: for every input the call returns true, and each argument reads behind the call as it read before. No conditions. -/
import Derived.Test.YtmefbjdhmlhkjaaLUnitStates
import Derived.Test.YtmefbjdhmlhkjaaP7
namespace Go.Proofs.Ytmefbjdhmlhkjaa
theorem unitStates_holds : Rows.UnitStatesSaid := unitStates.said UnitStates_pure
#print axioms unitStates_holds
end Go.Proofs.Ytmefbjdhmlhkjaa
