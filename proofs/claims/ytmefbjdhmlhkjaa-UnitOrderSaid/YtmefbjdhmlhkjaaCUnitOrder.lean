/- The law UnitOrder holds: for every input the call returns true, and each argument reads behind the call as it read before. No conditions. -/
import Derived.Test.YtmefbjdhmlhkjaaLUnitOrder
import Derived.Test.YtmefbjdhmlhkjaaP6
namespace Go.Proofs.Ytmefbjdhmlhkjaa
theorem unitOrder_holds : Rows.UnitOrderSaid := unitOrder.said UnitOrder_pure
#print axioms unitOrder_holds
end Go.Proofs.Ytmefbjdhmlhkjaa
