/- The law UnitEnd holds: for every input the call returns true, and each argument reads behind the call as it read before. No conditions. -/
import Derived.Test.YtmefbjdhmlhkjaaLUnitEnd
import Derived.Test.YtmefbjdhmlhkjaaP4
namespace Go.Proofs.Ytmefbjdhmlhkjaa
theorem unitEnd_holds : Rows.UnitEndSaid := unitEnd.said UnitEnd_pure
#print axioms unitEnd_holds
end Go.Proofs.Ytmefbjdhmlhkjaa
