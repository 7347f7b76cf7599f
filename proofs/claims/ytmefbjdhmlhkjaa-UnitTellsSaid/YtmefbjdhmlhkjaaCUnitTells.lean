/- The law UnitTells holds: for every input the call returns true, and each argument reads behind the call as it read before. No conditions. -/
import Derived.Test.YtmefbjdhmlhkjaaLUnitTells
import Derived.Test.YtmefbjdhmlhkjaaP4
namespace Go.Proofs.Ytmefbjdhmlhkjaa
theorem unitTells_holds : Rows.UnitTellsSaid := unitTells.said UnitTells_pure
#print axioms unitTells_holds
end Go.Proofs.Ytmefbjdhmlhkjaa
