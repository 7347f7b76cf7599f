/- The law UnitNames holds: for every input the call returns true, and each argument reads behind the call as it read before. No conditions. -/
import Derived.Test.YtmefbjdhmlhkjaaLUnitNames
import Derived.Test.YtmefbjdhmlhkjaaP8
namespace Go.Proofs.Ytmefbjdhmlhkjaa
theorem unitNames_holds : Rows.UnitNamesSaid := unitNames.said UnitNames_pure
#print axioms unitNames_holds
end Go.Proofs.Ytmefbjdhmlhkjaa
