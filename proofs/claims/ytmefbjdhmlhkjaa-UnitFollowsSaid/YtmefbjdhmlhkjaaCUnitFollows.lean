/- The law UnitFollows holds: for every input the call returns true, and each argument reads behind the call as it read before. No conditions. -/
import Derived.Test.YtmefbjdhmlhkjaaLUnitFollows
import Derived.Test.YtmefbjdhmlhkjaaP6
namespace Go.Proofs.Ytmefbjdhmlhkjaa
theorem unitFollows_holds : Rows.UnitFollowsSaid := unitFollows.said UnitFollows_pure
#print axioms unitFollows_holds
end Go.Proofs.Ytmefbjdhmlhkjaa
