/- The law AssignLevels holds: for every input the call returns true, and each argument reads behind the call as it read before. No conditions. -/
import Derived.Test.YthgnjgnmkobboaaLAssignLevels
import Derived.Test.YthgnjgnmkobboaaPA3
namespace Go.Proofs.Ythgnjgnmkobboaa
theorem assignLevels_holds : Rows.AssignLevelsSaid := assignLevels.said AssignLevels_pure
#print axioms assignLevels_holds
end Go.Proofs.Ythgnjgnmkobboaa
