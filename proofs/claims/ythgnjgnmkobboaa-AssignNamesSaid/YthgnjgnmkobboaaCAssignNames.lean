/- The law AssignNames holds: for every input the call returns true, and each argument reads behind the call as it read before. No conditions. -/
import Derived.Test.YthgnjgnmkobboaaLAssignNames
import Derived.Test.YthgnjgnmkobboaaPA4
namespace Go.Proofs.Ythgnjgnmkobboaa
theorem assignNames_holds : Rows.AssignNamesSaid := assignNames.said AssignNames_pure
#print axioms assignNames_holds
end Go.Proofs.Ythgnjgnmkobboaa
