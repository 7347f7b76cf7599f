/- The law AssignTells holds: for every input the call returns true, and each argument reads behind the call as it read before. No conditions. -/
import Derived.Test.YthgnjgnmkobboaaLAssignTells
import Derived.Test.YthgnjgnmkobboaaPA2
namespace Go.Proofs.Ythgnjgnmkobboaa
theorem assignTells_holds : Rows.AssignTellsSaid := assignTells.said AssignTells_pure
#print axioms assignTells_holds
end Go.Proofs.Ythgnjgnmkobboaa
