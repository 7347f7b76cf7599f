/- The law AssignValues holds: for every input the call returns true, and each argument reads behind the call as it read before. No conditions. -/
import Derived.Test.YthgnjgnmkobboaaLAssignValues
import Derived.Test.YthgnjgnmkobboaaPA2
namespace Go.Proofs.Ythgnjgnmkobboaa
theorem assignValues_holds : Rows.AssignValuesSaid := assignValues.said AssignValues_pure
#print axioms assignValues_holds
end Go.Proofs.Ythgnjgnmkobboaa
