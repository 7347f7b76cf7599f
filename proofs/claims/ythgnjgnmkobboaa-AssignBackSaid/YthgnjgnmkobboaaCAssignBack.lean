/- The law AssignBack holds: for every input the call returns true, and each argument reads behind the call as it read before. No conditions. -/
import Derived.Test.YthgnjgnmkobboaaLAssignBack
import Derived.Test.YthgnjgnmkobboaaPA3
namespace Go.Proofs.Ythgnjgnmkobboaa
theorem assignBack_holds : Rows.AssignBackSaid := assignBack.said AssignBack_pure
#print axioms assignBack_holds
end Go.Proofs.Ythgnjgnmkobboaa
