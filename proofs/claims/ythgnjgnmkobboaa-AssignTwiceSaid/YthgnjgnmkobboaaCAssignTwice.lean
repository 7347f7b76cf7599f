/- The law AssignTwice holds: for every input the call returns true, and each argument reads behind the call as it read before. No conditions. -/
import Derived.Test.YthgnjgnmkobboaaLAssignTwice
import Derived.Test.YthgnjgnmkobboaaPA2
namespace Go.Proofs.Ythgnjgnmkobboaa
theorem assignTwice_holds : Rows.AssignTwiceSaid := assignTwice.said AssignTwice_pure
#print axioms assignTwice_holds
end Go.Proofs.Ythgnjgnmkobboaa
