/- The law DecideBack holds: for every input the call returns true, and each argument reads behind the call as it read before. No conditions. -/
import Derived.Test.YthgnjgnmkobboaaLDecideBack
import Derived.Test.YthgnjgnmkobboaaPD5
namespace Go.Proofs.Ythgnjgnmkobboaa
theorem decideBack_holds : Rows.DecideBackSaid := decideBack.said DecideBack_pure
#print axioms decideBack_holds
end Go.Proofs.Ythgnjgnmkobboaa
