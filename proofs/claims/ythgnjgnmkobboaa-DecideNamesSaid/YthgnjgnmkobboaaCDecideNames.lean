/- The law DecideNames holds: for every input the call returns true, and each argument reads behind the call as it read before. No conditions. -/
import Derived.Test.YthgnjgnmkobboaaLDecideNames
import Derived.Test.YthgnjgnmkobboaaPD4
namespace Go.Proofs.Ythgnjgnmkobboaa
theorem decideNames_holds : Rows.DecideNamesSaid := decideNames.said DecideNames_pure
#print axioms decideNames_holds
end Go.Proofs.Ythgnjgnmkobboaa
