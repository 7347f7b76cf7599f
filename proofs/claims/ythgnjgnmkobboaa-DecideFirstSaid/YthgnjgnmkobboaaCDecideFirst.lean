/- The law DecideFirst holds: for every input the call returns true, and each argument reads behind the call as it read before. No conditions. -/
import Derived.Test.YthgnjgnmkobboaaLDecideFirst
import Derived.Test.YthgnjgnmkobboaaPD4
namespace Go.Proofs.Ythgnjgnmkobboaa
theorem decideFirst_holds : Rows.DecideFirstSaid := decideFirst.said DecideFirst_pure
#print axioms decideFirst_holds
end Go.Proofs.Ythgnjgnmkobboaa
