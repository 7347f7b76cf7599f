/- The law DecideNext holds: for every input the call returns true, and each argument reads behind the call as it read before. No conditions. -/
import Derived.Test.YthgnjgnmkobboaaLDecideNext
import Derived.Test.YthgnjgnmkobboaaPD5
namespace Go.Proofs.Ythgnjgnmkobboaa
theorem decideNext_holds : Rows.DecideNextSaid := decideNext.said DecideNext_pure
#print axioms decideNext_holds
end Go.Proofs.Ythgnjgnmkobboaa
