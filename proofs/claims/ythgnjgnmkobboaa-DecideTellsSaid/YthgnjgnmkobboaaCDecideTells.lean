/- The law DecideTells holds: for every input the call returns true, and each argument reads behind the call as it read before. No conditions. -/
import Derived.Test.YthgnjgnmkobboaaLDecideTells
import Derived.Test.YthgnjgnmkobboaaPD4
namespace Go.Proofs.Ythgnjgnmkobboaa
theorem decideTells_holds : Rows.DecideTellsSaid := decideTells.said DecideTells_pure
#print axioms decideTells_holds
end Go.Proofs.Ythgnjgnmkobboaa
