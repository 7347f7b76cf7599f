/- The law DecideMixed holds: for every input the call returns true, and each argument reads behind the call as it read before. No conditions. -/
import Derived.Test.YthgnjgnmkobboaaLDecideMixed
import Derived.Test.YthgnjgnmkobboaaPD5
namespace Go.Proofs.Ythgnjgnmkobboaa
theorem decideMixed_holds : Rows.DecideMixedSaid := decideMixed.said DecideMixed_pure
#print axioms decideMixed_holds
end Go.Proofs.Ythgnjgnmkobboaa
