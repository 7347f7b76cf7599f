/- The law RupTells holds: for every input the call returns true, and each argument reads behind the call as it read before. No conditions. -/
import Derived.Test.YtdojdblncegjcaaLRupTells
import Derived.Test.YtdojdblncegjcaaPR2
namespace Go.Proofs.Ytdojdblncegjcaa
theorem rupTells_holds : Rows.RupTellsSaid := rupTells.said RupTells_pure
#print axioms rupTells_holds
end Go.Proofs.Ytdojdblncegjcaa
