/- The law RupNames holds: for every input the call returns true, and each argument reads behind the call as it read before. No conditions. -/
import Derived.Test.YtdojdblncegjcaaLRupNames
import Derived.Test.YtdojdblncegjcaaPR2
namespace Go.Proofs.Ytdojdblncegjcaa
theorem rupNames_holds : Rows.RupNamesSaid := rupNames.said RupNames_pure
#print axioms rupNames_holds
end Go.Proofs.Ytdojdblncegjcaa
