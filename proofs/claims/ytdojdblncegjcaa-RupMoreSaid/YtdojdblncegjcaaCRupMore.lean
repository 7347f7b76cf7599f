/- The law RupMore holds: for every input the call returns true, and each argument reads behind the call as it read before. No conditions. -/
import Derived.Test.YtdojdblncegjcaaLRupMore
import Derived.Test.YtdojdblncegjcaaPR3
namespace Go.Proofs.Ytdojdblncegjcaa
theorem rupMore_holds : Rows.RupMoreSaid := rupMore.said RupMore_pure
#print axioms rupMore_holds
end Go.Proofs.Ytdojdblncegjcaa
