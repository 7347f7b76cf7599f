/- The law RupTrue holds: for every input the call returns true, and each argument reads behind the call as it read before. No conditions. -/
import Derived.Test.YtdojdblncegjcaaLRupTrue
import Derived.Test.YtdojdblncegjcaaPR2
namespace Go.Proofs.Ytdojdblncegjcaa
theorem rupTrue_holds : Rows.RupTrueSaid := rupTrue.said RupTrue_pure
#print axioms rupTrue_holds
end Go.Proofs.Ytdojdblncegjcaa
