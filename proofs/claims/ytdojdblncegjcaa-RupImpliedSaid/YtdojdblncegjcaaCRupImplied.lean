/- The law RupImplied holds: for every input the call returns true, and each argument reads behind the call as it read before. No conditions. -/
import Derived.Test.YtdojdblncegjcaaLRupImplied
import Derived.Test.YtdojdblncegjcaaPR4
namespace Go.Proofs.Ytdojdblncegjcaa
theorem rupImplied_holds : Rows.RupImpliedSaid := rupImplied.said RupImplied_pure
#print axioms rupImplied_holds
end Go.Proofs.Ytdojdblncegjcaa
