/- The law SweepValues holds: for every input the call returns true, and each argument reads behind the call as it read before. No conditions. -/
import Derived.Test.YtjkoadoekaplpaaGreatLSweepValues
import Derived.Test.YtjkoadoekaplpaaGreatPZ
namespace Go.Proofs.YtjkoadoekaplpaaGreat
theorem sweepValues_holds : Rows.SweepValuesSaid := sweepValues.said SweepValues_pure
#print axioms sweepValues_holds
end Go.Proofs.YtjkoadoekaplpaaGreat
