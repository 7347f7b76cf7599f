/- The law SweepAll holds: for every input the call returns true, and each argument reads behind the call as it read before. No conditions. -/
import Derived.Test.YtjkoadoekaplpaaGreatLSweepAll
import Derived.Test.YtjkoadoekaplpaaGreatPX6
namespace Go.Proofs.YtjkoadoekaplpaaGreat
theorem sweepAll_holds : Rows.SweepAllSaid := sweepAll.said SweepAll_pure
#print axioms sweepAll_holds
end Go.Proofs.YtjkoadoekaplpaaGreat
