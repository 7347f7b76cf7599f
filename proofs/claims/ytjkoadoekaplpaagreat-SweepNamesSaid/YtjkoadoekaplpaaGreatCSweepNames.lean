/- The law SweepNames holds: for every input the call returns true, and each argument reads behind the call as it read before. No conditions. -/
import Derived.Test.YtjkoadoekaplpaaGreatLSweepNames
import Derived.Test.YtjkoadoekaplpaaGreatPZ
namespace Go.Proofs.YtjkoadoekaplpaaGreat
theorem sweepNames_holds : Rows.SweepNamesSaid := sweepNames.said SweepNames_pure
#print axioms sweepNames_holds
end Go.Proofs.YtjkoadoekaplpaaGreat
