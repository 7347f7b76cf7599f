/- The law SweepGiven holds: for every input the call returns true, and each argument reads behind the call as it read before. No conditions. -/
import Derived.Test.YtjkoadoekaplpaaGreatLSweepGiven
import Derived.Test.YtjkoadoekaplpaaGreatPZ
namespace Go.Proofs.YtjkoadoekaplpaaGreat
theorem sweepGiven_holds : Rows.SweepGivenSaid := sweepGiven.said SweepGiven_pure
#print axioms sweepGiven_holds
end Go.Proofs.YtjkoadoekaplpaaGreat
