/- The law LatchcorrNames holds: for every input the call returns true, and each argument reads behind the call as it read before. No conditions. -/
import Derived.Test.YtfjpfjnepdhnaaaGreatLLatchcorrNames
import Derived.Test.YtfjpfjnepdhnaaaGreatPZ
namespace Go.Proofs.YtfjpfjnepdhnaaaGreat
theorem latchcorrNames_holds : Rows.LatchcorrNamesSaid := latchcorrNames.said LatchcorrNames_pure
#print axioms latchcorrNames_holds
end Go.Proofs.YtfjpfjnepdhnaaaGreat
