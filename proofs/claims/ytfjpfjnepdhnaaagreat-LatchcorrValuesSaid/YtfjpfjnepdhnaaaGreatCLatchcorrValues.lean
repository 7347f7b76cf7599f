/- The law LatchcorrValues holds: for every input the call returns true, and each argument reads behind the call as it read before. No conditions. -/
import Derived.Test.YtfjpfjnepdhnaaaGreatLLatchcorrValues
import Derived.Test.YtfjpfjnepdhnaaaGreatPZ
namespace Go.Proofs.YtfjpfjnepdhnaaaGreat
theorem latchcorrValues_holds : Rows.LatchcorrValuesSaid := latchcorrValues.said LatchcorrValues_pure
#print axioms latchcorrValues_holds
end Go.Proofs.YtfjpfjnepdhnaaaGreat
