/- The law LatchcorrOne holds: for every input the call returns true, and each argument reads behind the call as it read before. No conditions. -/
import Derived.Test.YtfjpfjnepdhnaaaGreatLLatchcorrOne
import Derived.Test.YtfjpfjnepdhnaaaGreatPY
namespace Go.Proofs.YtfjpfjnepdhnaaaGreat
theorem latchcorrOne_holds : Rows.LatchcorrOneSaid := latchcorrOne.said LatchcorrOne_pure
#print axioms latchcorrOne_holds
end Go.Proofs.YtfjpfjnepdhnaaaGreat
