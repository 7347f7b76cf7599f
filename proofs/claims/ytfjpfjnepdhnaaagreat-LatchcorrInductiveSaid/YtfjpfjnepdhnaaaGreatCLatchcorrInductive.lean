/- The law LatchcorrInductive holds: for every input the call returns true, and each argument reads behind the call as it read before. No conditions. -/
import Derived.Test.YtfjpfjnepdhnaaaGreatLLatchcorrInductive
import Derived.Test.YtfjpfjnepdhnaaaGreatPZ
namespace Go.Proofs.YtfjpfjnepdhnaaaGreat
theorem latchcorrInductive_holds : Rows.LatchcorrInductiveSaid := latchcorrInductive.said LatchcorrInductive_pure
#print axioms latchcorrInductive_holds
end Go.Proofs.YtfjpfjnepdhnaaaGreat
