/- The law RupAnswers holds: for every input the call returns true, and each argument reads behind the call as it read before. No conditions. -/
import Derived.Test.YthbkhndapkbgbaaGreatLRupAnswers
import Derived.Test.YthbkhndapkbgbaaGreatPW1
namespace Go.Proofs.YthbkhndapkbgbaaGreat
theorem rupAnswers_holds : Rows.RupAnswersSaid := rupAnswers.said RupAnswers_pure
#print axioms rupAnswers_holds
end Go.Proofs.YthbkhndapkbgbaaGreat
