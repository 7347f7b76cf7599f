/- The law TseitinSmall holds: for every input the call returns true, and each argument reads behind the call as it read before. No conditions. -/
import Derived.Test.YtcgbilghglbgaaaLTseitinSmall
import Derived.Test.YtcgbilghglbgaaaPC10
namespace Go.Proofs.Ytcgbilghglbgaaa
theorem tseitinSmall_holds : Rows.TseitinSmallSaid := tseitinSmall.said TseitinSmall_pure
#print axioms tseitinSmall_holds
end Go.Proofs.Ytcgbilghglbgaaa
