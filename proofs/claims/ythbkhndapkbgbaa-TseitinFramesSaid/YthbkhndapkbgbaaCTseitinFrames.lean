/- The law TseitinFrames holds: for every input the call returns true, and each argument reads behind the call as it read before. No conditions. -/
import Derived.Test.YthbkhndapkbgbaaLTseitinFrames
import Derived.Test.YthbkhndapkbgbaaPC7
namespace Go.Proofs.Ythbkhndapkbgbaa
theorem tseitinFrames_holds : Rows.TseitinFramesSaid := tseitinFrames.said TseitinFrames_pure
#print axioms tseitinFrames_holds
end Go.Proofs.Ythbkhndapkbgbaa
