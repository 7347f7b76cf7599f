/- The law TseitinModels holds: for every input the call returns true, and each argument reads behind the call as it read before. No conditions. -/
import Derived.Test.YthbkhndapkbgbaaGreatLTseitinModels
import Derived.Test.YthbkhndapkbgbaaGreatPC8
namespace Go.Proofs.YthbkhndapkbgbaaGreat
theorem tseitinModels_holds : Rows.TseitinModelsSaid := tseitinModels.said TseitinModels_pure
#print axioms tseitinModels_holds
end Go.Proofs.YthbkhndapkbgbaaGreat
