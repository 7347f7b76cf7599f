/- The law TseitinNames holds: for every input the call returns true, and each argument reads behind the call as it read before. No conditions. -/
import Derived.Test.YthbkhndapkbgbaaLTseitinNames
import Derived.Test.YthbkhndapkbgbaaPC5
namespace Go.Proofs.Ythbkhndapkbgbaa
theorem tseitinNames_holds : Rows.TseitinNamesSaid := tseitinNames.said TseitinNames_pure
#print axioms tseitinNames_holds
end Go.Proofs.Ythbkhndapkbgbaa
