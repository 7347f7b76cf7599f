/- The law TseitinOrder holds: for every input the call returns true, and each argument reads behind the call as it read before. No conditions. -/
import Derived.Test.YthbkhndapkbgbaaLTseitinOrder
import Derived.Test.YthbkhndapkbgbaaPC5
namespace Go.Proofs.Ythbkhndapkbgbaa
theorem tseitinOrder_holds : Rows.TseitinOrderSaid := tseitinOrder.said TseitinOrder_pure
#print axioms tseitinOrder_holds
end Go.Proofs.Ythbkhndapkbgbaa
