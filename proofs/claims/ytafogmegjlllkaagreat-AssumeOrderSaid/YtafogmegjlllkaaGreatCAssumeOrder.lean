/- The law AssumeOrder holds: for every input the call returns true, and each argument reads behind the call as it read before. No conditions. -/
import Derived.Test.YtafogmegjlllkaaGreatLAssumeOrder
import Derived.Test.YtafogmegjlllkaaGreatPU6
namespace Go.Proofs.YtafogmegjlllkaaGreat
theorem assumeOrder_holds : Rows.AssumeOrderSaid := assumeOrder.said AssumeOrder_pure
#print axioms assumeOrder_holds
end Go.Proofs.YtafogmegjlllkaaGreat
