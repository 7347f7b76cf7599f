/- The law AssumeCore holds: for every input the call returns true, and each argument reads behind the call as it read before. No conditions. -/
import Derived.Test.YtafogmegjlllkaaGreatLAssumeCore
import Derived.Test.YtafogmegjlllkaaGreatPU5
namespace Go.Proofs.YtafogmegjlllkaaGreat
theorem assumeCore_holds : Rows.AssumeCoreSaid := assumeCore.said AssumeCore_pure
#print axioms assumeCore_holds
end Go.Proofs.YtafogmegjlllkaaGreat
