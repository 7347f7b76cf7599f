/- The law AssumeNone holds: for every input the call returns true, and each argument reads behind the call as it read before. No conditions. -/
import Derived.Test.YtafogmegjlllkaaGreatLAssumeNone
import Derived.Test.YtafogmegjlllkaaGreatPU4
namespace Go.Proofs.YtafogmegjlllkaaGreat
theorem assumeNone_holds : Rows.AssumeNoneSaid := assumeNone.said AssumeNone_pure
#print axioms assumeNone_holds
end Go.Proofs.YtafogmegjlllkaaGreat
