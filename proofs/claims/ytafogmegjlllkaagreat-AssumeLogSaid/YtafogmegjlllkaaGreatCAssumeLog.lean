/- The law AssumeLog holds: for every input the call returns true, and each argument reads behind the call as it read before. No conditions. -/
import Derived.Test.YtafogmegjlllkaaGreatLAssumeLog
import Derived.Test.YtafogmegjlllkaaGreatPU5
namespace Go.Proofs.YtafogmegjlllkaaGreat
theorem assumeLog_holds : Rows.AssumeLogSaid := assumeLog.said AssumeLog_pure
#print axioms assumeLog_holds
end Go.Proofs.YtafogmegjlllkaaGreat
