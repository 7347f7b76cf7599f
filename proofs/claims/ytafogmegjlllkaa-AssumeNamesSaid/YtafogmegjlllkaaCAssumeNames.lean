/- The law AssumeNames holds: for every input the call returns true, and each argument reads behind the call as it read before. No conditions. -/
import Derived.Test.YtafogmegjlllkaaLAssumeNames
import Derived.Test.YtafogmegjlllkaaPU7
namespace Go.Proofs.Ytafogmegjlllkaa
theorem assumeNames_holds : Rows.AssumeNamesSaid := assumeNames.said AssumeNames_pure
#print axioms assumeNames_holds
end Go.Proofs.Ytafogmegjlllkaa
