/- The law JumpLevels holds: for every input the call returns true, and each argument reads behind the call as it read before. No conditions. -/
import Derived.Test.YtdojdblncegjcaaLJumpLevels
import Derived.Test.YtdojdblncegjcaaPJ2
namespace Go.Proofs.Ytdojdblncegjcaa
theorem jumpLevels_holds : Rows.JumpLevelsSaid := jumpLevels.said JumpLevels_pure
#print axioms jumpLevels_holds
end Go.Proofs.Ytdojdblncegjcaa
