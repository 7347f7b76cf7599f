/- The law JumpTells holds: for every input the call returns true, and each argument reads behind the call as it read before. No conditions. -/
import Derived.Test.YtdojdblncegjcaaLJumpTells
import Derived.Test.YtdojdblncegjcaaPJ2
namespace Go.Proofs.Ytdojdblncegjcaa
theorem jumpTells_holds : Rows.JumpTellsSaid := jumpTells.said JumpTells_pure
#print axioms jumpTells_holds
end Go.Proofs.Ytdojdblncegjcaa
