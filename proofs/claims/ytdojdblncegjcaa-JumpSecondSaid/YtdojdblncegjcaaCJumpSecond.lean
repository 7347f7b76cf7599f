/- The law JumpSecond holds: for every input the call returns true, and each argument reads behind the call as it read before. No conditions. -/
import Derived.Test.YtdojdblncegjcaaLJumpSecond
import Derived.Test.YtdojdblncegjcaaPJ2
namespace Go.Proofs.Ytdojdblncegjcaa
theorem jumpSecond_holds : Rows.JumpSecondSaid := jumpSecond.said JumpSecond_pure
#print axioms jumpSecond_holds
end Go.Proofs.Ytdojdblncegjcaa
