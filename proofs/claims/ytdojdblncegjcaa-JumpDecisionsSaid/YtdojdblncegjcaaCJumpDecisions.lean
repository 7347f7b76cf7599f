/- The law JumpDecisions holds: for every input the call returns true, and each argument reads behind the call as it read before. No conditions. -/
import Derived.Test.YtdojdblncegjcaaLJumpDecisions
import Derived.Test.YtdojdblncegjcaaPJ3
namespace Go.Proofs.Ytdojdblncegjcaa
theorem jumpDecisions_holds : Rows.JumpDecisionsSaid := jumpDecisions.said JumpDecisions_pure
#print axioms jumpDecisions_holds
end Go.Proofs.Ytdojdblncegjcaa
