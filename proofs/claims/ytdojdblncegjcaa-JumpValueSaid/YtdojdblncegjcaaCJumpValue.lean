/- The law JumpValue holds: for every input the call returns true, and each argument reads behind the call as it read before. No conditions. -/
import Derived.Test.YtdojdblncegjcaaLJumpValue
import Derived.Test.YtdojdblncegjcaaPJ2
namespace Go.Proofs.Ytdojdblncegjcaa
theorem jumpValue_holds : Rows.JumpValueSaid := jumpValue.said JumpValue_pure
#print axioms jumpValue_holds
end Go.Proofs.Ytdojdblncegjcaa
