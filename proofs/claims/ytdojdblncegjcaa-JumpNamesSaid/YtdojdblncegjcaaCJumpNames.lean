/- The law JumpNames holds: for every input the call returns true, and each argument reads behind the call as it read before. No conditions. -/
import Derived.Test.YtdojdblncegjcaaLJumpNames
import Derived.Test.YtdojdblncegjcaaPJ2
namespace Go.Proofs.Ytdojdblncegjcaa
theorem jumpNames_holds : Rows.JumpNamesSaid := jumpNames.said JumpNames_pure
#print axioms jumpNames_holds
end Go.Proofs.Ytdojdblncegjcaa
