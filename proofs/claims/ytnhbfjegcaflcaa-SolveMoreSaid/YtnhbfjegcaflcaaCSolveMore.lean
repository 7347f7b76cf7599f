/- The law SolveMore holds: for every input the call returns true, and each argument reads behind the call as it read before. No conditions. -/
import Derived.Test.YtnhbfjegcaflcaaLSolveMore
import Derived.Test.YtnhbfjegcaflcaaPS6
namespace Go.Proofs.Ytnhbfjegcaflcaa
theorem solveMore_holds : Rows.SolveMoreSaid := solveMore.said SolveMore_pure
#print axioms solveMore_holds
end Go.Proofs.Ytnhbfjegcaflcaa
