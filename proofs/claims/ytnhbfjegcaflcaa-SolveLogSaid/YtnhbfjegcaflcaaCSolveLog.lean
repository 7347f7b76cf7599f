/- The law SolveLog holds: for every input the call returns true, and each argument reads behind the call as it read before. No conditions. -/
import Derived.Test.YtnhbfjegcaflcaaLSolveLog
import Derived.Test.YtnhbfjegcaflcaaPS6
namespace Go.Proofs.Ytnhbfjegcaflcaa
theorem solveLog_holds : Rows.SolveLogSaid := solveLog.said SolveLog_pure
#print axioms solveLog_holds
end Go.Proofs.Ytnhbfjegcaflcaa
