/- The law SolveBudget holds: for every input the call returns true, and each argument reads behind the call as it read before. No conditions. -/
import Derived.Test.YtnhbfjegcaflcaaLSolveBudget
import Derived.Test.YtnhbfjegcaflcaaPS5
namespace Go.Proofs.Ytnhbfjegcaflcaa
theorem solveBudget_holds : Rows.SolveBudgetSaid := solveBudget.said SolveBudget_pure
#print axioms solveBudget_holds
end Go.Proofs.Ytnhbfjegcaflcaa
