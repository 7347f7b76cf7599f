/- The law SolveOrder holds: for every input the call returns true, and each argument reads behind the call as it read before. No conditions. -/
import Derived.Test.YtnhbfjegcaflcaaLSolveOrder
import Derived.Test.YtnhbfjegcaflcaaPS5
namespace Go.Proofs.Ytnhbfjegcaflcaa
theorem solveOrder_holds : Rows.SolveOrderSaid := solveOrder.said SolveOrder_pure
#print axioms solveOrder_holds
end Go.Proofs.Ytnhbfjegcaflcaa
