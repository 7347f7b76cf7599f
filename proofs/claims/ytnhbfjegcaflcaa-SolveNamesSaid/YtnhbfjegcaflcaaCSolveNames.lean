/- The law SolveNames holds: for every input the call returns true, and each argument reads behind the call as it read before. No conditions. -/
import Derived.Test.YtnhbfjegcaflcaaLSolveNames
import Derived.Test.YtnhbfjegcaflcaaPS8
namespace Go.Proofs.Ytnhbfjegcaflcaa
theorem solveNames_holds : Rows.SolveNamesSaid := solveNames.said SolveNames_pure
#print axioms solveNames_holds
end Go.Proofs.Ytnhbfjegcaflcaa
