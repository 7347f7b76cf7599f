/- The law SolveLeast holds: for every input the call returns true, and each argument reads behind the call as it read before. No conditions. -/
import Derived.Test.YtnhbfjegcaflcaaLSolveLeast
import Derived.Test.YtnhbfjegcaflcaaPS7
namespace Go.Proofs.Ytnhbfjegcaflcaa
theorem solveLeast_holds : Rows.SolveLeastSaid := solveLeast.said SolveLeast_pure
#print axioms solveLeast_holds
end Go.Proofs.Ytnhbfjegcaflcaa
