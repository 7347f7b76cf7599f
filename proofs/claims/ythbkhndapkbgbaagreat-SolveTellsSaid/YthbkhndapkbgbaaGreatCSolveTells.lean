/- The law SolveTells holds: for every input the call returns true, and each argument reads behind the call as it read before. No conditions. -/
import Derived.Test.YthbkhndapkbgbaaGreatLSolveTells
import Derived.Test.YthbkhndapkbgbaaGreatPV2
namespace Go.Proofs.YthbkhndapkbgbaaGreat
theorem solveTells_holds : Rows.SolveTellsSaid := solveTells.said SolveTells_pure
#print axioms solveTells_holds
end Go.Proofs.YthbkhndapkbgbaaGreat
