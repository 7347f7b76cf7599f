/- The law AssumeLeast holds: for every input the call returns true, and each argument reads behind the call as it read before. No conditions. -/
import Derived.Test.YtafogmegjlllkaaGreatLAssumeLeast
import Derived.Test.YtafogmegjlllkaaGreatPU4
namespace Go.Proofs.YtafogmegjlllkaaGreat
theorem assumeLeast_holds : Rows.AssumeLeastSaid := assumeLeast.said AssumeLeast_pure
#print axioms assumeLeast_holds
end Go.Proofs.YtafogmegjlllkaaGreat
