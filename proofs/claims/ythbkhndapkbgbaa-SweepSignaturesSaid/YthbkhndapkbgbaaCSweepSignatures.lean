/- The law SweepSignatures holds: for every input the call returns true, and each argument reads behind the call as it read before. No conditions. -/
import Derived.Test.YthbkhndapkbgbaaLSweepSignatures
import Derived.Test.YthbkhndapkbgbaaPC2
namespace Go.Proofs.Ythbkhndapkbgbaa
theorem sweepSignatures_holds : Rows.SweepSignaturesSaid := sweepSignatures.said SweepSignatures_pure
#print axioms sweepSignatures_holds
end Go.Proofs.Ythbkhndapkbgbaa
