/- The law TopSearch holds: for every input the call returns true, and each argument reads behind the call as it read before. No conditions. -/
import Derived.Test.YtdgpajocialfnaaLTopSearch
import Derived.Test.YtdgpajocialfnaaPT2
namespace Go.Proofs.Ytdgpajocialfnaa
theorem topSearch_holds : Rows.TopSearchSaid := topSearch.said TopSearch_pure
#print axioms topSearch_holds
end Go.Proofs.Ytdgpajocialfnaa
