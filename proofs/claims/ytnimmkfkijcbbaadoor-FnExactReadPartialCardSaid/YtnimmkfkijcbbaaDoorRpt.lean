/- ReadPartial of both. Conditions: none. -/
import Derived.Test.YtnimmkfkijcbbaaDoorRps
import Derived.Test.YtnimmkfkijcbbaaDoorRpi
namespace Go.Proofs.YtnimmkfkijcbbaaDoor
end Go.Proofs.YtnimmkfkijcbbaaDoor
