/- Contracts of the helpers on slices of integers: copy, compare, mark, held. -/
import Derived.Test.YtkpjlkahebeljaaBase
import Derived.Test.YtkpjlkahebeljaaMem
namespace Go.Proofs.Ytkpjlkahebeljaa
open Go.RowKit
set_option linter.unusedVariables false

theorem infoInt : (Try.prog.info? 3).map (fun i => (i.zero, i.size, i.bytes)) = some (some (.int .i64 0), 1, 8) := by kernel_rfl

end Go.Proofs.Ytkpjlkahebeljaa
