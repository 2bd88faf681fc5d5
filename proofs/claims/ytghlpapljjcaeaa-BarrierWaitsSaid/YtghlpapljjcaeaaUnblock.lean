/- The last statement of a block, as one that is followed: so that a cut may be laid round it. No program in sight. -/
import Derived.Test.YtghlpapljjcaeaaBase
import Derived.Deep.CutRange
namespace Go.Proofs.Ytghlpapljjcaeaa
set_option linter.unusedVariables false
open Go.RowKit

theorem wp_unblock {P : Program} {s : Code} {id : Nat} {K : Act → World → Prop} {Q' : Exit → Act → World → Prop} {a : Act} {w : World} (h : s.wp P (Exit.then K (Exit.inBlock id (Exit.then K Q'))) a w) : s.wp P (Exit.inBlock id (Exit.then K Q')) a w := by
  refine wp_mono h ?_
  intro e a' w' hq
  cases e with
  | normal => exact hq
  | exit id => exact hq
  | goto l => exact hq
  | ret => exact hq
  | panic ch => exact hq
  | outgrown => exact hq
end Go.Proofs.Ytghlpapljjcaeaa
