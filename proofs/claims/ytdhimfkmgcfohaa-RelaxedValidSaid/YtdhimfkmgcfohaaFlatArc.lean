/- An arc is three plain numbers. -/
import Derived.Test.YtdhimfkmgcfohaaProg
import Derived.Test.YtdhimfkmgcfohaaOpen
namespace Go.Proofs.Ytdhimfkmgcfohaa
theorem flat68 : flatB Try.prog 68 [some .i64, some .i64, some .i64] = true := by kernel_rfl
end Go.Proofs.Ytdhimfkmgcfohaa
