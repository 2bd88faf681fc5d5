/- An arc is three plain numbers. -/
import Derived.Test.YtdcbofgkfekkoaaProg
import Derived.Test.YtdcbofgkfekkoaaOpen
namespace Go.Proofs.Ytdcbofgkfekkoaa
theorem flat86 : flatB Try.prog 86 [some .i64, some .i64, some .i64] = true := by kernel_rfl
end Go.Proofs.Ytdcbofgkfekkoaa
