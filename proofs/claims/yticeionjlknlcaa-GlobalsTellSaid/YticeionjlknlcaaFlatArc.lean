/- An arc is three plain numbers. -/
import Derived.Test.YticeionjlknlcaaProg
import Derived.Test.YticeionjlknlcaaOpen
namespace Go.Proofs.Yticeionjlknlcaa
theorem flat67 : flatB Try.prog 67 [some .i64, some .i64, some .i64] = true := by kernel_rfl
end Go.Proofs.Yticeionjlknlcaa
