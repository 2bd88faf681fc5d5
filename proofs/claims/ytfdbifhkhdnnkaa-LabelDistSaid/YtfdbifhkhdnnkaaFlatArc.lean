/- An arc is three plain numbers. -/
import Derived.Test.YtfdbifhkhdnnkaaProg
import Derived.Test.YtfdbifhkhdnnkaaOpen
namespace Go.Proofs.Ytfdbifhkhdnnkaa
theorem flat59 : flatB Try.prog 59 [some .i64, some .i64, some .i64] = true := by kernel_rfl
end Go.Proofs.Ytfdbifhkhdnnkaa
