/- An arc is three plain numbers. -/
import Derived.Test.YtafabeehbifgaaaProg
import Derived.Test.YtafabeehbifgaaaOpen
namespace Go.Proofs.Ytafabeehbifgaaa
theorem flat31 : flatB Try.prog 31 [some .i64, some .i64, some .i64] = true := by kernel_rfl
end Go.Proofs.Ytafabeehbifgaaa
