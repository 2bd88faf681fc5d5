/- An arc is three plain numbers. -/
import Derived.Test.YtoapekkmaajfmaaProg
import Derived.Test.YtoapekkmaajfmaaOpen
namespace Go.Proofs.Ytoapekkmaajfmaa
theorem flat57 : flatB Try.prog 57 [some .i64, some .i64, some .i64] = true := by kernel_rfl
end Go.Proofs.Ytoapekkmaajfmaa
