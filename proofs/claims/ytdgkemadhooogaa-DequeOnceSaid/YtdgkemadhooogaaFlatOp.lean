/- A step of the deque's laws is three plain numbers. -/
import Derived.Test.YtdgkemadhooogaaProg
import Derived.Test.YtdgkemadhooogaaOpen
namespace Go.Proofs.Ytdgkemadhooogaa
theorem flat34 : flatB Try.prog 34 [some .u8, some .u8, some .i64] = true := by kernel_rfl
end Go.Proofs.Ytdgkemadhooogaa
