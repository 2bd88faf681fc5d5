/- DequeDone: the walk, as the claim asks. -/
import Derived.Test.YtdgkemadhooogaaDeqDone
import Derived.Test.YtdgkemadhooogaaOpen
namespace Go.Proofs.Ytdgkemadhooogaa
set_option linter.unusedVariables false
open Go.RowKit

theorem dequeDone_walk (a0 a1 a2 a3 a4 : Int) (w : World) (w0 : (Lit.int .u8 a0).wf = true) (w1 : (Lit.int .u8 a1).wf = true) (w2 : (Lit.int .u8 a2).wf = true) (w3 : (Lit.int .u8 a3).wf = true) (w4 : (Lit.int .i64 a4).wf = true) :
    Calls Try.prog 6 #[.int .u8 a0, .int .u8 a1, .int .u8 a2, .int .u8 a3, .int .i64 a4] w fun e w' => e = .returned (.bool true) ∧ Kept w w' :=
  dequeDone_core a0 a1 a2 a3 a4 w (bounds_u8 w0).1 (bounds_u8 w0).2 (bounds_u8 w1).1 (bounds_u8 w1).2 (bounds_u8 w2).1 (bounds_u8 w2).2 (bounds_u8 w3).1 (bounds_u8 w3).2
end Go.Proofs.Ytdgkemadhooogaa
