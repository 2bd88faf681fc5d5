/- DequeLast: the walk, as the claim asks. -/
import Derived.Test.YtdgkemadhooogaaDeqLast
import Derived.Test.YtdgkemadhooogaaRowsRd
namespace Go.Proofs.Ytdgkemadhooogaa
set_option linter.unusedVariables false
open Go.RowKit

theorem dequeLast_walk (a0 a1 a2 : Int) (s3 : Option Addr) (cap3 : Nat) (z3 : List Int) (w : World) (w0 : (Lit.int .u8 a0).wf = true) (w1 : (Lit.int .u8 a1).wf = true) (w2 : (Lit.int .u8 a2).wf = true) (h3 : IntRow .u8 w s3 cap3 z3) (m3 : ∀ n ∈ z3, (Lit.int .u8 n).wf = true) :
    Calls Try.prog 5 #[.int .u8 a0, .int .u8 a1, .int .u8 a2, .slice s3 z3.length cap3] w fun e w' => e = .returned (.bool true) ∧ Kept w w' :=
  dequeLast_core a0 a1 a2 s3 cap3 z3 w (bounds_u8 w0).1 (bounds_u8 w0).2 (bounds_u8 w1).1 (bounds_u8 w1).2 (bounds_u8 w2).1 (bounds_u8 w2).2 h3.rd (fun x hx => bounds_u8 (m3 x hx)) h3.le h3.most
end Go.Proofs.Ytdgkemadhooogaa
