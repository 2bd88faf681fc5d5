/- DequeTells: the walk, as the claim asks. -/
import Derived.Test.YtdgkemadhooogaaDeqTells
namespace Go.Proofs.Ytdgkemadhooogaa
set_option linter.unusedVariables false
open Go.RowKit

theorem dequeTells_walk (a0 a1 a2 : Int) (a : Option Addr) (cap : Nat) (els : List (List Value)) (w : World) (w0 : (Lit.int .u8 a0).wf = true) (w1 : (Lit.int .u8 a1).wf = true) (w2 : (Lit.int .u8 a2).wf = true) (h : FlatRow [some .u8, some .u8, some .i64] w a cap els) (_hf : ∀ x ∈ els, fits [some .u8, some .u8, some .i64] x) :
    Calls Try.prog 7 #[.int .u8 a0, .int .u8 a1, .int .u8 a2, .slice a els.length cap] w fun e w' => e = .returned (.bool true) ∧ Kept w w' :=
  dequeTells_core a0 a1 a2 a cap els w (bounds_u8 w0).1 (bounds_u8 w0).2 (bounds_u8 w1).1 (bounds_u8 w1).2 (bounds_u8 w2).1 (bounds_u8 w2).2 h.le h.most h.cells h.fit
end Go.Proofs.Ytdgkemadhooogaa
