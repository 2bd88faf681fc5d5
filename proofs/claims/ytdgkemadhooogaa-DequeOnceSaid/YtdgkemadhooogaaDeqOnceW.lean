/- DequeOnce: the walk, as the claim asks. -/
import Derived.Test.YtdgkemadhooogaaDeqOnce
namespace Go.Proofs.Ytdgkemadhooogaa
set_option linter.unusedVariables false
open Go.RowKit

theorem dequeOnce_walk (a0 : Int) (a : Option Addr) (cap : Nat) (els : List (List Value)) (w : World) (w0 : (Lit.int .u8 a0).wf = true) (h : FlatRow [some .u8, some .u8, some .i64] w a cap els) (_hf : ∀ x ∈ els, fits [some .u8, some .u8, some .i64] x) :
    Calls Try.prog 3 #[.int .u8 a0, .slice a els.length cap] w fun e w' => e = .returned (.bool true) ∧ Kept w w' :=
  dequeOnce_core a0 a cap els w (bounds_u8 w0).1 (bounds_u8 w0).2 h.le h.most h.cells h.fit
end Go.Proofs.Ytdgkemadhooogaa
