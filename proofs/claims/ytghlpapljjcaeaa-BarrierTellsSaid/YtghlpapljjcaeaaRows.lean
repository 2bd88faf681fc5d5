/-
  No cell of these rows narrows 'for every input' (looked for: loops, veiled, ifaces, maps, wideKeys, modest, calm, conditions, laid).
  DERIVED. THE GIVEN ROWS OF THIS SEAT. 4 by the template 'for every input the law returns true; each argument reads behind the call as it read before'; 0 by the template 'total and deterministic' (their statements: YtghlpapljjcaeaaTotals.lean).
  GIVEN WITH THE SEED: the statements are not yours to turn. If you find one false, say at which input.
  Laid BY PROGRAM, IN A SANDBOX (cutbox-rows.mjs): the forced cells as the released guide's own fill.sh prints them over the translation 375bcf9816f2e12f… (all of the seat's roots in one cut). By AI agents, Wed Nov 11 2026. No macro, syntax, notation, axiom, sorry.
-/
import Derived.Test.YtghlpapljjcaeaaChecked
import GoSem.Claim
import GoSem.ClaimJoined
import GoSem.ClaimMapViews
import Derived.JoinedTies
import Derived.KernelRfl
namespace Go.Proofs.Ytghlpapljjcaeaa
/- THE CELL 'sum', in the pinned program and in every row, IS THE sha256 OF THE DUMP (.gsa) THAT YtghlpapljjcaeaaProg.lean LOADS. Nothing in Lean hashes anything: it is a label: what it is worth is what the hold of that sum in a sandbox is worth. -/
noncomputable def Try.pinned : Pinned := { name := "ytghlpapljjcaeaa", sum := "375bcf9816f2e12fb6f01929d98dfad50b3e014ef8988eb2b616dba18b44cb3e", checked := Try.checked }
namespace Rows
def none {H : Type} : Left H := { results := [], args := [] }

/-- 'acequialaw14.BarrierAll': WHATEVER THE INPUT: true; the input reads as it did. -/
def barrierAllSpec : ChangeSpec := { name := "barrierAll", fn := fun _ => fun
  | [d1, d2] => { results := [.lit (.bool true)], args := [d1, d2] }
  | _ => none }
def barrierAllRow : OpenClaim := { program := "ytghlpapljjcaeaa", sum := "375bcf9816f2e12fb6f01929d98dfad50b3e014ef8988eb2b616dba18b44cb3e", func := "acequia/acequialaw14.BarrierAll", spec := "barrierAll", inPlace := ["sync/atomic.StoreInt64", "sync/atomic.LoadInt64", "sync/atomic.AddInt64"], unfollowed := true, recurses := true, apart := false }
def BarrierAllSaid : Prop := barrierAllRow.holds Try.pinned (OpenSpec.ofChange barrierAllSpec)

/-- ITS FALSE NEIGHBOUR: 'it returns false'. Refute it at one input. -/
def barrierAllWrong : ChangeSpec := { name := "barrierAll", fn := fun _ => fun
  | [d1, d2] => { results := [.lit (.bool false)], args := [d1, d2] }
  | _ => none }
def BarrierAllWrongFalsely : Prop := barrierAllRow.holds Try.pinned (OpenSpec.ofChange barrierAllWrong)

/-- 'acequialaw14.BarrierWaits': WHATEVER THE INPUT: true; the input reads as it did. -/
def barrierWaitsSpec : ChangeSpec := { name := "barrierWaits", fn := fun _ => fun
  | [d1, d2, d3, d4] => { results := [.lit (.bool true)], args := [d1, d2, d3, d4] }
  | _ => none }
def barrierWaitsRow : OpenClaim := { program := "ytghlpapljjcaeaa", sum := "375bcf9816f2e12fb6f01929d98dfad50b3e014ef8988eb2b616dba18b44cb3e", func := "acequia/acequialaw14.BarrierWaits", spec := "barrierWaits", inPlace := ["sync/atomic.StoreInt64", "sync/atomic.LoadInt64", "sync/atomic.AddInt64"], unfollowed := true, recurses := true, apart := false }
def BarrierWaitsSaid : Prop := barrierWaitsRow.holds Try.pinned (OpenSpec.ofChange barrierWaitsSpec)

/-- ITS FALSE NEIGHBOUR: 'it returns false'. Refute it at one input. -/
def barrierWaitsWrong : ChangeSpec := { name := "barrierWaits", fn := fun _ => fun
  | [d1, d2, d3, d4] => { results := [.lit (.bool false)], args := [d1, d2, d3, d4] }
  | _ => none }
def BarrierWaitsWrongFalsely : Prop := barrierWaitsRow.holds Try.pinned (OpenSpec.ofChange barrierWaitsWrong)

/-- 'acequialaw14.BarrierTells': WHATEVER THE INPUT: true; the input reads as it did. -/
def barrierTellsSpec : ChangeSpec := { name := "barrierTells", fn := fun _ => fun
  | [d1, d2] => { results := [.lit (.bool true)], args := [d1, d2] }
  | _ => none }
def barrierTellsRow : OpenClaim := { program := "ytghlpapljjcaeaa", sum := "375bcf9816f2e12fb6f01929d98dfad50b3e014ef8988eb2b616dba18b44cb3e", func := "acequia/acequialaw14.BarrierTells", spec := "barrierTells", inPlace := ["sync/atomic.StoreInt64", "sync/atomic.LoadInt64", "sync/atomic.AddInt64"], unfollowed := true, recurses := true, apart := false }
def BarrierTellsSaid : Prop := barrierTellsRow.holds Try.pinned (OpenSpec.ofChange barrierTellsSpec)

/-- ITS FALSE NEIGHBOUR: 'it returns false'. Refute it at one input. -/
def barrierTellsWrong : ChangeSpec := { name := "barrierTells", fn := fun _ => fun
  | [d1, d2] => { results := [.lit (.bool false)], args := [d1, d2] }
  | _ => none }
def BarrierTellsWrongFalsely : Prop := barrierTellsRow.holds Try.pinned (OpenSpec.ofChange barrierTellsWrong)

/-- 'acequialaw14.BarrierElse': WHATEVER THE INPUT: true; the input reads as it did. -/
def barrierElseSpec : ChangeSpec := { name := "barrierElse", fn := fun _ => fun
  | [d1, d2] => { results := [.lit (.bool true)], args := [d1, d2] }
  | _ => none }
def barrierElseRow : OpenClaim := { program := "ytghlpapljjcaeaa", sum := "375bcf9816f2e12fb6f01929d98dfad50b3e014ef8988eb2b616dba18b44cb3e", func := "acequia/acequialaw14.BarrierElse", spec := "barrierElse", inPlace := ["sync/atomic.StoreInt64", "sync/atomic.LoadInt64", "sync/atomic.AddInt64"], unfollowed := true, recurses := true, apart := false }
def BarrierElseSaid : Prop := barrierElseRow.holds Try.pinned (OpenSpec.ofChange barrierElseSpec)

/-- ITS FALSE NEIGHBOUR: 'it returns false'. Refute it at one input. -/
def barrierElseWrong : ChangeSpec := { name := "barrierElse", fn := fun _ => fun
  | [d1, d2] => { results := [.lit (.bool false)], args := [d1, d2] }
  | _ => none }
def BarrierElseWrongFalsely : Prop := barrierElseRow.holds Try.pinned (OpenSpec.ofChange barrierElseWrong)

/- THE SECOND FORM. 'bulk': how many values and letters a reading holds, each counted each time it is reached (what is shared counts as often as it is met; a slice's spare places count too). A statement '..UptoSaid' is the law's where the arguments, and the package variables that the reading takes, are together of bulk at most 1048576: NARROWER than '..Said'. Prove '..Said' where nothing that the law and all that it calls make is longer than what came in: it says more and counts as full. Else prove '..UptoSaid'. A law counts once. -/
mutual
def uptoBulk {H : Type} : DataW H → Nat
  | .lit (.string bytes) => bytes.length + 1
  | .lit _ => 1
  | .nil => 1
  | .ptr d => uptoBulk d + 1
  | .slice elems spare => uptoBulkAll elems + uptoBulkAll spare + 1
  | .agg parts => uptoBulkAll parts + 1
  | .iface _ d => uptoBulk d + 1
  | .map entries => uptoBulkEntries entries + 1
  | .held _ => 1
def uptoBulkAll {H : Type} : List (DataW H) → Nat
  | [] => 0
  | d :: r => uptoBulk d + uptoBulkAll r
def uptoBulkEntries {H : Type} : List (Lit × DataW H) → Nat
  | [] => 0
  | x :: r => uptoBulkEntry x + uptoBulkEntries r
def uptoBulkEntry {H : Type} : Lit × DataW H → Nat
  | (.string bytes, d) => bytes.length + uptoBulk d + 1
  | (_, d) => uptoBulk d + 1
 end
def uptoSmall : (H : Type) → List (DataW H) → Bool := fun _ ds => decide (uptoBulkAll ds ≤ 1048576)
def OpenSpec.upto (s : _root_.Go.ChangeSpec) : _root_.Go.OpenSpec := { _root_.Go.OpenSpec.ofChange s with cond := some uptoSmall }

/-- 'acequialaw14.BarrierAll', WHERE WHAT IT READS IS OF BULK AT MOST 1048576: true; the input reads as it did. -/
def barrierAllUptoRow : OpenClaim := { program := "ytghlpapljjcaeaa", sum := "375bcf9816f2e12fb6f01929d98dfad50b3e014ef8988eb2b616dba18b44cb3e", func := "acequia/acequialaw14.BarrierAll", spec := "barrierAll", inPlace := ["sync/atomic.StoreInt64", "sync/atomic.LoadInt64", "sync/atomic.AddInt64"], unfollowed := true, recurses := true, apart := false, narrowed := true }
def BarrierAllUptoSaid : Prop := barrierAllUptoRow.holds Try.pinned (OpenSpec.upto barrierAllSpec)

/-- 'acequialaw14.BarrierWaits', WHERE WHAT IT READS IS OF BULK AT MOST 1048576: true; the input reads as it did. -/
def barrierWaitsUptoRow : OpenClaim := { program := "ytghlpapljjcaeaa", sum := "375bcf9816f2e12fb6f01929d98dfad50b3e014ef8988eb2b616dba18b44cb3e", func := "acequia/acequialaw14.BarrierWaits", spec := "barrierWaits", inPlace := ["sync/atomic.StoreInt64", "sync/atomic.LoadInt64", "sync/atomic.AddInt64"], unfollowed := true, recurses := true, apart := false, narrowed := true }
def BarrierWaitsUptoSaid : Prop := barrierWaitsUptoRow.holds Try.pinned (OpenSpec.upto barrierWaitsSpec)

/-- 'acequialaw14.BarrierTells', WHERE WHAT IT READS IS OF BULK AT MOST 1048576: true; the input reads as it did. -/
def barrierTellsUptoRow : OpenClaim := { program := "ytghlpapljjcaeaa", sum := "375bcf9816f2e12fb6f01929d98dfad50b3e014ef8988eb2b616dba18b44cb3e", func := "acequia/acequialaw14.BarrierTells", spec := "barrierTells", inPlace := ["sync/atomic.StoreInt64", "sync/atomic.LoadInt64", "sync/atomic.AddInt64"], unfollowed := true, recurses := true, apart := false, narrowed := true }
def BarrierTellsUptoSaid : Prop := barrierTellsUptoRow.holds Try.pinned (OpenSpec.upto barrierTellsSpec)

/-- 'acequialaw14.BarrierElse', WHERE WHAT IT READS IS OF BULK AT MOST 1048576: true; the input reads as it did. -/
def barrierElseUptoRow : OpenClaim := { program := "ytghlpapljjcaeaa", sum := "375bcf9816f2e12fb6f01929d98dfad50b3e014ef8988eb2b616dba18b44cb3e", func := "acequia/acequialaw14.BarrierElse", spec := "barrierElse", inPlace := ["sync/atomic.StoreInt64", "sync/atomic.LoadInt64", "sync/atomic.AddInt64"], unfollowed := true, recurses := true, apart := false, narrowed := true }
def BarrierElseUptoSaid : Prop := barrierElseUptoRow.holds Try.pinned (OpenSpec.upto barrierElseSpec)

end Rows
end Go.Proofs.Ytghlpapljjcaeaa
