/-
  No cell of these rows narrows 'for every input' (looked for: loops, veiled, ifaces, maps, wideKeys, modest, calm, conditions, laid).
  DERIVED. THE GIVEN ROWS OF THIS SEAT. 4 by the template 'for every input the law returns true; each argument reads behind the call as it read before'; 0 by the template 'total and deterministic' (their statements: YtccjgbmbggbmgaaTotals.lean).
  GIVEN WITH THE SEED: the statements are not yours to turn. If you find one false, say at which input.
  Laid BY PROGRAM, IN A SANDBOX (cutbox-rows.mjs): the forced cells as the released guide's own fill.sh prints them over the translation 51f5d46c13f5f966… (all of the seat's roots in one cut). By AI agents, Wed Nov 11 2026. No macro, syntax, notation, axiom, sorry.
-/
import Derived.Test.YtccjgbmbggbmgaaChecked
import GoSem.Claim
import GoSem.ClaimJoined
import GoSem.ClaimMapViews
import Derived.JoinedTies
import Derived.KernelRfl
namespace Go.Proofs.Ytccjgbmbggbmgaa
/- THE CELL 'sum', in the pinned program and in every row, IS THE sha256 OF THE DUMP (.gsa) THAT YtccjgbmbggbmgaaProg.lean LOADS. Nothing in Lean hashes anything: it is a label: what it is worth is what the hold of that sum in a sandbox is worth. -/
noncomputable def Try.pinned : Pinned := { name := "ytccjgbmbggbmgaa", sum := "51f5d46c13f5f96632aa37d66ecc6b9c1999ab98d496d8cfe723998129e799c5", checked := Try.checked }
namespace Rows
def none {H : Type} : Left H := { results := [], args := [] }

/-- 'acequialaw13.CountPending': WHATEVER THE INPUT: true; the input reads as it did. -/
def countPendingSpec : ChangeSpec := { name := "countPending", fn := fun _ => fun
  | [d] => { results := [.lit (.bool true)], args := [d] }
  | _ => none }
def countPendingRow : OpenClaim := { program := "ytccjgbmbggbmgaa", sum := "51f5d46c13f5f96632aa37d66ecc6b9c1999ab98d496d8cfe723998129e799c5", func := "acequia/acequialaw13.CountPending", spec := "countPending", inPlace := ["sync/atomic.AddInt64", "sync/atomic.LoadInt64", "sync/atomic.StoreInt64"], unfollowed := true, recurses := true, apart := false }
def CountPendingSaid : Prop := countPendingRow.holds Try.pinned (OpenSpec.ofChange countPendingSpec)

/-- ITS FALSE NEIGHBOUR: 'it returns false'. Refute it at one input. -/
def countPendingWrong : ChangeSpec := { name := "countPending", fn := fun _ => fun
  | [d] => { results := [.lit (.bool false)], args := [d] }
  | _ => none }
def CountPendingWrongFalsely : Prop := countPendingRow.holds Try.pinned (OpenSpec.ofChange countPendingWrong)

/-- 'acequialaw13.CountAsk': WHATEVER THE INPUT: true; the input reads as it did. -/
def countAskSpec : ChangeSpec := { name := "countAsk", fn := fun _ => fun
  | [d1, d2] => { results := [.lit (.bool true)], args := [d1, d2] }
  | _ => none }
def countAskRow : OpenClaim := { program := "ytccjgbmbggbmgaa", sum := "51f5d46c13f5f96632aa37d66ecc6b9c1999ab98d496d8cfe723998129e799c5", func := "acequia/acequialaw13.CountAsk", spec := "countAsk", inPlace := ["sync/atomic.AddInt64", "sync/atomic.LoadInt64", "sync/atomic.StoreInt64"], unfollowed := true, recurses := true, apart := false }
def CountAskSaid : Prop := countAskRow.holds Try.pinned (OpenSpec.ofChange countAskSpec)

/-- ITS FALSE NEIGHBOUR: 'it returns false'. Refute it at one input. -/
def countAskWrong : ChangeSpec := { name := "countAsk", fn := fun _ => fun
  | [d1, d2] => { results := [.lit (.bool false)], args := [d1, d2] }
  | _ => none }
def CountAskWrongFalsely : Prop := countAskRow.holds Try.pinned (OpenSpec.ofChange countAskWrong)

/-- 'acequialaw13.CountOrder': WHATEVER THE INPUT: true; the input reads as it did. -/
def countOrderSpec : ChangeSpec := { name := "countOrder", fn := fun _ => fun
  | [d1, d2] => { results := [.lit (.bool true)], args := [d1, d2] }
  | _ => none }
def countOrderRow : OpenClaim := { program := "ytccjgbmbggbmgaa", sum := "51f5d46c13f5f96632aa37d66ecc6b9c1999ab98d496d8cfe723998129e799c5", func := "acequia/acequialaw13.CountOrder", spec := "countOrder", inPlace := ["sync/atomic.AddInt64", "sync/atomic.LoadInt64", "sync/atomic.StoreInt64"], unfollowed := true, recurses := true, apart := false }
def CountOrderSaid : Prop := countOrderRow.holds Try.pinned (OpenSpec.ofChange countOrderSpec)

/-- ITS FALSE NEIGHBOUR: 'it returns false'. Refute it at one input. -/
def countOrderWrong : ChangeSpec := { name := "countOrder", fn := fun _ => fun
  | [d1, d2] => { results := [.lit (.bool false)], args := [d1, d2] }
  | _ => none }
def CountOrderWrongFalsely : Prop := countOrderRow.holds Try.pinned (OpenSpec.ofChange countOrderWrong)

/-- 'acequialaw13.CountTells': WHATEVER THE INPUT: true; the input reads as it did. -/
def countTellsSpec : ChangeSpec := { name := "countTells", fn := fun _ => fun
  | [d] => { results := [.lit (.bool true)], args := [d] }
  | _ => none }
def countTellsRow : OpenClaim := { program := "ytccjgbmbggbmgaa", sum := "51f5d46c13f5f96632aa37d66ecc6b9c1999ab98d496d8cfe723998129e799c5", func := "acequia/acequialaw13.CountTells", spec := "countTells", inPlace := ["sync/atomic.AddInt64", "sync/atomic.LoadInt64", "sync/atomic.StoreInt64"], unfollowed := true, recurses := true, apart := false }
def CountTellsSaid : Prop := countTellsRow.holds Try.pinned (OpenSpec.ofChange countTellsSpec)

/-- ITS FALSE NEIGHBOUR: 'it returns false'. Refute it at one input. -/
def countTellsWrong : ChangeSpec := { name := "countTells", fn := fun _ => fun
  | [d] => { results := [.lit (.bool false)], args := [d] }
  | _ => none }
def CountTellsWrongFalsely : Prop := countTellsRow.holds Try.pinned (OpenSpec.ofChange countTellsWrong)

/- THE SECOND FORM. 'bulk': how many values and letters a reading holds, each counted each time it is reached (what is shared counts as often as it is met; a slice's spare places count too). A statement '..UptoSaid' is the law's where the arguments, and the package variables that the reading takes, are together of bulk at most 1048576: NARROWER than '..Said'. Prove '..Said' where nothing that the law and all that it calls make is longer than what came in: it says more and counts as full. Else prove '..UptoSaid'. A law counts once. -/
mutual
def uptoBulk {H : Type} : DataW H → Nat
  | .lit (.string bytes) => bytes.length + 1
  | .lit _ => 1
  | .nil => 1
  | .ptr d => uptoBulk d + 1
  | .slice elems spare => uptoBulkAll elems + uptoBulkAll spare + 1
  | .agg parts => uptoBulkAll parts + 1
  | .iface _ d => uptoBulk d + 1
  | .map entries => uptoBulkEntries entries + 1
  | .held _ => 1
def uptoBulkAll {H : Type} : List (DataW H) → Nat
  | [] => 0
  | d :: r => uptoBulk d + uptoBulkAll r
def uptoBulkEntries {H : Type} : List (Lit × DataW H) → Nat
  | [] => 0
  | x :: r => uptoBulkEntry x + uptoBulkEntries r
def uptoBulkEntry {H : Type} : Lit × DataW H → Nat
  | (.string bytes, d) => bytes.length + uptoBulk d + 1
  | (_, d) => uptoBulk d + 1
 end
def uptoSmall : (H : Type) → List (DataW H) → Bool := fun _ ds => decide (uptoBulkAll ds ≤ 1048576)
def OpenSpec.upto (s : _root_.Go.ChangeSpec) : _root_.Go.OpenSpec := { _root_.Go.OpenSpec.ofChange s with cond := some uptoSmall }

/-- 'acequialaw13.CountPending', WHERE WHAT IT READS IS OF BULK AT MOST 1048576: true; the input reads as it did. -/
def countPendingUptoRow : OpenClaim := { program := "ytccjgbmbggbmgaa", sum := "51f5d46c13f5f96632aa37d66ecc6b9c1999ab98d496d8cfe723998129e799c5", func := "acequia/acequialaw13.CountPending", spec := "countPending", inPlace := ["sync/atomic.AddInt64", "sync/atomic.LoadInt64", "sync/atomic.StoreInt64"], unfollowed := true, recurses := true, apart := false, narrowed := true }
def CountPendingUptoSaid : Prop := countPendingUptoRow.holds Try.pinned (OpenSpec.upto countPendingSpec)

/-- 'acequialaw13.CountAsk', WHERE WHAT IT READS IS OF BULK AT MOST 1048576: true; the input reads as it did. -/
def countAskUptoRow : OpenClaim := { program := "ytccjgbmbggbmgaa", sum := "51f5d46c13f5f96632aa37d66ecc6b9c1999ab98d496d8cfe723998129e799c5", func := "acequia/acequialaw13.CountAsk", spec := "countAsk", inPlace := ["sync/atomic.AddInt64", "sync/atomic.LoadInt64", "sync/atomic.StoreInt64"], unfollowed := true, recurses := true, apart := false, narrowed := true }
def CountAskUptoSaid : Prop := countAskUptoRow.holds Try.pinned (OpenSpec.upto countAskSpec)

/-- 'acequialaw13.CountOrder', WHERE WHAT IT READS IS OF BULK AT MOST 1048576: true; the input reads as it did. -/
def countOrderUptoRow : OpenClaim := { program := "ytccjgbmbggbmgaa", sum := "51f5d46c13f5f96632aa37d66ecc6b9c1999ab98d496d8cfe723998129e799c5", func := "acequia/acequialaw13.CountOrder", spec := "countOrder", inPlace := ["sync/atomic.AddInt64", "sync/atomic.LoadInt64", "sync/atomic.StoreInt64"], unfollowed := true, recurses := true, apart := false, narrowed := true }
def CountOrderUptoSaid : Prop := countOrderUptoRow.holds Try.pinned (OpenSpec.upto countOrderSpec)

/-- 'acequialaw13.CountTells', WHERE WHAT IT READS IS OF BULK AT MOST 1048576: true; the input reads as it did. -/
def countTellsUptoRow : OpenClaim := { program := "ytccjgbmbggbmgaa", sum := "51f5d46c13f5f96632aa37d66ecc6b9c1999ab98d496d8cfe723998129e799c5", func := "acequia/acequialaw13.CountTells", spec := "countTells", inPlace := ["sync/atomic.AddInt64", "sync/atomic.LoadInt64", "sync/atomic.StoreInt64"], unfollowed := true, recurses := true, apart := false, narrowed := true }
def CountTellsUptoSaid : Prop := countTellsUptoRow.holds Try.pinned (OpenSpec.upto countTellsSpec)

end Rows
end Go.Proofs.Ytccjgbmbggbmgaa
