/-
  No cell of these rows narrows 'for every input' (looked for: loops, veiled, ifaces, maps, wideKeys, modest, calm, conditions, laid).
  DERIVED. THE GIVEN ROWS OF THIS SEAT. 4 by the template 'for every input the law returns true; each argument reads behind the call as it read before'; 0 by the template 'total and deterministic' (their statements: YtnhedibdecileaaTotals.lean).
  GIVEN WITH THE SEED: the statements are not yours to turn. If you find one false, say at which input.
  Laid BY PROGRAM, IN A SANDBOX (cutbox-rows.mjs): the forced cells as the released guide's own fill.sh prints them over the translation 33847be026108421… (all of the seat's roots in one cut). By AI agents, Wed Nov 11 2026. No macro, syntax, notation, axiom, sorry.
-/
import Derived.Test.YtnhedibdecileaaChecked
import GoSem.Claim
import GoSem.ClaimJoined
import GoSem.ClaimMapViews
import Derived.JoinedTies
import Derived.KernelRfl
namespace Go.Proofs.Ytnhedibdecileaa
/- THE CELL 'sum', in the pinned program and in every row, IS THE sha256 OF THE DUMP (.gsa) THAT YtnhedibdecileaaProg.lean LOADS. Nothing in Lean hashes anything: it is a label: what it is worth is what the hold of that sum in a sandbox is worth. -/
noncomputable def Try.pinned : Pinned := { name := "ytnhedibdecileaa", sum := "33847be026108421f908cbe1b49723cd4de5ce9b7841cca8449592aae0f549ac", checked := Try.checked }
namespace Rows
def none {H : Type} : Left H := { results := [], args := [] }

/-- 'acequialaw12.FlagsOne': WHATEVER THE INPUT: true; the input reads as it did. -/
def flagsOneSpec : ChangeSpec := { name := "flagsOne", fn := fun _ => fun
  | [d1, d2, d3, d4] => { results := [.lit (.bool true)], args := [d1, d2, d3, d4] }
  | _ => none }
def flagsOneRow : OpenClaim := { program := "ytnhedibdecileaa", sum := "33847be026108421f908cbe1b49723cd4de5ce9b7841cca8449592aae0f549ac", func := "acequia/acequialaw12.FlagsOne", spec := "flagsOne", inPlace := ["sync/atomic.StoreInt64", "sync/atomic.CompareAndSwapInt64", "sync/atomic.LoadInt64"], unfollowed := true, recurses := true, apart := false }
def FlagsOneSaid : Prop := flagsOneRow.holds Try.pinned (OpenSpec.ofChange flagsOneSpec)

/-- ITS FALSE NEIGHBOUR: 'it returns false'. Refute it at one input. -/
def flagsOneWrong : ChangeSpec := { name := "flagsOne", fn := fun _ => fun
  | [d1, d2, d3, d4] => { results := [.lit (.bool false)], args := [d1, d2, d3, d4] }
  | _ => none }
def FlagsOneWrongFalsely : Prop := flagsOneRow.holds Try.pinned (OpenSpec.ofChange flagsOneWrong)

/-- 'acequialaw12.FlagsAll': WHATEVER THE INPUT: true; the input reads as it did. -/
def flagsAllSpec : ChangeSpec := { name := "flagsAll", fn := fun _ => fun
  | [d1, d2] => { results := [.lit (.bool true)], args := [d1, d2] }
  | _ => none }
def flagsAllRow : OpenClaim := { program := "ytnhedibdecileaa", sum := "33847be026108421f908cbe1b49723cd4de5ce9b7841cca8449592aae0f549ac", func := "acequia/acequialaw12.FlagsAll", spec := "flagsAll", inPlace := ["sync/atomic.CompareAndSwapInt64", "sync/atomic.StoreInt64", "sync/atomic.LoadInt64"], unfollowed := true, recurses := true, apart := false }
def FlagsAllSaid : Prop := flagsAllRow.holds Try.pinned (OpenSpec.ofChange flagsAllSpec)

/-- ITS FALSE NEIGHBOUR: 'it returns false'. Refute it at one input. -/
def flagsAllWrong : ChangeSpec := { name := "flagsAll", fn := fun _ => fun
  | [d1, d2] => { results := [.lit (.bool false)], args := [d1, d2] }
  | _ => none }
def FlagsAllWrongFalsely : Prop := flagsAllRow.holds Try.pinned (OpenSpec.ofChange flagsAllWrong)

/-- 'acequialaw12.FlagsTells': WHATEVER THE INPUT: true; the input reads as it did. -/
def flagsTellsSpec : ChangeSpec := { name := "flagsTells", fn := fun _ => fun
  | [d1, d2] => { results := [.lit (.bool true)], args := [d1, d2] }
  | _ => none }
def flagsTellsRow : OpenClaim := { program := "ytnhedibdecileaa", sum := "33847be026108421f908cbe1b49723cd4de5ce9b7841cca8449592aae0f549ac", func := "acequia/acequialaw12.FlagsTells", spec := "flagsTells", inPlace := ["sync/atomic.StoreInt64", "sync/atomic.CompareAndSwapInt64", "sync/atomic.LoadInt64"], unfollowed := true, recurses := true, apart := false }
def FlagsTellsSaid : Prop := flagsTellsRow.holds Try.pinned (OpenSpec.ofChange flagsTellsSpec)

/-- ITS FALSE NEIGHBOUR: 'it returns false'. Refute it at one input. -/
def flagsTellsWrong : ChangeSpec := { name := "flagsTells", fn := fun _ => fun
  | [d1, d2] => { results := [.lit (.bool false)], args := [d1, d2] }
  | _ => none }
def FlagsTellsWrongFalsely : Prop := flagsTellsRow.holds Try.pinned (OpenSpec.ofChange flagsTellsWrong)

/-- 'acequialaw12.FlagsElse': WHATEVER THE INPUT: true; the input reads as it did. -/
def flagsElseSpec : ChangeSpec := { name := "flagsElse", fn := fun _ => fun
  | [d1, d2, d3] => { results := [.lit (.bool true)], args := [d1, d2, d3] }
  | _ => none }
def flagsElseRow : OpenClaim := { program := "ytnhedibdecileaa", sum := "33847be026108421f908cbe1b49723cd4de5ce9b7841cca8449592aae0f549ac", func := "acequia/acequialaw12.FlagsElse", spec := "flagsElse", inPlace := ["sync/atomic.StoreInt64", "sync/atomic.LoadInt64", "sync/atomic.CompareAndSwapInt64"], unfollowed := true, recurses := true, apart := false }
def FlagsElseSaid : Prop := flagsElseRow.holds Try.pinned (OpenSpec.ofChange flagsElseSpec)

/-- ITS FALSE NEIGHBOUR: 'it returns false'. Refute it at one input. -/
def flagsElseWrong : ChangeSpec := { name := "flagsElse", fn := fun _ => fun
  | [d1, d2, d3] => { results := [.lit (.bool false)], args := [d1, d2, d3] }
  | _ => none }
def FlagsElseWrongFalsely : Prop := flagsElseRow.holds Try.pinned (OpenSpec.ofChange flagsElseWrong)

/- THE SECOND FORM. 'bulk': how many values and letters a reading holds, each counted each time it is reached (what is shared counts as often as it is met; a slice's spare places count too). A statement '..UptoSaid' is the law's where the arguments, and the package variables that the reading takes, are together of bulk at most 1048576: NARROWER than '..Said'. Prove '..Said' where nothing that the law and all that it calls make is longer than what came in: it says more and counts as full. Else prove '..UptoSaid'. A law counts once. -/
mutual
def uptoBulk {H : Type} : DataW H → Nat
  | .lit (.string bytes) => bytes.length + 1
  | .lit _ => 1
  | .nil => 1
  | .ptr d => uptoBulk d + 1
  | .slice elems spare => uptoBulkAll elems + uptoBulkAll spare + 1
  | .agg parts => uptoBulkAll parts + 1
  | .iface _ d => uptoBulk d + 1
  | .map entries => uptoBulkEntries entries + 1
  | .held _ => 1
def uptoBulkAll {H : Type} : List (DataW H) → Nat
  | [] => 0
  | d :: r => uptoBulk d + uptoBulkAll r
def uptoBulkEntries {H : Type} : List (Lit × DataW H) → Nat
  | [] => 0
  | x :: r => uptoBulkEntry x + uptoBulkEntries r
def uptoBulkEntry {H : Type} : Lit × DataW H → Nat
  | (.string bytes, d) => bytes.length + uptoBulk d + 1
  | (_, d) => uptoBulk d + 1
 end
def uptoSmall : (H : Type) → List (DataW H) → Bool := fun _ ds => decide (uptoBulkAll ds ≤ 1048576)
def OpenSpec.upto (s : _root_.Go.ChangeSpec) : _root_.Go.OpenSpec := { _root_.Go.OpenSpec.ofChange s with cond := some uptoSmall }

/-- 'acequialaw12.FlagsOne', WHERE WHAT IT READS IS OF BULK AT MOST 1048576: true; the input reads as it did. -/
def flagsOneUptoRow : OpenClaim := { program := "ytnhedibdecileaa", sum := "33847be026108421f908cbe1b49723cd4de5ce9b7841cca8449592aae0f549ac", func := "acequia/acequialaw12.FlagsOne", spec := "flagsOne", inPlace := ["sync/atomic.StoreInt64", "sync/atomic.CompareAndSwapInt64", "sync/atomic.LoadInt64"], unfollowed := true, recurses := true, apart := false, narrowed := true }
def FlagsOneUptoSaid : Prop := flagsOneUptoRow.holds Try.pinned (OpenSpec.upto flagsOneSpec)

/-- 'acequialaw12.FlagsAll', WHERE WHAT IT READS IS OF BULK AT MOST 1048576: true; the input reads as it did. -/
def flagsAllUptoRow : OpenClaim := { program := "ytnhedibdecileaa", sum := "33847be026108421f908cbe1b49723cd4de5ce9b7841cca8449592aae0f549ac", func := "acequia/acequialaw12.FlagsAll", spec := "flagsAll", inPlace := ["sync/atomic.CompareAndSwapInt64", "sync/atomic.StoreInt64", "sync/atomic.LoadInt64"], unfollowed := true, recurses := true, apart := false, narrowed := true }
def FlagsAllUptoSaid : Prop := flagsAllUptoRow.holds Try.pinned (OpenSpec.upto flagsAllSpec)

/-- 'acequialaw12.FlagsTells', WHERE WHAT IT READS IS OF BULK AT MOST 1048576: true; the input reads as it did. -/
def flagsTellsUptoRow : OpenClaim := { program := "ytnhedibdecileaa", sum := "33847be026108421f908cbe1b49723cd4de5ce9b7841cca8449592aae0f549ac", func := "acequia/acequialaw12.FlagsTells", spec := "flagsTells", inPlace := ["sync/atomic.StoreInt64", "sync/atomic.CompareAndSwapInt64", "sync/atomic.LoadInt64"], unfollowed := true, recurses := true, apart := false, narrowed := true }
def FlagsTellsUptoSaid : Prop := flagsTellsUptoRow.holds Try.pinned (OpenSpec.upto flagsTellsSpec)

/-- 'acequialaw12.FlagsElse', WHERE WHAT IT READS IS OF BULK AT MOST 1048576: true; the input reads as it did. -/
def flagsElseUptoRow : OpenClaim := { program := "ytnhedibdecileaa", sum := "33847be026108421f908cbe1b49723cd4de5ce9b7841cca8449592aae0f549ac", func := "acequia/acequialaw12.FlagsElse", spec := "flagsElse", inPlace := ["sync/atomic.StoreInt64", "sync/atomic.LoadInt64", "sync/atomic.CompareAndSwapInt64"], unfollowed := true, recurses := true, apart := false, narrowed := true }
def FlagsElseUptoSaid : Prop := flagsElseUptoRow.holds Try.pinned (OpenSpec.upto flagsElseSpec)

end Rows
end Go.Proofs.Ytnhedibdecileaa
