/-
  No cell of these rows narrows 'for every input' (looked for: loops, veiled, ifaces, maps, wideKeys, modest, calm, conditions, laid).
  DERIVED. THE GIVEN ROWS OF THIS SEAT. 6 by the template 'for every input the law returns true; each argument reads behind the call as it read before'; 0 by the template 'total and deterministic' (their statements: YtoapekkmaajfmaaTotals.lean).
  GIVEN WITH THE SEED: the statements are not yours to turn. If you find one false, say at which input.
  Laid BY PROGRAM, IN A SANDBOX (cutbox-rows.mjs): the forced cells as the released guide's own fill.sh prints them over the translation 0d6c00e7b8370303… (all of the seat's roots in one cut). By AI agents, Wed Nov 11 2026. No macro, syntax, notation, axiom, sorry.
-/
import Derived.Test.YtoapekkmaajfmaaChecked
import GoSem.Claim
import GoSem.ClaimJoined
import GoSem.ClaimMapViews
import Derived.JoinedTies
import Derived.KernelRfl
namespace Go.Proofs.Ytoapekkmaajfmaa
/- THE CELL 'sum', in the pinned program and in every row, IS THE sha256 OF THE DUMP (.gsa) THAT YtoapekkmaajfmaaProg.lean LOADS. Nothing in Lean hashes anything: it is a label: what it is worth is what the hold of that sum in a sandbox is worth. -/
noncomputable def Try.pinned : Pinned := { name := "ytoapekkmaajfmaa", sum := "0d6c00e7b8370303b10816431655a8979614a3e9c2275dbd5344dda64da0bf8c", checked := Try.checked }
namespace Rows
def none {H : Type} : Left H := { results := [], args := [] }

/-- 'acequialaw05.DistMore': WHATEVER THE INPUT: true; the input reads as it did. -/
def distMoreSpec : ChangeSpec := { name := "distMore", fn := fun _ => fun
  | [d1, d2, d3, d4] => { results := [.lit (.bool true)], args := [d1, d2, d3, d4] }
  | _ => none }
def distMoreRow : OpenClaim := { program := "ytoapekkmaajfmaa", sum := "0d6c00e7b8370303b10816431655a8979614a3e9c2275dbd5344dda64da0bf8c", func := "acequia/acequialaw05.DistMore", spec := "distMore", unfollowed := true, recurses := true, apart := false }
def DistMoreSaid : Prop := distMoreRow.holds Try.pinned (OpenSpec.ofChange distMoreSpec)

/-- ITS FALSE NEIGHBOUR: 'it returns false'. Refute it at one input. -/
def distMoreWrong : ChangeSpec := { name := "distMore", fn := fun _ => fun
  | [d1, d2, d3, d4] => { results := [.lit (.bool false)], args := [d1, d2, d3, d4] }
  | _ => none }
def DistMoreWrongFalsely : Prop := distMoreRow.holds Try.pinned (OpenSpec.ofChange distMoreWrong)

/-- 'acequialaw05.DistTurns': WHATEVER THE INPUT: true; the input reads as it did. -/
def distTurnsSpec : ChangeSpec := { name := "distTurns", fn := fun _ => fun
  | [d1, d2, d3, d4, d5] => { results := [.lit (.bool true)], args := [d1, d2, d3, d4, d5] }
  | _ => none }
def distTurnsRow : OpenClaim := { program := "ytoapekkmaajfmaa", sum := "0d6c00e7b8370303b10816431655a8979614a3e9c2275dbd5344dda64da0bf8c", func := "acequia/acequialaw05.DistTurns", spec := "distTurns", unfollowed := true, recurses := true, apart := false }
def DistTurnsSaid : Prop := distTurnsRow.holds Try.pinned (OpenSpec.ofChange distTurnsSpec)

/-- ITS FALSE NEIGHBOUR: 'it returns false'. Refute it at one input. -/
def distTurnsWrong : ChangeSpec := { name := "distTurns", fn := fun _ => fun
  | [d1, d2, d3, d4, d5] => { results := [.lit (.bool false)], args := [d1, d2, d3, d4, d5] }
  | _ => none }
def DistTurnsWrongFalsely : Prop := distTurnsRow.holds Try.pinned (OpenSpec.ofChange distTurnsWrong)

/-- 'acequialaw05.DistRows': WHATEVER THE INPUT: true; the input reads as it did. -/
def distRowsSpec : ChangeSpec := { name := "distRows", fn := fun _ => fun
  | [d1, d2, d3] => { results := [.lit (.bool true)], args := [d1, d2, d3] }
  | _ => none }
def distRowsRow : OpenClaim := { program := "ytoapekkmaajfmaa", sum := "0d6c00e7b8370303b10816431655a8979614a3e9c2275dbd5344dda64da0bf8c", func := "acequia/acequialaw05.DistRows", spec := "distRows", unfollowed := true, recurses := true, apart := false }
def DistRowsSaid : Prop := distRowsRow.holds Try.pinned (OpenSpec.ofChange distRowsSpec)

/-- ITS FALSE NEIGHBOUR: 'it returns false'. Refute it at one input. -/
def distRowsWrong : ChangeSpec := { name := "distRows", fn := fun _ => fun
  | [d1, d2, d3] => { results := [.lit (.bool false)], args := [d1, d2, d3] }
  | _ => none }
def DistRowsWrongFalsely : Prop := distRowsRow.holds Try.pinned (OpenSpec.ofChange distRowsWrong)

/-- 'acequialaw05.DistTells': WHATEVER THE INPUT: true; the input reads as it did. -/
def distTellsSpec : ChangeSpec := { name := "distTells", fn := fun _ => fun
  | [d1, d2, d3, d4, d5] => { results := [.lit (.bool true)], args := [d1, d2, d3, d4, d5] }
  | _ => none }
def distTellsRow : OpenClaim := { program := "ytoapekkmaajfmaa", sum := "0d6c00e7b8370303b10816431655a8979614a3e9c2275dbd5344dda64da0bf8c", func := "acequia/acequialaw05.DistTells", spec := "distTells", unfollowed := true, recurses := true, apart := false }
def DistTellsSaid : Prop := distTellsRow.holds Try.pinned (OpenSpec.ofChange distTellsSpec)

/-- ITS FALSE NEIGHBOUR: 'it returns false'. Refute it at one input. -/
def distTellsWrong : ChangeSpec := { name := "distTells", fn := fun _ => fun
  | [d1, d2, d3, d4, d5] => { results := [.lit (.bool false)], args := [d1, d2, d3, d4, d5] }
  | _ => none }
def DistTellsWrongFalsely : Prop := distTellsRow.holds Try.pinned (OpenSpec.ofChange distTellsWrong)

/-- 'acequialaw05.DistSteps': WHATEVER THE INPUT: true; the input reads as it did. -/
def distStepsSpec : ChangeSpec := { name := "distSteps", fn := fun _ => fun
  | [d1, d2, d3] => { results := [.lit (.bool true)], args := [d1, d2, d3] }
  | _ => none }
def distStepsRow : OpenClaim := { program := "ytoapekkmaajfmaa", sum := "0d6c00e7b8370303b10816431655a8979614a3e9c2275dbd5344dda64da0bf8c", func := "acequia/acequialaw05.DistSteps", spec := "distSteps", unfollowed := true, recurses := true, apart := false }
def DistStepsSaid : Prop := distStepsRow.holds Try.pinned (OpenSpec.ofChange distStepsSpec)

/-- ITS FALSE NEIGHBOUR: 'it returns false'. Refute it at one input. -/
def distStepsWrong : ChangeSpec := { name := "distSteps", fn := fun _ => fun
  | [d1, d2, d3] => { results := [.lit (.bool false)], args := [d1, d2, d3] }
  | _ => none }
def DistStepsWrongFalsely : Prop := distStepsRow.holds Try.pinned (OpenSpec.ofChange distStepsWrong)

/-- 'acequialaw05.DistWay': WHATEVER THE INPUT: true; the input reads as it did. -/
def distWaySpec : ChangeSpec := { name := "distWay", fn := fun _ => fun
  | [d1, d2, d3, d4] => { results := [.lit (.bool true)], args := [d1, d2, d3, d4] }
  | _ => none }
def distWayRow : OpenClaim := { program := "ytoapekkmaajfmaa", sum := "0d6c00e7b8370303b10816431655a8979614a3e9c2275dbd5344dda64da0bf8c", func := "acequia/acequialaw05.DistWay", spec := "distWay", unfollowed := true, recurses := true, apart := false }
def DistWaySaid : Prop := distWayRow.holds Try.pinned (OpenSpec.ofChange distWaySpec)

/-- ITS FALSE NEIGHBOUR: 'it returns false'. Refute it at one input. -/
def distWayWrong : ChangeSpec := { name := "distWay", fn := fun _ => fun
  | [d1, d2, d3, d4] => { results := [.lit (.bool false)], args := [d1, d2, d3, d4] }
  | _ => none }
def DistWayWrongFalsely : Prop := distWayRow.holds Try.pinned (OpenSpec.ofChange distWayWrong)

/- THE SECOND FORM. 'bulk': how many values and letters a reading holds, each counted each time it is reached (what is shared counts as often as it is met; a slice's spare places count too). A statement '..UptoSaid' is the law's where the arguments, and the package variables that the reading takes, are together of bulk at most 1048576: NARROWER than '..Said'. Prove '..Said' where nothing that the law and all that it calls make is longer than what came in: it says more and counts as full. Else prove '..UptoSaid'. A law counts once. -/
mutual
def uptoBulk {H : Type} : DataW H → Nat
  | .lit (.string bytes) => bytes.length + 1
  | .lit _ => 1
  | .nil => 1
  | .ptr d => uptoBulk d + 1
  | .slice elems spare => uptoBulkAll elems + uptoBulkAll spare + 1
  | .agg parts => uptoBulkAll parts + 1
  | .iface _ d => uptoBulk d + 1
  | .map entries => uptoBulkEntries entries + 1
  | .held _ => 1
def uptoBulkAll {H : Type} : List (DataW H) → Nat
  | [] => 0
  | d :: r => uptoBulk d + uptoBulkAll r
def uptoBulkEntries {H : Type} : List (Lit × DataW H) → Nat
  | [] => 0
  | x :: r => uptoBulkEntry x + uptoBulkEntries r
def uptoBulkEntry {H : Type} : Lit × DataW H → Nat
  | (.string bytes, d) => bytes.length + uptoBulk d + 1
  | (_, d) => uptoBulk d + 1
 end
def uptoSmall : (H : Type) → List (DataW H) → Bool := fun _ ds => decide (uptoBulkAll ds ≤ 1048576)
def OpenSpec.upto (s : _root_.Go.ChangeSpec) : _root_.Go.OpenSpec := { _root_.Go.OpenSpec.ofChange s with cond := some uptoSmall }

/-- 'acequialaw05.DistMore', WHERE WHAT IT READS IS OF BULK AT MOST 1048576: true; the input reads as it did. -/
def distMoreUptoRow : OpenClaim := { program := "ytoapekkmaajfmaa", sum := "0d6c00e7b8370303b10816431655a8979614a3e9c2275dbd5344dda64da0bf8c", func := "acequia/acequialaw05.DistMore", spec := "distMore", unfollowed := true, recurses := true, apart := false, narrowed := true }
def DistMoreUptoSaid : Prop := distMoreUptoRow.holds Try.pinned (OpenSpec.upto distMoreSpec)

/-- 'acequialaw05.DistTurns', WHERE WHAT IT READS IS OF BULK AT MOST 1048576: true; the input reads as it did. -/
def distTurnsUptoRow : OpenClaim := { program := "ytoapekkmaajfmaa", sum := "0d6c00e7b8370303b10816431655a8979614a3e9c2275dbd5344dda64da0bf8c", func := "acequia/acequialaw05.DistTurns", spec := "distTurns", unfollowed := true, recurses := true, apart := false, narrowed := true }
def DistTurnsUptoSaid : Prop := distTurnsUptoRow.holds Try.pinned (OpenSpec.upto distTurnsSpec)

/-- 'acequialaw05.DistRows', WHERE WHAT IT READS IS OF BULK AT MOST 1048576: true; the input reads as it did. -/
def distRowsUptoRow : OpenClaim := { program := "ytoapekkmaajfmaa", sum := "0d6c00e7b8370303b10816431655a8979614a3e9c2275dbd5344dda64da0bf8c", func := "acequia/acequialaw05.DistRows", spec := "distRows", unfollowed := true, recurses := true, apart := false, narrowed := true }
def DistRowsUptoSaid : Prop := distRowsUptoRow.holds Try.pinned (OpenSpec.upto distRowsSpec)

/-- 'acequialaw05.DistTells', WHERE WHAT IT READS IS OF BULK AT MOST 1048576: true; the input reads as it did. -/
def distTellsUptoRow : OpenClaim := { program := "ytoapekkmaajfmaa", sum := "0d6c00e7b8370303b10816431655a8979614a3e9c2275dbd5344dda64da0bf8c", func := "acequia/acequialaw05.DistTells", spec := "distTells", unfollowed := true, recurses := true, apart := false, narrowed := true }
def DistTellsUptoSaid : Prop := distTellsUptoRow.holds Try.pinned (OpenSpec.upto distTellsSpec)

/-- 'acequialaw05.DistSteps', WHERE WHAT IT READS IS OF BULK AT MOST 1048576: true; the input reads as it did. -/
def distStepsUptoRow : OpenClaim := { program := "ytoapekkmaajfmaa", sum := "0d6c00e7b8370303b10816431655a8979614a3e9c2275dbd5344dda64da0bf8c", func := "acequia/acequialaw05.DistSteps", spec := "distSteps", unfollowed := true, recurses := true, apart := false, narrowed := true }
def DistStepsUptoSaid : Prop := distStepsUptoRow.holds Try.pinned (OpenSpec.upto distStepsSpec)

/-- 'acequialaw05.DistWay', WHERE WHAT IT READS IS OF BULK AT MOST 1048576: true; the input reads as it did. -/
def distWayUptoRow : OpenClaim := { program := "ytoapekkmaajfmaa", sum := "0d6c00e7b8370303b10816431655a8979614a3e9c2275dbd5344dda64da0bf8c", func := "acequia/acequialaw05.DistWay", spec := "distWay", unfollowed := true, recurses := true, apart := false, narrowed := true }
def DistWayUptoSaid : Prop := distWayUptoRow.holds Try.pinned (OpenSpec.upto distWaySpec)

end Rows
end Go.Proofs.Ytoapekkmaajfmaa
