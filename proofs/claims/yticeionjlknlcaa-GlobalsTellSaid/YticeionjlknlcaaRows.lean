/-
  No cell of these rows narrows 'for every input' (looked for: loops, veiled, ifaces, maps, wideKeys, modest, calm, conditions, laid).
  DERIVED. THE GIVEN ROWS OF THIS SEAT. 9 by the template 'for every input the law returns true; each argument reads behind the call as it read before'; 0 by the template 'total and deterministic' (their statements: YticeionjlknlcaaTotals.lean).
  GIVEN WITH THE SEED: the statements are not yours to turn. If you find one false, say at which input.
  Laid BY PROGRAM, IN A SANDBOX (cutbox-rows.mjs): the forced cells as the released guide's own fill.sh prints them over the translation 062d05be42496721… (all of the seat's roots in one cut). By AI agents, Wed Nov 11 2026. No macro, syntax, notation, axiom, sorry.
-/
import Derived.Test.YticeionjlknlcaaChecked
import GoSem.Claim
import GoSem.ClaimJoined
import GoSem.ClaimMapViews
import Derived.JoinedTies
import Derived.KernelRfl
namespace Go.Proofs.Yticeionjlknlcaa
/- THE CELL 'sum', in the pinned program and in every row, IS THE sha256 OF THE DUMP (.gsa) THAT YticeionjlknlcaaProg.lean LOADS. Nothing in Lean hashes anything: it is a label: what it is worth is what the hold of that sum in a sandbox is worth. -/
noncomputable def Try.pinned : Pinned := { name := "yticeionjlknlcaa", sum := "062d05be424967212e2563d1fc691f0cd01fb3ca87db0d1f62a8e53481e621c1", checked := Try.checked }
namespace Rows
def none {H : Type} : Left H := { results := [], args := [] }

/-- 'acequialaw19.RepairTells': WHATEVER THE INPUT: true; the input reads as it did. -/
def repairTellsSpec : ChangeSpec := { name := "repairTells", fn := fun _ => fun
  | [d1, d2, d3, d4] => { results := [.lit (.bool true)], args := [d1, d2, d3, d4] }
  | _ => none }
def repairTellsRow : OpenClaim := { program := "yticeionjlknlcaa", sum := "062d05be424967212e2563d1fc691f0cd01fb3ca87db0d1f62a8e53481e621c1", func := "acequia/acequialaw19.RepairTells", spec := "repairTells", unfollowed := true, recurses := true, apart := false }
def RepairTellsSaid : Prop := repairTellsRow.holds Try.pinned (OpenSpec.ofChange repairTellsSpec)

/-- ITS FALSE NEIGHBOUR: 'it returns false'. Refute it at one input. -/
def repairTellsWrong : ChangeSpec := { name := "repairTells", fn := fun _ => fun
  | [d1, d2, d3, d4] => { results := [.lit (.bool false)], args := [d1, d2, d3, d4] }
  | _ => none }
def RepairTellsWrongFalsely : Prop := repairTellsRow.holds Try.pinned (OpenSpec.ofChange repairTellsWrong)

/-- 'acequialaw19.RepairOrder': WHATEVER THE INPUT: true; the input reads as it did. -/
def repairOrderSpec : ChangeSpec := { name := "repairOrder", fn := fun _ => fun
  | [d1, d2, d3, d4, d5] => { results := [.lit (.bool true)], args := [d1, d2, d3, d4, d5] }
  | _ => none }
def repairOrderRow : OpenClaim := { program := "yticeionjlknlcaa", sum := "062d05be424967212e2563d1fc691f0cd01fb3ca87db0d1f62a8e53481e621c1", func := "acequia/acequialaw19.RepairOrder", spec := "repairOrder", unfollowed := true, recurses := true, apart := false }
def RepairOrderSaid : Prop := repairOrderRow.holds Try.pinned (OpenSpec.ofChange repairOrderSpec)

/-- ITS FALSE NEIGHBOUR: 'it returns false'. Refute it at one input. -/
def repairOrderWrong : ChangeSpec := { name := "repairOrder", fn := fun _ => fun
  | [d1, d2, d3, d4, d5] => { results := [.lit (.bool false)], args := [d1, d2, d3, d4, d5] }
  | _ => none }
def RepairOrderWrongFalsely : Prop := repairOrderRow.holds Try.pinned (OpenSpec.ofChange repairOrderWrong)

/-- 'acequialaw19.RepairGreatest': WHATEVER THE INPUT: true; the input reads as it did. -/
def repairGreatestSpec : ChangeSpec := { name := "repairGreatest", fn := fun _ => fun
  | [d1, d2, d3, d4] => { results := [.lit (.bool true)], args := [d1, d2, d3, d4] }
  | _ => none }
def repairGreatestRow : OpenClaim := { program := "yticeionjlknlcaa", sum := "062d05be424967212e2563d1fc691f0cd01fb3ca87db0d1f62a8e53481e621c1", func := "acequia/acequialaw19.RepairGreatest", spec := "repairGreatest", unfollowed := true, recurses := true, apart := false }
def RepairGreatestSaid : Prop := repairGreatestRow.holds Try.pinned (OpenSpec.ofChange repairGreatestSpec)

/-- ITS FALSE NEIGHBOUR: 'it returns false'. Refute it at one input. -/
def repairGreatestWrong : ChangeSpec := { name := "repairGreatest", fn := fun _ => fun
  | [d1, d2, d3, d4] => { results := [.lit (.bool false)], args := [d1, d2, d3, d4] }
  | _ => none }
def RepairGreatestWrongFalsely : Prop := repairGreatestRow.holds Try.pinned (OpenSpec.ofChange repairGreatestWrong)

/-- 'acequialaw19.RepairFlat': WHATEVER THE INPUT: true; the input reads as it did. -/
def repairFlatSpec : ChangeSpec := { name := "repairFlat", fn := fun _ => fun
  | [d1, d2, d3] => { results := [.lit (.bool true)], args := [d1, d2, d3] }
  | _ => none }
def repairFlatRow : OpenClaim := { program := "yticeionjlknlcaa", sum := "062d05be424967212e2563d1fc691f0cd01fb3ca87db0d1f62a8e53481e621c1", func := "acequia/acequialaw19.RepairFlat", spec := "repairFlat", unfollowed := true, recurses := true, apart := false }
def RepairFlatSaid : Prop := repairFlatRow.holds Try.pinned (OpenSpec.ofChange repairFlatSpec)

/-- ITS FALSE NEIGHBOUR: 'it returns false'. Refute it at one input. -/
def repairFlatWrong : ChangeSpec := { name := "repairFlat", fn := fun _ => fun
  | [d1, d2, d3] => { results := [.lit (.bool false)], args := [d1, d2, d3] }
  | _ => none }
def RepairFlatWrongFalsely : Prop := repairFlatRow.holds Try.pinned (OpenSpec.ofChange repairFlatWrong)

/-- 'acequialaw20.GlobalsDown': WHATEVER THE INPUT: true; the input reads as it did. -/
def globalsDownSpec : ChangeSpec := { name := "globalsDown", fn := fun _ => fun
  | [d1, d2, d3] => { results := [.lit (.bool true)], args := [d1, d2, d3] }
  | _ => none }
def globalsDownRow : OpenClaim := { program := "yticeionjlknlcaa", sum := "062d05be424967212e2563d1fc691f0cd01fb3ca87db0d1f62a8e53481e621c1", func := "acequia/acequialaw20.GlobalsDown", spec := "globalsDown", unfollowed := true, recurses := true, apart := false }
def GlobalsDownSaid : Prop := globalsDownRow.holds Try.pinned (OpenSpec.ofChange globalsDownSpec)

/-- ITS FALSE NEIGHBOUR: 'it returns false'. Refute it at one input. -/
def globalsDownWrong : ChangeSpec := { name := "globalsDown", fn := fun _ => fun
  | [d1, d2, d3] => { results := [.lit (.bool false)], args := [d1, d2, d3] }
  | _ => none }
def GlobalsDownWrongFalsely : Prop := globalsDownRow.holds Try.pinned (OpenSpec.ofChange globalsDownWrong)

/-- 'acequialaw20.GlobalsExact': WHATEVER THE INPUT: true; the input reads as it did. -/
def globalsExactSpec : ChangeSpec := { name := "globalsExact", fn := fun _ => fun
  | [d1, d2, d3, d4, d5] => { results := [.lit (.bool true)], args := [d1, d2, d3, d4, d5] }
  | _ => none }
def globalsExactRow : OpenClaim := { program := "yticeionjlknlcaa", sum := "062d05be424967212e2563d1fc691f0cd01fb3ca87db0d1f62a8e53481e621c1", func := "acequia/acequialaw20.GlobalsExact", spec := "globalsExact", unfollowed := true, recurses := true, apart := false }
def GlobalsExactSaid : Prop := globalsExactRow.holds Try.pinned (OpenSpec.ofChange globalsExactSpec)

/-- ITS FALSE NEIGHBOUR: 'it returns false'. Refute it at one input. -/
def globalsExactWrong : ChangeSpec := { name := "globalsExact", fn := fun _ => fun
  | [d1, d2, d3, d4, d5] => { results := [.lit (.bool false)], args := [d1, d2, d3, d4, d5] }
  | _ => none }
def GlobalsExactWrongFalsely : Prop := globalsExactRow.holds Try.pinned (OpenSpec.ofChange globalsExactWrong)

/-- 'acequialaw20.GlobalsRisen': WHATEVER THE INPUT: true; the input reads as it did. -/
def globalsRisenSpec : ChangeSpec := { name := "globalsRisen", fn := fun _ => fun
  | [d1, d2, d3] => { results := [.lit (.bool true)], args := [d1, d2, d3] }
  | _ => none }
def globalsRisenRow : OpenClaim := { program := "yticeionjlknlcaa", sum := "062d05be424967212e2563d1fc691f0cd01fb3ca87db0d1f62a8e53481e621c1", func := "acequia/acequialaw20.GlobalsRisen", spec := "globalsRisen", unfollowed := true, recurses := true, apart := false }
def GlobalsRisenSaid : Prop := globalsRisenRow.holds Try.pinned (OpenSpec.ofChange globalsRisenSpec)

/-- ITS FALSE NEIGHBOUR: 'it returns false'. Refute it at one input. -/
def globalsRisenWrong : ChangeSpec := { name := "globalsRisen", fn := fun _ => fun
  | [d1, d2, d3] => { results := [.lit (.bool false)], args := [d1, d2, d3] }
  | _ => none }
def GlobalsRisenWrongFalsely : Prop := globalsRisenRow.holds Try.pinned (OpenSpec.ofChange globalsRisenWrong)

/-- 'acequialaw20.GlobalsReach': WHATEVER THE INPUT: true; the input reads as it did. -/
def globalsReachSpec : ChangeSpec := { name := "globalsReach", fn := fun _ => fun
  | [d1, d2, d3] => { results := [.lit (.bool true)], args := [d1, d2, d3] }
  | _ => none }
def globalsReachRow : OpenClaim := { program := "yticeionjlknlcaa", sum := "062d05be424967212e2563d1fc691f0cd01fb3ca87db0d1f62a8e53481e621c1", func := "acequia/acequialaw20.GlobalsReach", spec := "globalsReach", unfollowed := true, recurses := true, apart := false }
def GlobalsReachSaid : Prop := globalsReachRow.holds Try.pinned (OpenSpec.ofChange globalsReachSpec)

/-- ITS FALSE NEIGHBOUR: 'it returns false'. Refute it at one input. -/
def globalsReachWrong : ChangeSpec := { name := "globalsReach", fn := fun _ => fun
  | [d1, d2, d3] => { results := [.lit (.bool false)], args := [d1, d2, d3] }
  | _ => none }
def GlobalsReachWrongFalsely : Prop := globalsReachRow.holds Try.pinned (OpenSpec.ofChange globalsReachWrong)

/-- 'acequialaw20.GlobalsTell': WHATEVER THE INPUT: true; the input reads as it did. -/
def globalsTellSpec : ChangeSpec := { name := "globalsTell", fn := fun _ => fun
  | [d1, d2, d3, d4, d5, d6, d7] => { results := [.lit (.bool true)], args := [d1, d2, d3, d4, d5, d6, d7] }
  | _ => none }
def globalsTellRow : OpenClaim := { program := "yticeionjlknlcaa", sum := "062d05be424967212e2563d1fc691f0cd01fb3ca87db0d1f62a8e53481e621c1", func := "acequia/acequialaw20.GlobalsTell", spec := "globalsTell", unfollowed := true, recurses := true, apart := false }
def GlobalsTellSaid : Prop := globalsTellRow.holds Try.pinned (OpenSpec.ofChange globalsTellSpec)

/-- ITS FALSE NEIGHBOUR: 'it returns false'. Refute it at one input. -/
def globalsTellWrong : ChangeSpec := { name := "globalsTell", fn := fun _ => fun
  | [d1, d2, d3, d4, d5, d6, d7] => { results := [.lit (.bool false)], args := [d1, d2, d3, d4, d5, d6, d7] }
  | _ => none }
def GlobalsTellWrongFalsely : Prop := globalsTellRow.holds Try.pinned (OpenSpec.ofChange globalsTellWrong)

/- THE SECOND FORM. 'bulk': how many values and letters a reading holds, each counted each time it is reached (what is shared counts as often as it is met; a slice's spare places count too). A statement '..UptoSaid' is the law's where the arguments, and the package variables that the reading takes, are together of bulk at most 1048576: NARROWER than '..Said'. Prove '..Said' where nothing that the law and all that it calls make is longer than what came in: it says more and counts as full. Else prove '..UptoSaid'. A law counts once. -/
mutual
def uptoBulk {H : Type} : DataW H → Nat
  | .lit (.string bytes) => bytes.length + 1
  | .lit _ => 1
  | .nil => 1
  | .ptr d => uptoBulk d + 1
  | .slice elems spare => uptoBulkAll elems + uptoBulkAll spare + 1
  | .agg parts => uptoBulkAll parts + 1
  | .iface _ d => uptoBulk d + 1
  | .map entries => uptoBulkEntries entries + 1
  | .held _ => 1
def uptoBulkAll {H : Type} : List (DataW H) → Nat
  | [] => 0
  | d :: r => uptoBulk d + uptoBulkAll r
def uptoBulkEntries {H : Type} : List (Lit × DataW H) → Nat
  | [] => 0
  | x :: r => uptoBulkEntry x + uptoBulkEntries r
def uptoBulkEntry {H : Type} : Lit × DataW H → Nat
  | (.string bytes, d) => bytes.length + uptoBulk d + 1
  | (_, d) => uptoBulk d + 1
 end
def uptoSmall : (H : Type) → List (DataW H) → Bool := fun _ ds => decide (uptoBulkAll ds ≤ 1048576)
def OpenSpec.upto (s : _root_.Go.ChangeSpec) : _root_.Go.OpenSpec := { _root_.Go.OpenSpec.ofChange s with cond := some uptoSmall }

/-- 'acequialaw19.RepairTells', WHERE WHAT IT READS IS OF BULK AT MOST 1048576: true; the input reads as it did. -/
def repairTellsUptoRow : OpenClaim := { program := "yticeionjlknlcaa", sum := "062d05be424967212e2563d1fc691f0cd01fb3ca87db0d1f62a8e53481e621c1", func := "acequia/acequialaw19.RepairTells", spec := "repairTells", unfollowed := true, recurses := true, apart := false, narrowed := true }
def RepairTellsUptoSaid : Prop := repairTellsUptoRow.holds Try.pinned (OpenSpec.upto repairTellsSpec)

/-- 'acequialaw19.RepairOrder', WHERE WHAT IT READS IS OF BULK AT MOST 1048576: true; the input reads as it did. -/
def repairOrderUptoRow : OpenClaim := { program := "yticeionjlknlcaa", sum := "062d05be424967212e2563d1fc691f0cd01fb3ca87db0d1f62a8e53481e621c1", func := "acequia/acequialaw19.RepairOrder", spec := "repairOrder", unfollowed := true, recurses := true, apart := false, narrowed := true }
def RepairOrderUptoSaid : Prop := repairOrderUptoRow.holds Try.pinned (OpenSpec.upto repairOrderSpec)

/-- 'acequialaw19.RepairGreatest', WHERE WHAT IT READS IS OF BULK AT MOST 1048576: true; the input reads as it did. -/
def repairGreatestUptoRow : OpenClaim := { program := "yticeionjlknlcaa", sum := "062d05be424967212e2563d1fc691f0cd01fb3ca87db0d1f62a8e53481e621c1", func := "acequia/acequialaw19.RepairGreatest", spec := "repairGreatest", unfollowed := true, recurses := true, apart := false, narrowed := true }
def RepairGreatestUptoSaid : Prop := repairGreatestUptoRow.holds Try.pinned (OpenSpec.upto repairGreatestSpec)

/-- 'acequialaw19.RepairFlat', WHERE WHAT IT READS IS OF BULK AT MOST 1048576: true; the input reads as it did. -/
def repairFlatUptoRow : OpenClaim := { program := "yticeionjlknlcaa", sum := "062d05be424967212e2563d1fc691f0cd01fb3ca87db0d1f62a8e53481e621c1", func := "acequia/acequialaw19.RepairFlat", spec := "repairFlat", unfollowed := true, recurses := true, apart := false, narrowed := true }
def RepairFlatUptoSaid : Prop := repairFlatUptoRow.holds Try.pinned (OpenSpec.upto repairFlatSpec)

/-- 'acequialaw20.GlobalsDown', WHERE WHAT IT READS IS OF BULK AT MOST 1048576: true; the input reads as it did. -/
def globalsDownUptoRow : OpenClaim := { program := "yticeionjlknlcaa", sum := "062d05be424967212e2563d1fc691f0cd01fb3ca87db0d1f62a8e53481e621c1", func := "acequia/acequialaw20.GlobalsDown", spec := "globalsDown", unfollowed := true, recurses := true, apart := false, narrowed := true }
def GlobalsDownUptoSaid : Prop := globalsDownUptoRow.holds Try.pinned (OpenSpec.upto globalsDownSpec)

/-- 'acequialaw20.GlobalsExact', WHERE WHAT IT READS IS OF BULK AT MOST 1048576: true; the input reads as it did. -/
def globalsExactUptoRow : OpenClaim := { program := "yticeionjlknlcaa", sum := "062d05be424967212e2563d1fc691f0cd01fb3ca87db0d1f62a8e53481e621c1", func := "acequia/acequialaw20.GlobalsExact", spec := "globalsExact", unfollowed := true, recurses := true, apart := false, narrowed := true }
def GlobalsExactUptoSaid : Prop := globalsExactUptoRow.holds Try.pinned (OpenSpec.upto globalsExactSpec)

/-- 'acequialaw20.GlobalsRisen', WHERE WHAT IT READS IS OF BULK AT MOST 1048576: true; the input reads as it did. -/
def globalsRisenUptoRow : OpenClaim := { program := "yticeionjlknlcaa", sum := "062d05be424967212e2563d1fc691f0cd01fb3ca87db0d1f62a8e53481e621c1", func := "acequia/acequialaw20.GlobalsRisen", spec := "globalsRisen", unfollowed := true, recurses := true, apart := false, narrowed := true }
def GlobalsRisenUptoSaid : Prop := globalsRisenUptoRow.holds Try.pinned (OpenSpec.upto globalsRisenSpec)

/-- 'acequialaw20.GlobalsReach', WHERE WHAT IT READS IS OF BULK AT MOST 1048576: true; the input reads as it did. -/
def globalsReachUptoRow : OpenClaim := { program := "yticeionjlknlcaa", sum := "062d05be424967212e2563d1fc691f0cd01fb3ca87db0d1f62a8e53481e621c1", func := "acequia/acequialaw20.GlobalsReach", spec := "globalsReach", unfollowed := true, recurses := true, apart := false, narrowed := true }
def GlobalsReachUptoSaid : Prop := globalsReachUptoRow.holds Try.pinned (OpenSpec.upto globalsReachSpec)

/-- 'acequialaw20.GlobalsTell', WHERE WHAT IT READS IS OF BULK AT MOST 1048576: true; the input reads as it did. -/
def globalsTellUptoRow : OpenClaim := { program := "yticeionjlknlcaa", sum := "062d05be424967212e2563d1fc691f0cd01fb3ca87db0d1f62a8e53481e621c1", func := "acequia/acequialaw20.GlobalsTell", spec := "globalsTell", unfollowed := true, recurses := true, apart := false, narrowed := true }
def GlobalsTellUptoSaid : Prop := globalsTellUptoRow.holds Try.pinned (OpenSpec.upto globalsTellSpec)

end Rows
end Go.Proofs.Yticeionjlknlcaa
