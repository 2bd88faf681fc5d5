/-
  No cell of these rows narrows 'for every input' (looked for: loops, veiled, ifaces, maps, wideKeys, modest, calm, conditions, laid).
  DERIVED. THE GIVEN ROWS OF THIS SEAT. 5 by the template 'for every input the law returns true; each argument reads behind the call as it read before'; 0 by the template 'total and deterministic' (their statements: YtdhimfkmgcfohaaTotals.lean).
  GIVEN WITH THE SEED: the statements are not yours to turn. If you find one false, say at which input.
  Laid BY PROGRAM, IN A SANDBOX (cutbox-rows.mjs): the forced cells as the released guide's own fill.sh prints them over the translation ee9b52016469201e… (all of the seat's roots in one cut). By AI agents, Wed Nov 11 2026. No macro, syntax, notation, axiom, sorry.
-/
import Derived.Test.YtdhimfkmgcfohaaChecked
import GoSem.Claim
import GoSem.ClaimJoined
import GoSem.ClaimMapViews
import Derived.JoinedTies
import Derived.KernelRfl
namespace Go.Proofs.Ytdhimfkmgcfohaa
/- THE CELL 'sum', in the pinned program and in every row, IS THE sha256 OF THE DUMP (.gsa) THAT YtdhimfkmgcfohaaProg.lean LOADS. Nothing in Lean hashes anything: it is a label: what it is worth is what the hold of that sum in a sandbox is worth. -/
noncomputable def Try.pinned : Pinned := { name := "ytdhimfkmgcfohaa", sum := "ee9b52016469201ec3aa29963ee18590df9ebe55651618621038d0f8efff4fdc", checked := Try.checked }
namespace Rows
def none {H : Type} : Left H := { results := [], args := [] }

/-- 'acequialaw09.RelaxedTells': WHATEVER THE INPUT: true; the input reads as it did. -/
def relaxedTellsSpec : ChangeSpec := { name := "relaxedTells", fn := fun _ => fun
  | [d1, d2, d3] => { results := [.lit (.bool true)], args := [d1, d2, d3] }
  | _ => none }
def relaxedTellsRow : OpenClaim := { program := "ytdhimfkmgcfohaa", sum := "ee9b52016469201ec3aa29963ee18590df9ebe55651618621038d0f8efff4fdc", func := "acequia/acequialaw09.RelaxedTells", spec := "relaxedTells", unfollowed := true, recurses := true, apart := false }
def RelaxedTellsSaid : Prop := relaxedTellsRow.holds Try.pinned (OpenSpec.ofChange relaxedTellsSpec)

/-- ITS FALSE NEIGHBOUR: 'it returns false'. Refute it at one input. -/
def relaxedTellsWrong : ChangeSpec := { name := "relaxedTells", fn := fun _ => fun
  | [d1, d2, d3] => { results := [.lit (.bool false)], args := [d1, d2, d3] }
  | _ => none }
def RelaxedTellsWrongFalsely : Prop := relaxedTellsRow.holds Try.pinned (OpenSpec.ofChange relaxedTellsWrong)

/-- 'acequialaw09.RelaxedSound': WHATEVER THE INPUT: true; the input reads as it did. -/
def relaxedSoundSpec : ChangeSpec := { name := "relaxedSound", fn := fun _ => fun
  | [d1, d2] => { results := [.lit (.bool true)], args := [d1, d2] }
  | _ => none }
def relaxedSoundRow : OpenClaim := { program := "ytdhimfkmgcfohaa", sum := "ee9b52016469201ec3aa29963ee18590df9ebe55651618621038d0f8efff4fdc", func := "acequia/acequialaw09.RelaxedSound", spec := "relaxedSound", unfollowed := true, recurses := true, apart := false }
def RelaxedSoundSaid : Prop := relaxedSoundRow.holds Try.pinned (OpenSpec.ofChange relaxedSoundSpec)

/-- ITS FALSE NEIGHBOUR: 'it returns false'. Refute it at one input. -/
def relaxedSoundWrong : ChangeSpec := { name := "relaxedSound", fn := fun _ => fun
  | [d1, d2] => { results := [.lit (.bool false)], args := [d1, d2] }
  | _ => none }
def RelaxedSoundWrongFalsely : Prop := relaxedSoundRow.holds Try.pinned (OpenSpec.ofChange relaxedSoundWrong)

/-- 'acequialaw09.RelaxedApart': WHATEVER THE INPUT: true; the input reads as it did. -/
def relaxedApartSpec : ChangeSpec := { name := "relaxedApart", fn := fun _ => fun
  | [d1, d2, d3, d4] => { results := [.lit (.bool true)], args := [d1, d2, d3, d4] }
  | _ => none }
def relaxedApartRow : OpenClaim := { program := "ytdhimfkmgcfohaa", sum := "ee9b52016469201ec3aa29963ee18590df9ebe55651618621038d0f8efff4fdc", func := "acequia/acequialaw09.RelaxedApart", spec := "relaxedApart", unfollowed := true, recurses := true, apart := false }
def RelaxedApartSaid : Prop := relaxedApartRow.holds Try.pinned (OpenSpec.ofChange relaxedApartSpec)

/-- ITS FALSE NEIGHBOUR: 'it returns false'. Refute it at one input. -/
def relaxedApartWrong : ChangeSpec := { name := "relaxedApart", fn := fun _ => fun
  | [d1, d2, d3, d4] => { results := [.lit (.bool false)], args := [d1, d2, d3, d4] }
  | _ => none }
def RelaxedApartWrongFalsely : Prop := relaxedApartRow.holds Try.pinned (OpenSpec.ofChange relaxedApartWrong)

/-- 'acequialaw09.RelaxedValid': WHATEVER THE INPUT: true; the input reads as it did. -/
def relaxedValidSpec : ChangeSpec := { name := "relaxedValid", fn := fun _ => fun
  | [d1, d2] => { results := [.lit (.bool true)], args := [d1, d2] }
  | _ => none }
def relaxedValidRow : OpenClaim := { program := "ytdhimfkmgcfohaa", sum := "ee9b52016469201ec3aa29963ee18590df9ebe55651618621038d0f8efff4fdc", func := "acequia/acequialaw09.RelaxedValid", spec := "relaxedValid", unfollowed := true, recurses := true, apart := false }
def RelaxedValidSaid : Prop := relaxedValidRow.holds Try.pinned (OpenSpec.ofChange relaxedValidSpec)

/-- ITS FALSE NEIGHBOUR: 'it returns false'. Refute it at one input. -/
def relaxedValidWrong : ChangeSpec := { name := "relaxedValid", fn := fun _ => fun
  | [d1, d2] => { results := [.lit (.bool false)], args := [d1, d2] }
  | _ => none }
def RelaxedValidWrongFalsely : Prop := relaxedValidRow.holds Try.pinned (OpenSpec.ofChange relaxedValidWrong)

/-- 'acequialaw09.RelaxedStrict': WHATEVER THE INPUT: true; the input reads as it did. -/
def relaxedStrictSpec : ChangeSpec := { name := "relaxedStrict", fn := fun _ => fun
  | [d1, d2, d3] => { results := [.lit (.bool true)], args := [d1, d2, d3] }
  | _ => none }
def relaxedStrictRow : OpenClaim := { program := "ytdhimfkmgcfohaa", sum := "ee9b52016469201ec3aa29963ee18590df9ebe55651618621038d0f8efff4fdc", func := "acequia/acequialaw09.RelaxedStrict", spec := "relaxedStrict", unfollowed := true, recurses := true, apart := false }
def RelaxedStrictSaid : Prop := relaxedStrictRow.holds Try.pinned (OpenSpec.ofChange relaxedStrictSpec)

/-- ITS FALSE NEIGHBOUR: 'it returns false'. Refute it at one input. -/
def relaxedStrictWrong : ChangeSpec := { name := "relaxedStrict", fn := fun _ => fun
  | [d1, d2, d3] => { results := [.lit (.bool false)], args := [d1, d2, d3] }
  | _ => none }
def RelaxedStrictWrongFalsely : Prop := relaxedStrictRow.holds Try.pinned (OpenSpec.ofChange relaxedStrictWrong)

/- THE SECOND FORM. 'bulk': how many values and letters a reading holds, each counted each time it is reached (what is shared counts as often as it is met; a slice's spare places count too). A statement '..UptoSaid' is the law's where the arguments, and the package variables that the reading takes, are together of bulk at most 1048576: NARROWER than '..Said'. Prove '..Said' where nothing that the law and all that it calls make is longer than what came in: it says more and counts as full. Else prove '..UptoSaid'. A law counts once. -/
mutual
def uptoBulk {H : Type} : DataW H → Nat
  | .lit (.string bytes) => bytes.length + 1
  | .lit _ => 1
  | .nil => 1
  | .ptr d => uptoBulk d + 1
  | .slice elems spare => uptoBulkAll elems + uptoBulkAll spare + 1
  | .agg parts => uptoBulkAll parts + 1
  | .iface _ d => uptoBulk d + 1
  | .map entries => uptoBulkEntries entries + 1
  | .held _ => 1
def uptoBulkAll {H : Type} : List (DataW H) → Nat
  | [] => 0
  | d :: r => uptoBulk d + uptoBulkAll r
def uptoBulkEntries {H : Type} : List (Lit × DataW H) → Nat
  | [] => 0
  | x :: r => uptoBulkEntry x + uptoBulkEntries r
def uptoBulkEntry {H : Type} : Lit × DataW H → Nat
  | (.string bytes, d) => bytes.length + uptoBulk d + 1
  | (_, d) => uptoBulk d + 1
 end
def uptoSmall : (H : Type) → List (DataW H) → Bool := fun _ ds => decide (uptoBulkAll ds ≤ 1048576)
def OpenSpec.upto (s : _root_.Go.ChangeSpec) : _root_.Go.OpenSpec := { _root_.Go.OpenSpec.ofChange s with cond := some uptoSmall }

/-- 'acequialaw09.RelaxedTells', WHERE WHAT IT READS IS OF BULK AT MOST 1048576: true; the input reads as it did. -/
def relaxedTellsUptoRow : OpenClaim := { program := "ytdhimfkmgcfohaa", sum := "ee9b52016469201ec3aa29963ee18590df9ebe55651618621038d0f8efff4fdc", func := "acequia/acequialaw09.RelaxedTells", spec := "relaxedTells", unfollowed := true, recurses := true, apart := false, narrowed := true }
def RelaxedTellsUptoSaid : Prop := relaxedTellsUptoRow.holds Try.pinned (OpenSpec.upto relaxedTellsSpec)

/-- 'acequialaw09.RelaxedSound', WHERE WHAT IT READS IS OF BULK AT MOST 1048576: true; the input reads as it did. -/
def relaxedSoundUptoRow : OpenClaim := { program := "ytdhimfkmgcfohaa", sum := "ee9b52016469201ec3aa29963ee18590df9ebe55651618621038d0f8efff4fdc", func := "acequia/acequialaw09.RelaxedSound", spec := "relaxedSound", unfollowed := true, recurses := true, apart := false, narrowed := true }
def RelaxedSoundUptoSaid : Prop := relaxedSoundUptoRow.holds Try.pinned (OpenSpec.upto relaxedSoundSpec)

/-- 'acequialaw09.RelaxedApart', WHERE WHAT IT READS IS OF BULK AT MOST 1048576: true; the input reads as it did. -/
def relaxedApartUptoRow : OpenClaim := { program := "ytdhimfkmgcfohaa", sum := "ee9b52016469201ec3aa29963ee18590df9ebe55651618621038d0f8efff4fdc", func := "acequia/acequialaw09.RelaxedApart", spec := "relaxedApart", unfollowed := true, recurses := true, apart := false, narrowed := true }
def RelaxedApartUptoSaid : Prop := relaxedApartUptoRow.holds Try.pinned (OpenSpec.upto relaxedApartSpec)

/-- 'acequialaw09.RelaxedValid', WHERE WHAT IT READS IS OF BULK AT MOST 1048576: true; the input reads as it did. -/
def relaxedValidUptoRow : OpenClaim := { program := "ytdhimfkmgcfohaa", sum := "ee9b52016469201ec3aa29963ee18590df9ebe55651618621038d0f8efff4fdc", func := "acequia/acequialaw09.RelaxedValid", spec := "relaxedValid", unfollowed := true, recurses := true, apart := false, narrowed := true }
def RelaxedValidUptoSaid : Prop := relaxedValidUptoRow.holds Try.pinned (OpenSpec.upto relaxedValidSpec)

/-- 'acequialaw09.RelaxedStrict', WHERE WHAT IT READS IS OF BULK AT MOST 1048576: true; the input reads as it did. -/
def relaxedStrictUptoRow : OpenClaim := { program := "ytdhimfkmgcfohaa", sum := "ee9b52016469201ec3aa29963ee18590df9ebe55651618621038d0f8efff4fdc", func := "acequia/acequialaw09.RelaxedStrict", spec := "relaxedStrict", unfollowed := true, recurses := true, apart := false, narrowed := true }
def RelaxedStrictUptoSaid : Prop := relaxedStrictUptoRow.holds Try.pinned (OpenSpec.upto relaxedStrictSpec)

end Rows
end Go.Proofs.Ytdhimfkmgcfohaa
