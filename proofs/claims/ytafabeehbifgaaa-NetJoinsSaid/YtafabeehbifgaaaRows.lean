/-
  No cell of these rows narrows 'for every input' (looked for: loops, veiled, ifaces, maps, wideKeys, modest, calm, conditions, laid).
  DERIVED. THE GIVEN ROWS OF THIS SEAT. 5 by the template 'for every input the law returns true; each argument reads behind the call as it read before'; 0 by the template 'total and deterministic' (their statements: YtafabeehbifgaaaTotals.lean).
  GIVEN WITH THE SEED: the statements are not yours to turn. If you find one false, say at which input.
  Laid BY PROGRAM, IN A SANDBOX (cutbox-rows.mjs): the forced cells as the released guide's own fill.sh prints them over the translation 858a6df619559cdf… (all of the seat's roots in one cut). By AI agents, Wed Nov 11 2026. No macro, syntax, notation, axiom, sorry.
-/
import Derived.Test.YtafabeehbifgaaaChecked
import GoSem.Claim
import GoSem.ClaimJoined
import GoSem.ClaimMapViews
import Derived.JoinedTies
import Derived.KernelRfl
namespace Go.Proofs.Ytafabeehbifgaaa
/- THE CELL 'sum', in the pinned program and in every row, IS THE sha256 OF THE DUMP (.gsa) THAT YtafabeehbifgaaaProg.lean LOADS. Nothing in Lean hashes anything: it is a label: what it is worth is what the hold of that sum in a sandbox is worth. -/
noncomputable def Try.pinned : Pinned := { name := "ytafabeehbifgaaa", sum := "858a6df619559cdfe9f2d305872b1e54ce5feab9b89bcb13c8188e8b082d1afd", checked := Try.checked }
namespace Rows
def none {H : Type} : Left H := { results := [], args := [] }

/-- 'acequialaw01.NetFirst': WHATEVER THE INPUT: true; the input reads as it did. -/
def netFirstSpec : ChangeSpec := { name := "netFirst", fn := fun _ => fun
  | [d] => { results := [.lit (.bool true)], args := [d] }
  | _ => none }
def netFirstRow : OpenClaim := { program := "ytafabeehbifgaaa", sum := "858a6df619559cdfe9f2d305872b1e54ce5feab9b89bcb13c8188e8b082d1afd", func := "acequia/acequialaw01.NetFirst", spec := "netFirst", unfollowed := true, recurses := true, plainKeys := false, apart := false }
def NetFirstSaid : Prop := netFirstRow.holds Try.pinned (OpenSpec.ofChange netFirstSpec)

/-- ITS FALSE NEIGHBOUR: 'it returns false'. Refute it at one input. -/
def netFirstWrong : ChangeSpec := { name := "netFirst", fn := fun _ => fun
  | [d] => { results := [.lit (.bool false)], args := [d] }
  | _ => none }
def NetFirstWrongFalsely : Prop := netFirstRow.holds Try.pinned (OpenSpec.ofChange netFirstWrong)

/-- 'acequialaw01.NetSums': WHATEVER THE INPUT: true; the input reads as it did. -/
def netSumsSpec : ChangeSpec := { name := "netSums", fn := fun _ => fun
  | [d1, d2, d3] => { results := [.lit (.bool true)], args := [d1, d2, d3] }
  | _ => none }
def netSumsRow : OpenClaim := { program := "ytafabeehbifgaaa", sum := "858a6df619559cdfe9f2d305872b1e54ce5feab9b89bcb13c8188e8b082d1afd", func := "acequia/acequialaw01.NetSums", spec := "netSums", unfollowed := true, recurses := true, plainKeys := false, apart := false }
def NetSumsSaid : Prop := netSumsRow.holds Try.pinned (OpenSpec.ofChange netSumsSpec)

/-- ITS FALSE NEIGHBOUR: 'it returns false'. Refute it at one input. -/
def netSumsWrong : ChangeSpec := { name := "netSums", fn := fun _ => fun
  | [d1, d2, d3] => { results := [.lit (.bool false)], args := [d1, d2, d3] }
  | _ => none }
def NetSumsWrongFalsely : Prop := netSumsRow.holds Try.pinned (OpenSpec.ofChange netSumsWrong)

/-- 'acequialaw01.NetJoins': WHATEVER THE INPUT: true; the input reads as it did. -/
def netJoinsSpec : ChangeSpec := { name := "netJoins", fn := fun _ => fun
  | [d] => { results := [.lit (.bool true)], args := [d] }
  | _ => none }
def netJoinsRow : OpenClaim := { program := "ytafabeehbifgaaa", sum := "858a6df619559cdfe9f2d305872b1e54ce5feab9b89bcb13c8188e8b082d1afd", func := "acequia/acequialaw01.NetJoins", spec := "netJoins", unfollowed := true, recurses := true, plainKeys := false, apart := false }
def NetJoinsSaid : Prop := netJoinsRow.holds Try.pinned (OpenSpec.ofChange netJoinsSpec)

/-- ITS FALSE NEIGHBOUR: 'it returns false'. Refute it at one input. -/
def netJoinsWrong : ChangeSpec := { name := "netJoins", fn := fun _ => fun
  | [d] => { results := [.lit (.bool false)], args := [d] }
  | _ => none }
def NetJoinsWrongFalsely : Prop := netJoinsRow.holds Try.pinned (OpenSpec.ofChange netJoinsWrong)

/-- 'acequialaw01.NetCopies': WHATEVER THE INPUT: true; the input reads as it did. -/
def netCopiesSpec : ChangeSpec := { name := "netCopies", fn := fun _ => fun
  | [d1, d2, d3] => { results := [.lit (.bool true)], args := [d1, d2, d3] }
  | _ => none }
def netCopiesRow : OpenClaim := { program := "ytafabeehbifgaaa", sum := "858a6df619559cdfe9f2d305872b1e54ce5feab9b89bcb13c8188e8b082d1afd", func := "acequia/acequialaw01.NetCopies", spec := "netCopies", unfollowed := true, recurses := true, plainKeys := false, apart := false }
def NetCopiesSaid : Prop := netCopiesRow.holds Try.pinned (OpenSpec.ofChange netCopiesSpec)

/-- ITS FALSE NEIGHBOUR: 'it returns false'. Refute it at one input. -/
def netCopiesWrong : ChangeSpec := { name := "netCopies", fn := fun _ => fun
  | [d1, d2, d3] => { results := [.lit (.bool false)], args := [d1, d2, d3] }
  | _ => none }
def NetCopiesWrongFalsely : Prop := netCopiesRow.holds Try.pinned (OpenSpec.ofChange netCopiesWrong)

/-- 'acequialaw01.NetTurns': WHATEVER THE INPUT: true; the input reads as it did. -/
def netTurnsSpec : ChangeSpec := { name := "netTurns", fn := fun _ => fun
  | [d1, d2] => { results := [.lit (.bool true)], args := [d1, d2] }
  | _ => none }
def netTurnsRow : OpenClaim := { program := "ytafabeehbifgaaa", sum := "858a6df619559cdfe9f2d305872b1e54ce5feab9b89bcb13c8188e8b082d1afd", func := "acequia/acequialaw01.NetTurns", spec := "netTurns", unfollowed := true, recurses := true, plainKeys := false, apart := false }
def NetTurnsSaid : Prop := netTurnsRow.holds Try.pinned (OpenSpec.ofChange netTurnsSpec)

/-- ITS FALSE NEIGHBOUR: 'it returns false'. Refute it at one input. -/
def netTurnsWrong : ChangeSpec := { name := "netTurns", fn := fun _ => fun
  | [d1, d2] => { results := [.lit (.bool false)], args := [d1, d2] }
  | _ => none }
def NetTurnsWrongFalsely : Prop := netTurnsRow.holds Try.pinned (OpenSpec.ofChange netTurnsWrong)

/- THE SECOND FORM. 'bulk': how many values and letters a reading holds, each counted each time it is reached (what is shared counts as often as it is met; a slice's spare places count too). A statement '..UptoSaid' is the law's where the arguments, and the package variables that the reading takes, are together of bulk at most 1048576: NARROWER than '..Said'. Prove '..Said' where nothing that the law and all that it calls make is longer than what came in: it says more and counts as full. Else prove '..UptoSaid'. A law counts once. -/
mutual
def uptoBulk {H : Type} : DataW H → Nat
  | .lit (.string bytes) => bytes.length + 1
  | .lit _ => 1
  | .nil => 1
  | .ptr d => uptoBulk d + 1
  | .slice elems spare => uptoBulkAll elems + uptoBulkAll spare + 1
  | .agg parts => uptoBulkAll parts + 1
  | .iface _ d => uptoBulk d + 1
  | .map entries => uptoBulkEntries entries + 1
  | .held _ => 1
def uptoBulkAll {H : Type} : List (DataW H) → Nat
  | [] => 0
  | d :: r => uptoBulk d + uptoBulkAll r
def uptoBulkEntries {H : Type} : List (Lit × DataW H) → Nat
  | [] => 0
  | x :: r => uptoBulkEntry x + uptoBulkEntries r
def uptoBulkEntry {H : Type} : Lit × DataW H → Nat
  | (.string bytes, d) => bytes.length + uptoBulk d + 1
  | (_, d) => uptoBulk d + 1
 end
def uptoSmall : (H : Type) → List (DataW H) → Bool := fun _ ds => decide (uptoBulkAll ds ≤ 1048576)
def OpenSpec.upto (s : _root_.Go.ChangeSpec) : _root_.Go.OpenSpec := { _root_.Go.OpenSpec.ofChange s with cond := some uptoSmall }

/-- 'acequialaw01.NetFirst', WHERE WHAT IT READS IS OF BULK AT MOST 1048576: true; the input reads as it did. -/
def netFirstUptoRow : OpenClaim := { program := "ytafabeehbifgaaa", sum := "858a6df619559cdfe9f2d305872b1e54ce5feab9b89bcb13c8188e8b082d1afd", func := "acequia/acequialaw01.NetFirst", spec := "netFirst", unfollowed := true, recurses := true, plainKeys := false, apart := false, narrowed := true }
def NetFirstUptoSaid : Prop := netFirstUptoRow.holds Try.pinned (OpenSpec.upto netFirstSpec)

/-- 'acequialaw01.NetSums', WHERE WHAT IT READS IS OF BULK AT MOST 1048576: true; the input reads as it did. -/
def netSumsUptoRow : OpenClaim := { program := "ytafabeehbifgaaa", sum := "858a6df619559cdfe9f2d305872b1e54ce5feab9b89bcb13c8188e8b082d1afd", func := "acequia/acequialaw01.NetSums", spec := "netSums", unfollowed := true, recurses := true, plainKeys := false, apart := false, narrowed := true }
def NetSumsUptoSaid : Prop := netSumsUptoRow.holds Try.pinned (OpenSpec.upto netSumsSpec)

/-- 'acequialaw01.NetJoins', WHERE WHAT IT READS IS OF BULK AT MOST 1048576: true; the input reads as it did. -/
def netJoinsUptoRow : OpenClaim := { program := "ytafabeehbifgaaa", sum := "858a6df619559cdfe9f2d305872b1e54ce5feab9b89bcb13c8188e8b082d1afd", func := "acequia/acequialaw01.NetJoins", spec := "netJoins", unfollowed := true, recurses := true, plainKeys := false, apart := false, narrowed := true }
def NetJoinsUptoSaid : Prop := netJoinsUptoRow.holds Try.pinned (OpenSpec.upto netJoinsSpec)

/-- 'acequialaw01.NetCopies', WHERE WHAT IT READS IS OF BULK AT MOST 1048576: true; the input reads as it did. -/
def netCopiesUptoRow : OpenClaim := { program := "ytafabeehbifgaaa", sum := "858a6df619559cdfe9f2d305872b1e54ce5feab9b89bcb13c8188e8b082d1afd", func := "acequia/acequialaw01.NetCopies", spec := "netCopies", unfollowed := true, recurses := true, plainKeys := false, apart := false, narrowed := true }
def NetCopiesUptoSaid : Prop := netCopiesUptoRow.holds Try.pinned (OpenSpec.upto netCopiesSpec)

/-- 'acequialaw01.NetTurns', WHERE WHAT IT READS IS OF BULK AT MOST 1048576: true; the input reads as it did. -/
def netTurnsUptoRow : OpenClaim := { program := "ytafabeehbifgaaa", sum := "858a6df619559cdfe9f2d305872b1e54ce5feab9b89bcb13c8188e8b082d1afd", func := "acequia/acequialaw01.NetTurns", spec := "netTurns", unfollowed := true, recurses := true, plainKeys := false, apart := false, narrowed := true }
def NetTurnsUptoSaid : Prop := netTurnsUptoRow.holds Try.pinned (OpenSpec.upto netTurnsSpec)

end Rows
end Go.Proofs.Ytafabeehbifgaaa
