/-
  No cell of these rows narrows 'for every input' (looked for: loops, veiled, ifaces, maps, wideKeys, modest, calm, conditions, laid).
  DERIVED. THE GIVEN ROWS OF THIS SEAT. 8 by the template 'for every input the law returns true; each argument reads behind the call as it read before'; 0 by the template 'total and deterministic' (their statements: YtdgkemadhooogaaTotals.lean).
  GIVEN WITH THE SEED: the statements are not yours to turn. If you find one false, say at which input.
  Laid BY PROGRAM, IN A SANDBOX (cutbox-rows.mjs): the forced cells as the released guide's own fill.sh prints them over the translation c146595c24597451… (all of the seat's roots in one cut). By AI agents, Wed Nov 11 2026. No macro, syntax, notation, axiom, sorry.
-/
import Derived.Test.YtdgkemadhooogaaChecked
import GoSem.Claim
import GoSem.ClaimJoined
import GoSem.ClaimMapViews
import Derived.JoinedTies
import Derived.KernelRfl
namespace Go.Proofs.Ytdgkemadhooogaa
/- THE CELL 'sum', in the pinned program and in every row, IS THE sha256 OF THE DUMP (.gsa) THAT YtdgkemadhooogaaProg.lean LOADS. Nothing in Lean hashes anything: it is a label: what it is worth is what the hold of that sum in a sandbox is worth. -/
noncomputable def Try.pinned : Pinned := { name := "ytdgkemadhooogaa", sum := "c146595c245974514341aaefc45ede22bb3e5fd511ea08bc89febd8f8892f985", checked := Try.checked }
namespace Rows
def none {H : Type} : Left H := { results := [], args := [] }

/-- 'acequialaw11.DequeOnce': WHATEVER THE INPUT: true; the input reads as it did. -/
def dequeOnceSpec : ChangeSpec := { name := "dequeOnce", fn := fun _ => fun
  | [d1, d2] => { results := [.lit (.bool true)], args := [d1, d2] }
  | _ => none }
def dequeOnceRow : OpenClaim := { program := "ytdgkemadhooogaa", sum := "c146595c245974514341aaefc45ede22bb3e5fd511ea08bc89febd8f8892f985", func := "acequia/acequialaw11.DequeOnce", spec := "dequeOnce", inPlace := ["sync/atomic.LoadInt64", "sync/atomic.StoreInt64", "sync/atomic.CompareAndSwapInt64"], unfollowed := true, recurses := true, apart := false }
def DequeOnceSaid : Prop := dequeOnceRow.holds Try.pinned (OpenSpec.ofChange dequeOnceSpec)

/-- ITS FALSE NEIGHBOUR: 'it returns false'. Refute it at one input. -/
def dequeOnceWrong : ChangeSpec := { name := "dequeOnce", fn := fun _ => fun
  | [d1, d2] => { results := [.lit (.bool false)], args := [d1, d2] }
  | _ => none }
def DequeOnceWrongFalsely : Prop := dequeOnceRow.holds Try.pinned (OpenSpec.ofChange dequeOnceWrong)

/-- 'acequialaw11.DequeAlone': WHATEVER THE INPUT: true; the input reads as it did. -/
def dequeAloneSpec : ChangeSpec := { name := "dequeAlone", fn := fun _ => fun
  | [d1, d2] => { results := [.lit (.bool true)], args := [d1, d2] }
  | _ => none }
def dequeAloneRow : OpenClaim := { program := "ytdgkemadhooogaa", sum := "c146595c245974514341aaefc45ede22bb3e5fd511ea08bc89febd8f8892f985", func := "acequia/acequialaw11.DequeAlone", spec := "dequeAlone", inPlace := ["sync/atomic.LoadInt64"], unfollowed := true, recurses := true, apart := false }
def DequeAloneSaid : Prop := dequeAloneRow.holds Try.pinned (OpenSpec.ofChange dequeAloneSpec)

/-- ITS FALSE NEIGHBOUR: 'it returns false'. Refute it at one input. -/
def dequeAloneWrong : ChangeSpec := { name := "dequeAlone", fn := fun _ => fun
  | [d1, d2] => { results := [.lit (.bool false)], args := [d1, d2] }
  | _ => none }
def DequeAloneWrongFalsely : Prop := dequeAloneRow.holds Try.pinned (OpenSpec.ofChange dequeAloneWrong)

/-- 'acequialaw11.DequeLast': WHATEVER THE INPUT: true; the input reads as it did. -/
def dequeLastSpec : ChangeSpec := { name := "dequeLast", fn := fun _ => fun
  | [d1, d2, d3, d4] => { results := [.lit (.bool true)], args := [d1, d2, d3, d4] }
  | _ => none }
def dequeLastRow : OpenClaim := { program := "ytdgkemadhooogaa", sum := "c146595c245974514341aaefc45ede22bb3e5fd511ea08bc89febd8f8892f985", func := "acequia/acequialaw11.DequeLast", spec := "dequeLast", inPlace := ["sync/atomic.LoadInt64"], unfollowed := true, recurses := true, apart := false }
def DequeLastSaid : Prop := dequeLastRow.holds Try.pinned (OpenSpec.ofChange dequeLastSpec)

/-- ITS FALSE NEIGHBOUR: 'it returns false'. Refute it at one input. -/
def dequeLastWrong : ChangeSpec := { name := "dequeLast", fn := fun _ => fun
  | [d1, d2, d3, d4] => { results := [.lit (.bool false)], args := [d1, d2, d3, d4] }
  | _ => none }
def DequeLastWrongFalsely : Prop := dequeLastRow.holds Try.pinned (OpenSpec.ofChange dequeLastWrong)

/-- 'acequialaw11.DequeDone': WHATEVER THE INPUT: true; the input reads as it did. -/
def dequeDoneSpec : ChangeSpec := { name := "dequeDone", fn := fun _ => fun
  | [d1, d2, d3, d4, d5] => { results := [.lit (.bool true)], args := [d1, d2, d3, d4, d5] }
  | _ => none }
def dequeDoneRow : OpenClaim := { program := "ytdgkemadhooogaa", sum := "c146595c245974514341aaefc45ede22bb3e5fd511ea08bc89febd8f8892f985", func := "acequia/acequialaw11.DequeDone", spec := "dequeDone", inPlace := ["sync/atomic.LoadInt64"], unfollowed := true, recurses := true, apart := false }
def DequeDoneSaid : Prop := dequeDoneRow.holds Try.pinned (OpenSpec.ofChange dequeDoneSpec)

/-- ITS FALSE NEIGHBOUR: 'it returns false'. Refute it at one input. -/
def dequeDoneWrong : ChangeSpec := { name := "dequeDone", fn := fun _ => fun
  | [d1, d2, d3, d4, d5] => { results := [.lit (.bool false)], args := [d1, d2, d3, d4, d5] }
  | _ => none }
def DequeDoneWrongFalsely : Prop := dequeDoneRow.holds Try.pinned (OpenSpec.ofChange dequeDoneWrong)

/-- 'acequialaw11.DequeTells': WHATEVER THE INPUT: true; the input reads as it did. -/
def dequeTellsSpec : ChangeSpec := { name := "dequeTells", fn := fun _ => fun
  | [d1, d2, d3, d4] => { results := [.lit (.bool true)], args := [d1, d2, d3, d4] }
  | _ => none }
def dequeTellsRow : OpenClaim := { program := "ytdgkemadhooogaa", sum := "c146595c245974514341aaefc45ede22bb3e5fd511ea08bc89febd8f8892f985", func := "acequia/acequialaw11.DequeTells", spec := "dequeTells", inPlace := ["sync/atomic.LoadInt64", "sync/atomic.StoreInt64", "sync/atomic.CompareAndSwapInt64"], unfollowed := true, recurses := true, apart := false }
def DequeTellsSaid : Prop := dequeTellsRow.holds Try.pinned (OpenSpec.ofChange dequeTellsSpec)

/-- ITS FALSE NEIGHBOUR: 'it returns false'. Refute it at one input. -/
def dequeTellsWrong : ChangeSpec := { name := "dequeTells", fn := fun _ => fun
  | [d1, d2, d3, d4] => { results := [.lit (.bool false)], args := [d1, d2, d3, d4] }
  | _ => none }
def DequeTellsWrongFalsely : Prop := dequeTellsRow.holds Try.pinned (OpenSpec.ofChange dequeTellsWrong)

/-- 'acequialaw21.DealAgain': WHATEVER THE INPUT: true; the input reads as it did. -/
def dealAgainSpec : ChangeSpec := { name := "dealAgain", fn := fun _ => fun
  | [d1, d2, d3, d4, d5, d6, d7] => { results := [.lit (.bool true)], args := [d1, d2, d3, d4, d5, d6, d7] }
  | _ => none }
def dealAgainRow : OpenClaim := { program := "ytdgkemadhooogaa", sum := "c146595c245974514341aaefc45ede22bb3e5fd511ea08bc89febd8f8892f985", func := "acequia/acequialaw21.DealAgain", spec := "dealAgain", inPlace := ["sync/atomic.StoreInt64", "sync/atomic.LoadInt64", "sync/atomic.AddInt64"], unfollowed := true, recurses := true, apart := false }
def DealAgainSaid : Prop := dealAgainRow.holds Try.pinned (OpenSpec.ofChange dealAgainSpec)

/-- ITS FALSE NEIGHBOUR: 'it returns false'. Refute it at one input. -/
def dealAgainWrong : ChangeSpec := { name := "dealAgain", fn := fun _ => fun
  | [d1, d2, d3, d4, d5, d6, d7] => { results := [.lit (.bool false)], args := [d1, d2, d3, d4, d5, d6, d7] }
  | _ => none }
def DealAgainWrongFalsely : Prop := dealAgainRow.holds Try.pinned (OpenSpec.ofChange dealAgainWrong)

/-- 'acequialaw21.DealOnce': WHATEVER THE INPUT: true; the input reads as it did. -/
def dealOnceSpec : ChangeSpec := { name := "dealOnce", fn := fun _ => fun
  | [d1, d2, d3, d4, d5, d6] => { results := [.lit (.bool true)], args := [d1, d2, d3, d4, d5, d6] }
  | _ => none }
def dealOnceRow : OpenClaim := { program := "ytdgkemadhooogaa", sum := "c146595c245974514341aaefc45ede22bb3e5fd511ea08bc89febd8f8892f985", func := "acequia/acequialaw21.DealOnce", spec := "dealOnce", inPlace := ["sync/atomic.StoreInt64", "sync/atomic.AddInt64", "sync/atomic.LoadInt64"], unfollowed := true, recurses := true, apart := false }
def DealOnceSaid : Prop := dealOnceRow.holds Try.pinned (OpenSpec.ofChange dealOnceSpec)

/-- ITS FALSE NEIGHBOUR: 'it returns false'. Refute it at one input. -/
def dealOnceWrong : ChangeSpec := { name := "dealOnce", fn := fun _ => fun
  | [d1, d2, d3, d4, d5, d6] => { results := [.lit (.bool false)], args := [d1, d2, d3, d4, d5, d6] }
  | _ => none }
def DealOnceWrongFalsely : Prop := dealOnceRow.holds Try.pinned (OpenSpec.ofChange dealOnceWrong)

/-- 'acequialaw21.DealTakes': WHATEVER THE INPUT: true; the input reads as it did. -/
def dealTakesSpec : ChangeSpec := { name := "dealTakes", fn := fun _ => fun
  | [d1, d2, d3, d4, d5, d6] => { results := [.lit (.bool true)], args := [d1, d2, d3, d4, d5, d6] }
  | _ => none }
def dealTakesRow : OpenClaim := { program := "ytdgkemadhooogaa", sum := "c146595c245974514341aaefc45ede22bb3e5fd511ea08bc89febd8f8892f985", func := "acequia/acequialaw21.DealTakes", spec := "dealTakes", inPlace := ["sync/atomic.StoreInt64", "sync/atomic.AddInt64", "sync/atomic.LoadInt64", "sync/atomic.CompareAndSwapInt64"], unfollowed := true, recurses := true, apart := false }
def DealTakesSaid : Prop := dealTakesRow.holds Try.pinned (OpenSpec.ofChange dealTakesSpec)

/-- ITS FALSE NEIGHBOUR: 'it returns false'. Refute it at one input. -/
def dealTakesWrong : ChangeSpec := { name := "dealTakes", fn := fun _ => fun
  | [d1, d2, d3, d4, d5, d6] => { results := [.lit (.bool false)], args := [d1, d2, d3, d4, d5, d6] }
  | _ => none }
def DealTakesWrongFalsely : Prop := dealTakesRow.holds Try.pinned (OpenSpec.ofChange dealTakesWrong)

/- THE SECOND FORM. 'bulk': how many values and letters a reading holds, each counted each time it is reached (what is shared counts as often as it is met; a slice's spare places count too). A statement '..UptoSaid' is the law's where the arguments, and the package variables that the reading takes, are together of bulk at most 1048576: NARROWER than '..Said'. Prove '..Said' where nothing that the law and all that it calls make is longer than what came in: it says more and counts as full. Else prove '..UptoSaid'. A law counts once. -/
mutual
def uptoBulk {H : Type} : DataW H → Nat
  | .lit (.string bytes) => bytes.length + 1
  | .lit _ => 1
  | .nil => 1
  | .ptr d => uptoBulk d + 1
  | .slice elems spare => uptoBulkAll elems + uptoBulkAll spare + 1
  | .agg parts => uptoBulkAll parts + 1
  | .iface _ d => uptoBulk d + 1
  | .map entries => uptoBulkEntries entries + 1
  | .held _ => 1
def uptoBulkAll {H : Type} : List (DataW H) → Nat
  | [] => 0
  | d :: r => uptoBulk d + uptoBulkAll r
def uptoBulkEntries {H : Type} : List (Lit × DataW H) → Nat
  | [] => 0
  | x :: r => uptoBulkEntry x + uptoBulkEntries r
def uptoBulkEntry {H : Type} : Lit × DataW H → Nat
  | (.string bytes, d) => bytes.length + uptoBulk d + 1
  | (_, d) => uptoBulk d + 1
 end
def uptoSmall : (H : Type) → List (DataW H) → Bool := fun _ ds => decide (uptoBulkAll ds ≤ 1048576)
def OpenSpec.upto (s : _root_.Go.ChangeSpec) : _root_.Go.OpenSpec := { _root_.Go.OpenSpec.ofChange s with cond := some uptoSmall }

/-- 'acequialaw11.DequeOnce', WHERE WHAT IT READS IS OF BULK AT MOST 1048576: true; the input reads as it did. -/
def dequeOnceUptoRow : OpenClaim := { program := "ytdgkemadhooogaa", sum := "c146595c245974514341aaefc45ede22bb3e5fd511ea08bc89febd8f8892f985", func := "acequia/acequialaw11.DequeOnce", spec := "dequeOnce", inPlace := ["sync/atomic.LoadInt64", "sync/atomic.StoreInt64", "sync/atomic.CompareAndSwapInt64"], unfollowed := true, recurses := true, apart := false, narrowed := true }
def DequeOnceUptoSaid : Prop := dequeOnceUptoRow.holds Try.pinned (OpenSpec.upto dequeOnceSpec)

/-- 'acequialaw11.DequeAlone', WHERE WHAT IT READS IS OF BULK AT MOST 1048576: true; the input reads as it did. -/
def dequeAloneUptoRow : OpenClaim := { program := "ytdgkemadhooogaa", sum := "c146595c245974514341aaefc45ede22bb3e5fd511ea08bc89febd8f8892f985", func := "acequia/acequialaw11.DequeAlone", spec := "dequeAlone", inPlace := ["sync/atomic.LoadInt64"], unfollowed := true, recurses := true, apart := false, narrowed := true }
def DequeAloneUptoSaid : Prop := dequeAloneUptoRow.holds Try.pinned (OpenSpec.upto dequeAloneSpec)

/-- 'acequialaw11.DequeLast', WHERE WHAT IT READS IS OF BULK AT MOST 1048576: true; the input reads as it did. -/
def dequeLastUptoRow : OpenClaim := { program := "ytdgkemadhooogaa", sum := "c146595c245974514341aaefc45ede22bb3e5fd511ea08bc89febd8f8892f985", func := "acequia/acequialaw11.DequeLast", spec := "dequeLast", inPlace := ["sync/atomic.LoadInt64"], unfollowed := true, recurses := true, apart := false, narrowed := true }
def DequeLastUptoSaid : Prop := dequeLastUptoRow.holds Try.pinned (OpenSpec.upto dequeLastSpec)

/-- 'acequialaw11.DequeDone', WHERE WHAT IT READS IS OF BULK AT MOST 1048576: true; the input reads as it did. -/
def dequeDoneUptoRow : OpenClaim := { program := "ytdgkemadhooogaa", sum := "c146595c245974514341aaefc45ede22bb3e5fd511ea08bc89febd8f8892f985", func := "acequia/acequialaw11.DequeDone", spec := "dequeDone", inPlace := ["sync/atomic.LoadInt64"], unfollowed := true, recurses := true, apart := false, narrowed := true }
def DequeDoneUptoSaid : Prop := dequeDoneUptoRow.holds Try.pinned (OpenSpec.upto dequeDoneSpec)

/-- 'acequialaw11.DequeTells', WHERE WHAT IT READS IS OF BULK AT MOST 1048576: true; the input reads as it did. -/
def dequeTellsUptoRow : OpenClaim := { program := "ytdgkemadhooogaa", sum := "c146595c245974514341aaefc45ede22bb3e5fd511ea08bc89febd8f8892f985", func := "acequia/acequialaw11.DequeTells", spec := "dequeTells", inPlace := ["sync/atomic.LoadInt64", "sync/atomic.StoreInt64", "sync/atomic.CompareAndSwapInt64"], unfollowed := true, recurses := true, apart := false, narrowed := true }
def DequeTellsUptoSaid : Prop := dequeTellsUptoRow.holds Try.pinned (OpenSpec.upto dequeTellsSpec)

/-- 'acequialaw21.DealAgain', WHERE WHAT IT READS IS OF BULK AT MOST 1048576: true; the input reads as it did. -/
def dealAgainUptoRow : OpenClaim := { program := "ytdgkemadhooogaa", sum := "c146595c245974514341aaefc45ede22bb3e5fd511ea08bc89febd8f8892f985", func := "acequia/acequialaw21.DealAgain", spec := "dealAgain", inPlace := ["sync/atomic.StoreInt64", "sync/atomic.LoadInt64", "sync/atomic.AddInt64"], unfollowed := true, recurses := true, apart := false, narrowed := true }
def DealAgainUptoSaid : Prop := dealAgainUptoRow.holds Try.pinned (OpenSpec.upto dealAgainSpec)

/-- 'acequialaw21.DealOnce', WHERE WHAT IT READS IS OF BULK AT MOST 1048576: true; the input reads as it did. -/
def dealOnceUptoRow : OpenClaim := { program := "ytdgkemadhooogaa", sum := "c146595c245974514341aaefc45ede22bb3e5fd511ea08bc89febd8f8892f985", func := "acequia/acequialaw21.DealOnce", spec := "dealOnce", inPlace := ["sync/atomic.StoreInt64", "sync/atomic.AddInt64", "sync/atomic.LoadInt64"], unfollowed := true, recurses := true, apart := false, narrowed := true }
def DealOnceUptoSaid : Prop := dealOnceUptoRow.holds Try.pinned (OpenSpec.upto dealOnceSpec)

/-- 'acequialaw21.DealTakes', WHERE WHAT IT READS IS OF BULK AT MOST 1048576: true; the input reads as it did. -/
def dealTakesUptoRow : OpenClaim := { program := "ytdgkemadhooogaa", sum := "c146595c245974514341aaefc45ede22bb3e5fd511ea08bc89febd8f8892f985", func := "acequia/acequialaw21.DealTakes", spec := "dealTakes", inPlace := ["sync/atomic.StoreInt64", "sync/atomic.AddInt64", "sync/atomic.LoadInt64", "sync/atomic.CompareAndSwapInt64"], unfollowed := true, recurses := true, apart := false, narrowed := true }
def DealTakesUptoSaid : Prop := dealTakesUptoRow.holds Try.pinned (OpenSpec.upto dealTakesSpec)

end Rows
end Go.Proofs.Ytdgkemadhooogaa
