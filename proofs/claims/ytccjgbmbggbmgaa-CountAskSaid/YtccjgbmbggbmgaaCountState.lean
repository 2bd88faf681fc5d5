/- What the laws of layer 13 keep: the bank, the plan's box, the rest. -/
import Derived.Test.YtccjgbmbggbmgaaAwake13
import Derived.Test.YtccjgbmbggbmgaaOpen
namespace Go.Proofs.Ytccjgbmbggbmgaa
set_option linter.unusedVariables false
open Go.RowKit

theorem wrap64_id (n : Int) (h : -9223372036854775808 ≤ n ∧ n ≤ 9223372036854775807) : wrap64 n = n := by unfold wrap64; omega
structure CS (w : World) (bb g pb : Nat) (xs : List Int) (wx : World) : Prop where
  bank : Bnk wx bb g xs
  box : LBox wx pb
  kp : Kept w wx
  ne : ¬ pb = g
  old : w.heap.size ≤ g
  old2 : w.heap.size ≤ pb
theorem CS.acc {w wx w' : World} {bb g pb : Nat} {xs ys : List Int} (h : CS w bb g pb xs wx) (hB : Bnk w' bb g ys) (hU : Upd (fun k => k = g) wx w') : CS w bb g pb ys w' :=
  ⟨hB, Blk.upd h.box hU h.ne, h.kp.then hU (fun i hi e => by have := h.old; omega), h.ne, h.old, h.old2⟩
theorem CS.kept {w wx w' : World} {bb g pb : Nat} {xs : List Int} (h : CS w bb g pb xs wx) (hk : Kept wx w') : CS w bb g pb xs w' :=
  ⟨h.bank.kept hk, Blk.kept h.box hk, h.kp.trans hk, h.ne, h.old, h.old2⟩
theorem CS.alloc {w wx : World} {bb g pb : Nat} {xs : List Int} (h : CS w bb g pb xs wx) (o : Obj) : CS w bb g pb xs (wx.alloc o) := h.kept ((Upd.refl _ _).alloc o)
theorem CS.step {w wx w' : World} {mb bb g pb : Nat} {fv : Value} {T : TypeId} {xs ys : List Int} {z : Bool} (h : CS w bb g pb xs wx) (hS : Stepped mb bb g fv T ys z wx w') (h1 : ¬ mb = pb) (h2 : w.heap.size ≤ mb) : CS w bb g pb ys w' :=
  ⟨hS.bank, Blk.upd h.box hS.upd (fun e => by have := h.ne; rcases e with e | e; exact this e; exact h1 e.symm), h.kp.then hS.upd (fun i hi e => by have := h.old; rcases e with e | e <;> omega), h.ne, h.old, h.old2⟩
theorem CS.machine {w wx : World} {bb g pb : Nat} {xs : List Int} (h : CS w bb g pb xs wx) : (¬ wx.heap.size = g ∧ ¬ wx.heap.size = bb) ∧ ¬ wx.heap.size = pb ∧ w.heap.size ≤ wx.heap.size := by
  have := h.bank.row.lt; have := h.bank.head.lt; have := Blk.lt h.box; have := h.kp.size
  omega
theorem CS.of {w w1 : World} {bb g : Nat} (hB : Bnk w1 bb g (cnt 0 0)) (hg : w.heap.size ≤ g) (hk : Kept w w1) : CS w bb g w1.heap.size (cnt 0 0) (w1.alloc (.cells lv 24)) :=
  ⟨hB.kept ((Upd.refl _ _).alloc _), Blk.new _ _ _, hk.alloc _, fun e => by have := hB.row.lt; omega, hg, hk.size⟩
end Go.Proofs.Ytccjgbmbggbmgaa
