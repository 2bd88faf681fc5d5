/- New. -/
import Derived.Test.YtdgkemadhooogaaBank
namespace Go.Proofs.Ytdgkemadhooogaa
set_option linter.unusedVariables false
open Go.RowKit

/-- A new bank: its blocks are new, all its cells 0. -/
def NewBank (n : Nat) (w : World) (e : Ending) (w' : World) : Prop :=
  ∃ bb g, e = .returned (.tuple #[.pointer (some ⟨bb, 0, none⟩), .int .i64 0]) ∧ Bnk w' bb g (List.replicate n 0) ∧ w.heap.size ≤ bb ∧ w.heap.size ≤ g ∧ Kept w w'

theorem New_ok (n : Nat) (w : World) (h : n ≤ 524288) :
    Calls Try.prog 44 #[.int .i64 n] w (NewBank n w) := by
  have hmk := fun w => make_one (P := Try.prog) (t := 145) (e := 164) (z := .agg #[.int .i64 0]) (v := .int .i64 0) (bytes := 8) Try.underlying145 (by kernel_rfl) rfl .i64 n (by omega) (by omega) w
  go_enter Try.func44, Try.ntmps44
  go_wp2
  go_ret2
  refine ⟨w.heap.size + 1, w.heap.size, rfl, ⟨?_, ?_, by omega, by simpa using h⟩, by omega, by omega, ((Upd.refl _ _).alloc _).alloc _⟩
  · have := Blk.new (w.alloc (.cells (zeros n (.int .i64 0)) 164)) #[.slice (some ⟨w.heap.size, 0, none⟩) n n] 147
    simpa using this
  · have := (Blk.new w (zeros n (.int .i64 0)) 164).alloc (.cells #[.slice (some ⟨w.heap.size, 0, none⟩) n n] 147)
    rw [← zeros_ints]
    exact this

theorem New_no (n : Int) (w : World) (h : n < 0 ∨ 524288 < n) :
    Calls Try.prog 44 #[.int .i64 n] w fun e w' => e = .returned (.tuple #[.pointer none, .int .i64 2]) ∧ w = w' := by
  rcases h with h | h
  · go_enter Try.func44, Try.ntmps44
    go_wp2
    go_ret2
    exact ⟨rfl, rfl⟩
  · have h0 : ¬ n < 0 := by omega
    go_enter Try.func44, Try.ntmps44
    go_wp2
    go_ret2
    exact ⟨rfl, rfl⟩

end Go.Proofs.Ytdgkemadhooogaa
