/- acequialow.Among. -/
import Derived.Test.YtdhimfkmgcfohaaProg
import Derived.Test.YtdhimfkmgcfohaaBase2
namespace Go.Proofs.Ytdhimfkmgcfohaa
set_option linter.unusedVariables false
open Go.RowKit

/-- A number from 0 on, below n. -/
def am (x n : Int) : Int := (x.tmod n + n).tmod n
theorem am_in {x n : Int} (hn : 1 ≤ n) : 0 ≤ am x n ∧ am x n < n := by
  have h1 : -n < x.tmod n := by have := Int.lt_tmod_of_pos x (b := n) (by omega); omega
  have h2 : 0 ≤ x.tmod n + n := by omega
  unfold am
  rw [Int.tmod_eq_emod_of_nonneg h2]
  exact ⟨Int.emod_nonneg _ (by omega), Int.emod_lt_of_pos _ (by omega)⟩
theorem Among_any (x n : Int) (hn : 1 ≤ n) (hn2 : n ≤ 4611686018427387904) (w : World) :
    Calls Try.prog 30 #[.int .i64 x, .int .i64 n] w fun e w' => e = .returned (.int .i64 (am x n)) ∧ w' = w := by
  have h0 : ¬ n < 1 := by omega
  have h1 : ¬ n = 0 := by omega
  have b1 : -n < x.tmod n := by have := Int.lt_tmod_of_pos x (b := n) (by omega); omega
  have b2 : x.tmod n < n := Int.tmod_lt_of_pos x (by omega)
  have hi := am_in (x := x) hn
  unfold am at hi ⊢
  generalize hq : x.tmod n = q at *
  generalize hr : (q + n).tmod n = r at *
  have w1 : IntKind.i64.wrap q = q := by rw [IntKind.wrap_i64]; omega
  have w2 : IntKind.i64.wrap (q + n) = q + n := by rw [IntKind.wrap_i64]; omega
  have w3 : wrap64 (q + n) = q + n := by unfold wrap64; omega
  have w4 : IntKind.i64.wrap r = r := by rw [IntKind.wrap_i64]; omega
  go_enter Try.func30, Try.ntmps30
  go_wp2_with fail
  go_ret
  exact ⟨by first | rfl | simp [*], rfl⟩
end Go.Proofs.Ytdhimfkmgcfohaa
