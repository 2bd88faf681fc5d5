/- The reference's plan is the program's. -/
import Derived.Test.YtnffnpolkkgnhaaPlan
import Derived.Test.YtnffnpolkkgnhaaRef10
namespace Go.Proofs.Ytnffnpolkkgnhaa
set_option linter.unusedVariables false
open Go.RowKit

set_option maxHeartbeats 1000000 in
theorem refPlan_ok (v a k : Int) (w : World) (h : May v a k) :
    Calls Try.prog 12 #[.int .i64 v, .int .i64 a, .int .i64 k] w fun e w' => e = .returned (planOf v a k).val ∧ Kept w w' := by
  obtain ⟨v1, v2, a1, a2, k1, k2⟩ := h
  obtain ⟨r1, r2⟩ := roomOf_le v
  have hm : 0 ≤ k * (roomOf v + 2) := Int.mul_nonneg (by omega) (by omega)
  have hm2 : k * (roomOf v + 2) ≤ 64 * 8194 := Int.mul_le_mul k2 (by omega) (by omega) (by omega)
  simp only [planOf, Lay.val, Lay.vals]
  go_enter Try.func12, Try.ntmps12
  go_wp2
  go_loop [7] (fun n => ∃ (k : Nat) (m : Int), n = .int .i64 m ∧ 1 ≤ m ∧ m * 2 ^ k ≤ 8192 ∧ 4096 ≤ m * 2 ^ k ∧ Hid (roomFrom k m v = roomOf v)) (fun n => (8192 - intOf n).toNat)
  case atStart => exact ⟨13, 1, rfl, by omega, by decide, by decide, rfl⟩
  case round =>
    obtain ⟨j, m, rfl, h1, h2, h3, h4⟩ := hrel
    by_cases hlt : m < v
    · cases j with
      | zero => omega
      | succ j =>
        have e : m * 2 * 2 ^ j = m * 2 ^ (j + 1) := by rw [Int.pow_succ, Int.mul_assoc, Int.mul_comm 2]
        have h5 : m * 2 * 2 ^ j ≤ 8192 := by omega
        have h6 : 4096 ≤ m * 2 * 2 ^ j := by omega
        have h7 : Hid (roomFrom j (m * 2) v = roomOf v) := by have := h4.out; rw [roomFrom, if_pos hlt] at this; exact this
        clear e h2 h3 h4
        go_wp2
        go_round
        case rel => exact ⟨j, m * 2, rfl, by omega, h5, h6, h7⟩
        case measure => simp [intOf]; omega
    · have h8 : m = roomOf v := by have := h4.out; cases j with
        | zero => exact this
        | succ k => rw [roomFrom, if_neg hlt] at this; exact this
      subst h8
      clear h2 h3 h4
      go_wp2
      refine bodyPost_ret (v := .agg #[.int .i64 v, .int .i64 a, .int .i64 k, .int .i64 (roomOf v), .int .i64 0, .int .i64 a, .int .i64 (a + v), .int .i64 (a + v + v), .int .i64 (a + v + v + v), .int .i64 (a + v + v + v + 1), .int .i64 (a + v + v + v + 1 + 1), .int .i64 (a + v + v + v + 1 + 1 + 1), .int .i64 (a + v + v + v + 1 + 1 + 1 + 1), .int .i64 (a + v + v + v + 1 + 1 + 1 + 1 + k * (roomOf v + 2))]) (by simp [results, Try.results12, go_sem]; omega) rfl ⟨rfl, ?_⟩
      repeat (first | exact Upd.refl _ _ | apply Upd.alloc | refine Upd.setCell ?_ (.inr (by simp)) _)
end Go.Proofs.Ytnffnpolkkgnhaa
