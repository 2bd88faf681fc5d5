/- cells.Plan of what may not be. -/
import Derived.Test.YtnffnpolkkgnhaaPlan
namespace Go.Proofs.Ytnffnpolkkgnhaa
set_option linter.unusedVariables false
open Go.RowKit

set_option maxHeartbeats 400000 in
theorem Plan_no (v a k : Int) (w : World) (h : ¬ May v a k) :
    Calls Try.prog 9 #[.int .i64 v, .int .i64 a, .int .i64 k] w fun e w' => e = .returned (.tuple #[.agg #[.int .i64 0, .int .i64 0, .int .i64 0, .int .i64 0, .int .i64 0, .int .i64 0, .int .i64 0, .int .i64 0, .int .i64 0, .int .i64 0, .int .i64 0, .int .i64 0, .int .i64 0, .int .i64 0], .int .i64 2]) ∧ Kept w w' := by
  unfold May at h
  by_cases c1 : v < 0
  · clear h
    go_enter Try.func9, Try.ntmps9
    go_wp2
    exact bodyPost_ret (v := .tuple #[.agg #[.int .i64 0, .int .i64 0, .int .i64 0, .int .i64 0, .int .i64 0, .int .i64 0, .int .i64 0, .int .i64 0, .int .i64 0, .int .i64 0, .int .i64 0, .int .i64 0, .int .i64 0, .int .i64 0], .int .i64 2]) (by simp [results, Try.results9, go_sem]) rfl ⟨rfl, by repeat (first | exact Upd.refl _ _ | apply Upd.alloc | refine Upd.setCell ?_ (.inr (by simp)) _)⟩
  · by_cases c2 : 4096 < v
    · clear h
      go_enter Try.func9, Try.ntmps9
      go_wp2
      exact bodyPost_ret (v := .tuple #[.agg #[.int .i64 0, .int .i64 0, .int .i64 0, .int .i64 0, .int .i64 0, .int .i64 0, .int .i64 0, .int .i64 0, .int .i64 0, .int .i64 0, .int .i64 0, .int .i64 0, .int .i64 0, .int .i64 0], .int .i64 2]) (by simp [results, Try.results9, go_sem]) rfl ⟨rfl, by repeat (first | exact Upd.refl _ _ | apply Upd.alloc | refine Upd.setCell ?_ (.inr (by simp)) _)⟩
    · by_cases c3 : a < 0
      · clear h
        go_enter Try.func9, Try.ntmps9
        go_wp2
        exact bodyPost_ret (v := .tuple #[.agg #[.int .i64 0, .int .i64 0, .int .i64 0, .int .i64 0, .int .i64 0, .int .i64 0, .int .i64 0, .int .i64 0, .int .i64 0, .int .i64 0, .int .i64 0, .int .i64 0, .int .i64 0, .int .i64 0], .int .i64 2]) (by simp [results, Try.results9, go_sem]) rfl ⟨rfl, by repeat (first | exact Upd.refl _ _ | apply Upd.alloc | refine Upd.setCell ?_ (.inr (by simp)) _)⟩
      · by_cases c4 : 32768 < a
        · clear h
          go_enter Try.func9, Try.ntmps9
          go_wp2
          exact bodyPost_ret (v := .tuple #[.agg #[.int .i64 0, .int .i64 0, .int .i64 0, .int .i64 0, .int .i64 0, .int .i64 0, .int .i64 0, .int .i64 0, .int .i64 0, .int .i64 0, .int .i64 0, .int .i64 0, .int .i64 0, .int .i64 0], .int .i64 2]) (by simp [results, Try.results9, go_sem]) rfl ⟨rfl, by repeat (first | exact Upd.refl _ _ | apply Upd.alloc | refine Upd.setCell ?_ (.inr (by simp)) _)⟩
        · by_cases c5 : k < 1
          · clear h
            go_enter Try.func9, Try.ntmps9
            go_wp2
            exact bodyPost_ret (v := .tuple #[.agg #[.int .i64 0, .int .i64 0, .int .i64 0, .int .i64 0, .int .i64 0, .int .i64 0, .int .i64 0, .int .i64 0, .int .i64 0, .int .i64 0, .int .i64 0, .int .i64 0, .int .i64 0, .int .i64 0], .int .i64 2]) (by simp [results, Try.results9, go_sem]) rfl ⟨rfl, by repeat (first | exact Upd.refl _ _ | apply Upd.alloc | refine Upd.setCell ?_ (.inr (by simp)) _)⟩
          · by_cases c6 : 64 < k
            · clear h
              go_enter Try.func9, Try.ntmps9
              go_wp2
              exact bodyPost_ret (v := .tuple #[.agg #[.int .i64 0, .int .i64 0, .int .i64 0, .int .i64 0, .int .i64 0, .int .i64 0, .int .i64 0, .int .i64 0, .int .i64 0, .int .i64 0, .int .i64 0, .int .i64 0, .int .i64 0, .int .i64 0], .int .i64 2]) (by simp [results, Try.results9, go_sem]) rfl ⟨rfl, by repeat (first | exact Upd.refl _ _ | apply Upd.alloc | refine Upd.setCell ?_ (.inr (by simp)) _)⟩
            · exact absurd h (by omega)

theorem planOf_facts (v a k : Int) (h : May v a k) : 0 ≤ (planOf v a k).deques ∧ (planOf v a k).deques ≤ 1000000 ∧ ∃ r : Nat, r ≤ 13 ∧ (planOf v a k).room = ((2 ^ r : Nat) : Int) := by
  obtain ⟨v1, v2, a1, a2, k1, k2⟩ := h
  exact ⟨by simp only [planOf]; omega, by simp only [planOf]; omega, roomOf_pow v⟩
theorem pow_room {r : Nat} {x : Int} (hr : r ≤ 13) (h : x = ((2 ^ r : Nat) : Int)) : 1 ≤ x ∧ x ≤ 8192 := by
  have h1 : 2 ^ r ≤ 2 ^ 13 := Nat.pow_le_pow_right (by omega) hr
  have h2 : 1 ≤ 2 ^ r := Nat.one_le_two_pow
  omega
end Go.Proofs.Ytnffnpolkkgnhaa
