/- What cells.Plan answers. -/
import Derived.Test.YtdgkemadhooogaaLay
namespace Go.Proofs.Ytdgkemadhooogaa
set_option linter.unusedVariables false
open Go.RowKit

/-- What may be planned. -/
def May (v a k : Int) : Prop := 0 ≤ v ∧ v ≤ 4096 ∧ 0 ≤ a ∧ a ≤ 32768 ∧ 1 ≤ k ∧ k ≤ 64

set_option maxHeartbeats 1000000 in
theorem Plan_ok (v a k : Int) (w : World) (h : May v a k) :
    Calls Try.prog 43 #[.int .i64 v, .int .i64 a, .int .i64 k] w fun e w' => e = .returned (.tuple #[(planOf v a k).val, .int .i64 0]) ∧ Kept w w' := by
  obtain ⟨v1, v2, a1, a2, k1, k2⟩ := h
  obtain ⟨r1, r2⟩ := roomOf_le v
  have hr := fun w => Lib.hid (room_any v w v2)
  have hm : 0 ≤ k * (roomOf v + 2) := Int.mul_nonneg (by omega) (by omega)
  have hm2 : k * (roomOf v + 2) ≤ 64 * 8194 := Int.mul_le_mul k2 (by omega) (by omega) (by omega)
  simp only [planOf, Lay.val, Lay.vals]
  generalize roomOf v = r at *
  generalize hmm : k * (r + 2) = m at *
  go_enter Try.func43, Try.ntmps43
  go_wp2_with (go_at_call 81; refine (hr _).out.mono ?_; rintro e w' ⟨rfl, rfl⟩)
  go_wp2
  refine bodyPost_ret (v := .tuple #[.agg #[.int .i64 v, .int .i64 a, .int .i64 k, .int .i64 r, .int .i64 0, .int .i64 a, .int .i64 (a + v), .int .i64 (a + v + v), .int .i64 (a + v + v + v), .int .i64 (a + v + v + v + 1), .int .i64 (a + v + v + v + 1 + 1), .int .i64 (a + v + v + v + 1 + 1 + 1), .int .i64 (a + v + v + v + 1 + 1 + 1 + 1), .int .i64 (a + v + v + v + 1 + 1 + 1 + 1 + m)], .int .i64 0]) (by simp [results, Try.results43, go_sem]) rfl ⟨rfl, ?_⟩
  repeat (first | exact Upd.refl _ _ | apply Upd.alloc | refine Upd.setCell ?_ (.inr (by simp)) _)
end Go.Proofs.Ytdgkemadhooogaa
