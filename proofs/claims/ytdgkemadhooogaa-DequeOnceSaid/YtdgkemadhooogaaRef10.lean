/- What the reference of layer 10 answers. -/
import Derived.Test.YtdgkemadhooogaaTop
namespace Go.Proofs.Ytdgkemadhooogaa
set_option linter.unusedVariables false
open Go.RowKit
attribute [local go_sem] cell?_ext

theorem refTop_any (l : Lay) (k : Int) (w : World) (h1 : 0 ≤ l.deques) (h2 : l.deques ≤ 1000000) (h3 : 0 ≤ l.room) (h4 : l.room ≤ 8192) (h5 : 0 ≤ k) (h6 : k ≤ 255) :
    Calls Try.prog 54 #[l.val, .int .i64 k] w fun e w' => e = .returned (.int .i64 (l.deques + k * (l.room + 2))) ∧ Kept w w' := by
  have hm : 0 ≤ k * (l.room + 2) := Int.mul_nonneg h5 (by omega)
  have hm2 : k * (l.room + 2) ≤ 255 * 8194 := Int.mul_le_mul h6 (by omega) (by omega) (by omega)
  obtain ⟨verts, arcs, workers, room, res, ex, hh, flag, pending, ask, count, sense, deques, size⟩ := l
  simp only [Lay.val, Lay.vals] at *
  go_enter Try.func54, Try.ntmps54
  go_wp2
  go_ret
  exact ⟨rfl, (Upd.refl _ _).alloc _⟩

theorem refBottom_any (l : Lay) (k : Int) (w : World) (h1 : 0 ≤ l.deques) (h2 : l.deques ≤ 1000000) (h3 : 0 ≤ l.room) (h4 : l.room ≤ 8192) (h5 : 0 ≤ k) (h6 : k ≤ 255) :
    Calls Try.prog 55 #[l.val, .int .i64 k] w fun e w' => e = .returned (.int .i64 (l.deques + k * (l.room + 2) + 1)) ∧ Kept w w' := by
  have hm : 0 ≤ k * (l.room + 2) := Int.mul_nonneg h5 (by omega)
  have hm2 : k * (l.room + 2) ≤ 255 * 8194 := Int.mul_le_mul h6 (by omega) (by omega) (by omega)
  have ht := fun w => Lib.hid (refTop_any l k w h1 h2 h3 h4 h5 h6)
  obtain ⟨verts, arcs, workers, room, res, ex, hh, flag, pending, ask, count, sense, deques, size⟩ := l
  simp only [Lay.val, Lay.vals] at *
  generalize k * (room + 2) = m at *
  go_enter Try.func55, Try.ntmps55
  go_wp2_with (go_at_call 54; refine (ht _).out.mono ?_; rintro e w' ⟨rfl, hk⟩)
  go_ret
  exact ⟨rfl, ((Upd.refl _ _).alloc _).trans hk⟩

set_option maxHeartbeats 400000 in
theorem refSlot_any (l : Lay) (k : Int) (r j : Nat) (w : World) (h1 : 0 ≤ l.deques) (h2 : l.deques ≤ 1000000) (hr : r ≤ 13) (h3 : l.room = ((2 ^ r : Nat) : Int)) (h5 : 0 ≤ k) (h6 : k ≤ 255) (hj : j < 9223372036854775808) :
    Calls Try.prog 56 #[l.val, .int .i64 k, .int .i64 (j : Int)] w fun e w' => e = .returned (.int .i64 (l.deques + k * (l.room + 2) + 2 + ((j % 2 ^ r : Nat) : Int))) ∧ Kept w w' := by
  have r1 : 1 ≤ 2 ^ r := Nat.one_le_two_pow
  have r2 : 2 ^ r ≤ 2 ^ 13 := Nat.pow_le_pow_right (by omega) hr
  have hm : 0 ≤ k * (l.room + 2) := Int.mul_nonneg h5 (by omega)
  have hm2 : k * (l.room + 2) ≤ 255 * 8194 := Int.mul_le_mul h6 (by omega) (by omega) (by omega)
  have hb : (j : Int) % l.room = ((j % 2 ^ r : Nat) : Int) := by rw [h3]; simp
  have hs : j % 2 ^ r < 2 ^ r := Nat.mod_lt _ (by omega)
  have ht := fun w => Lib.hid (refTop_any l k w h1 h2 (by omega) (by omega) h5 h6)
  have g3 : 1 ≤ l.room := by omega
  have g4 : l.room ≤ 8192 := by omega
  have j1 : (j : Int) ≤ 9223372036854775807 := by omega
  clear h3 hj
  generalize j % 2 ^ r = q at *
  have q1 : q < 8192 := by omega
  clear hs r1 r2
  obtain ⟨verts, arcs, workers, room, res, ex, hh, flag, pending, ask, count, sense, deques, size⟩ := l
  simp only [Lay.val, Lay.vals] at *
  generalize k * (room + 2) = m at *
  go_enter Try.func56, Try.ntmps56
  go_wp2
  refine wp_region_kept (by kernel_rfl) (by kernel_rfl) ?_
  repeat (go_big_quiet_step ((go_at_call 54; exact kept_call (ht _).out)))
  refine wpQuiet_nil ?_
  intro w1 hk
  go_wp2
  go_ret
  exact ⟨rfl, ((Upd.refl _ _).alloc _).trans hk⟩
end Go.Proofs.Ytdgkemadhooogaa
