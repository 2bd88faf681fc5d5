/- What cells.Top, Bottom, Slot answer. No condition but numbers that may be. -/
import Derived.Test.YtdgkemadhooogaaLay
namespace Go.Proofs.Ytdgkemadhooogaa
set_option linter.unusedVariables false
open Go.RowKit
attribute [local go_sem] cell?_ext

theorem Top_any (l : Lay) (k : Int) (w : World) (h1 : 0 ≤ l.deques) (h2 : l.deques ≤ 1000000) (h3 : 0 ≤ l.room) (h4 : l.room ≤ 8192) (h5 : 0 ≤ k) (h6 : k ≤ 255) :
    Calls Try.prog 46 #[l.val, .int .i64 k] w fun e w' => e = .returned (.int .i64 (l.deques + k * (l.room + 2))) ∧ Kept w w' := by
  have hm : 0 ≤ k * (l.room + 2) := Int.mul_nonneg h5 (by omega)
  have hm2 : k * (l.room + 2) ≤ 255 * 8194 := Int.mul_le_mul h6 (by omega) (by omega) (by omega)
  obtain ⟨verts, arcs, workers, room, res, ex, hh, flag, pending, ask, count, sense, deques, size⟩ := l
  simp only [Lay.val, Lay.vals] at *
  go_enter Try.func46, Try.ntmps46
  go_wp2
  go_ret
  exact ⟨rfl, (Upd.refl _ _).alloc _⟩

theorem Bottom_any (l : Lay) (k : Int) (w : World) (h1 : 0 ≤ l.deques) (h2 : l.deques ≤ 1000000) (h3 : 0 ≤ l.room) (h4 : l.room ≤ 8192) (h5 : 0 ≤ k) (h6 : k ≤ 255) :
    Calls Try.prog 47 #[l.val, .int .i64 k] w fun e w' => e = .returned (.int .i64 (l.deques + k * (l.room + 2) + 1)) ∧ Kept w w' := by
  have hm : 0 ≤ k * (l.room + 2) := Int.mul_nonneg h5 (by omega)
  have hm2 : k * (l.room + 2) ≤ 255 * 8194 := Int.mul_le_mul h6 (by omega) (by omega) (by omega)
  have ht := fun w => Lib.hid (Top_any l k w h1 h2 h3 h4 h5 h6)
  obtain ⟨verts, arcs, workers, room, res, ex, hh, flag, pending, ask, count, sense, deques, size⟩ := l
  simp only [Lay.val, Lay.vals] at *
  generalize k * (room + 2) = m at *
  go_enter Try.func47, Try.ntmps47
  go_wp2_with (go_at_call 46; refine (ht _).out.mono ?_; rintro e w' ⟨rfl, hk⟩)
  go_ret
  exact ⟨rfl, ((Upd.refl _ _).alloc _).trans hk⟩

theorem bits_and_i64_nat (a b : Nat) (ha : a < 9223372036854775808) (hb : b < 9223372036854775808) : bits .and .i64 (a : Int) (b : Int) = ((a &&& b : Nat) : Int) := by
  have hx : a &&& b < 2 ^ 63 := Nat.and_lt_two_pow _ (by omega)
  have h1 : (BitVec.ofInt 64 (a : Int)).toNat = a := by
    rw [BitVec.ofInt_natCast, BitVec.toNat_ofNat]; exact Nat.mod_eq_of_lt (by omega)
  have h2 : (BitVec.ofInt 64 (b : Int)).toNat = b := by
    rw [BitVec.ofInt_natCast, BitVec.toNat_ofNat]; exact Nat.mod_eq_of_lt (by omega)
  show IntKind.i64.wrap ((BitVec.ofInt 64 (a : Int) &&& BitVec.ofInt 64 (b : Int)).toNat : Int) = _
  rw [BitVec.toNat_and, h1, h2, IntKind.wrap_i64]
  omega
theorem bits_mask (a r : Nat) (ha : a < 9223372036854775808) (hr : r ≤ 13) : bits .and .i64 (a : Int) ((2 ^ r : Nat) - 1 : Int) = ((a % 2 ^ r : Nat) : Int) := by
  have h1 : 1 ≤ 2 ^ r := Nat.one_le_two_pow
  have h2 : 2 ^ r ≤ 2 ^ 13 := Nat.pow_le_pow_right (by omega) hr
  have e : ((2 ^ r : Nat) - 1 : Int) = ((2 ^ r - 1 : Nat) : Int) := by omega
  rw [e, bits_and_i64_nat a (2 ^ r - 1) ha (by omega), Nat.and_two_pow_sub_one_eq_mod]
set_option maxHeartbeats 400000 in
theorem Slot_any (l : Lay) (k : Int) (r j : Nat) (w : World) (h1 : 0 ≤ l.deques) (h2 : l.deques ≤ 1000000) (hr : r ≤ 13) (h3 : l.room = ((2 ^ r : Nat) : Int)) (h5 : 0 ≤ k) (h6 : k ≤ 255) (hj : j < 9223372036854775808) :
    Calls Try.prog 34 #[l.val, .int .i64 k, .int .i64 (j : Int)] w fun e w' => e = .returned (.int .i64 (l.deques + k * (l.room + 2) + 2 + ((j % 2 ^ r : Nat) : Int))) ∧ Kept w w' := by
  have r1 : 1 ≤ 2 ^ r := Nat.one_le_two_pow
  have r2 : 2 ^ r ≤ 2 ^ 13 := Nat.pow_le_pow_right (by omega) hr
  have hm : 0 ≤ k * (l.room + 2) := Int.mul_nonneg h5 (by omega)
  have hm2 : k * (l.room + 2) ≤ 255 * 8194 := Int.mul_le_mul h6 (by omega) (by omega) (by omega)
  have hb := bits_mask j r hj hr
  rw [← h3] at hb
  have hs : j % 2 ^ r < 2 ^ r := Nat.mod_lt _ (by omega)
  have ht := fun w => Lib.hid (Top_any l k w h1 h2 (by omega) (by omega) h5 h6)
  have g3 : 1 ≤ l.room := by omega
  have g4 : l.room ≤ 8192 := by omega
  clear h3 hj
  generalize j % 2 ^ r = q at *
  have q1 : q < 8192 := by omega
  clear hs r1 r2
  obtain ⟨verts, arcs, workers, room, res, ex, hh, flag, pending, ask, count, sense, deques, size⟩ := l
  simp only [Lay.val, Lay.vals] at *
  generalize k * (room + 2) = m at *
  go_enter Try.func34, Try.ntmps34
  go_wp2
  refine wp_region_kept (by kernel_rfl) (by kernel_rfl) ?_
  repeat (go_big_quiet_step ((go_at_call 46; exact kept_call (ht _).out)))
  refine wpQuiet_nil ?_
  intro w1 hk
  go_wp2
  go_ret
  exact ⟨rfl, ((Upd.refl _ _).alloc _).trans hk⟩

end Go.Proofs.Ytdgkemadhooogaa
