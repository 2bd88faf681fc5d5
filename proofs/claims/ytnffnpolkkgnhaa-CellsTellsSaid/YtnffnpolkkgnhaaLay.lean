/- Plans: what cells.Plan, Top, Bottom, Slot answer. No condition but numbers that may be. -/
import Derived.Test.YtnffnpolkkgnhaaProg
import Derived.Test.YtnffnpolkkgnhaaBase
import Derived.Deep.RegionHeld3
namespace Go.Proofs.Ytnffnpolkkgnhaa
set_option linter.unusedVariables false
open Go.RowKit
attribute [local go_sem] cell?_ext

/-- A plan's numbers. -/
structure Lay where
  verts : Int
  arcs : Int
  workers : Int
  room : Int
  res : Int
  ex : Int
  h : Int
  flag : Int
  pending : Int
  ask : Int
  count : Int
  sense : Int
  deques : Int
  size : Int
  deriving DecidableEq

def Lay.vals (l : Lay) : Array Value := #[.int .i64 l.verts, .int .i64 l.arcs, .int .i64 l.workers, .int .i64 l.room, .int .i64 l.res, .int .i64 l.ex, .int .i64 l.h, .int .i64 l.flag, .int .i64 l.pending, .int .i64 l.ask, .int .i64 l.count, .int .i64 l.sense, .int .i64 l.deques, .int .i64 l.size]
def Lay.val (l : Lay) : Value := .agg l.vals

def roomFrom : Nat → Int → Int → Int
  | 0, n, _ => n
  | k + 1, n, v => if n < v then roomFrom k (n * 2) v else n
def roomOf (v : Int) : Int := roomFrom 13 1 v
theorem roomFrom_le : ∀ (k : Nat) (n v : Int), 0 < n → n ≤ roomFrom k n v ∧ roomFrom k n v ≤ n * 2 ^ k
  | 0, n, v, h => by simp [roomFrom]
  | k + 1, n, v, h => by
    have ih := roomFrom_le k (n * 2) v (by omega)
    have e : n * 2 * 2 ^ k = n * 2 ^ (k + 1) := by rw [Int.pow_succ, Int.mul_assoc, Int.mul_comm 2]
    have h1 : n * 1 ≤ n * 2 ^ (k + 1) := Int.mul_le_mul_of_nonneg_left (by have := Int.pow_pos (n := 2) (m := k + 1) (by omega); omega) (by omega)
    unfold roomFrom
    split <;> omega
theorem roomOf_le (v : Int) : 1 ≤ roomOf v ∧ roomOf v ≤ 8192 := by
  have := roomFrom_le 13 1 v (by omega)
  unfold roomOf
  omega

def planOf (v a w : Int) : Lay where
  verts := v
  arcs := a
  workers := w
  room := roomOf v
  res := 0
  ex := a
  h := a + v
  flag := a + v + v
  pending := a + v + v + v
  ask := a + v + v + v + 1
  count := a + v + v + v + 1 + 1
  sense := a + v + v + v + 1 + 1 + 1
  deques := a + v + v + v + 1 + 1 + 1 + 1
  size := a + v + v + v + 1 + 1 + 1 + 1 + w * (roomOf v + 2)

theorem roomFrom_done : ∀ (k : Nat) (n v : Int), 0 < n → v ≤ n * 2 ^ k → v ≤ roomFrom k n v
  | 0, n, v, h, hv => by simpa [roomFrom] using hv
  | k + 1, n, v, h, hv => by
    have e : n * 2 * 2 ^ k = n * 2 ^ (k + 1) := by rw [Int.pow_succ, Int.mul_assoc, Int.mul_comm 2]
    have ih := roomFrom_done k (n * 2) v (by omega) (by omega)
    unfold roomFrom
    split <;> omega

set_option maxHeartbeats 400000 in
theorem room_any (v : Int) (w : World) (h : v ≤ 4096) :
    Calls Try.prog 29 #[.int .i64 v] w fun e w' => e = .returned (.int .i64 (roomOf v)) ∧ w = w' := by
  go_enter Try.func29, Try.ntmps29
  go_wp2
  go_loop [3] (fun n => ∃ (k : Nat) (m : Int), n = .int .i64 m ∧ 1 ≤ m ∧ m * 2 ^ k ≤ 8192 ∧ 4096 ≤ m * 2 ^ k ∧ Hid (roomFrom k m v = roomOf v)) (fun n => (8192 - intOf n).toNat)
  case atStart => exact ⟨13, 1, rfl, by omega, by decide, by decide, rfl⟩
  case round =>
    obtain ⟨k, m, rfl, h1, h2, h3, h4⟩ := hrel
    by_cases hlt : m < v
    · cases k with
      | zero => omega
      | succ k =>
        have e : m * 2 * 2 ^ k = m * 2 ^ (k + 1) := by rw [Int.pow_succ, Int.mul_assoc, Int.mul_comm 2]
        have h5 : m * 2 * 2 ^ k ≤ 8192 := by omega
        have h6 : 4096 ≤ m * 2 * 2 ^ k := by omega
        have h7 : Hid (roomFrom k (m * 2) v = roomOf v) := by have := h4.out; rw [roomFrom, if_pos hlt] at this; exact this
        clear e h2 h3 h4
        go_wp2
        go_round
        case rel => exact ⟨k, m * 2, rfl, by omega, h5, h6, h7⟩
        case measure => simp [intOf]; omega
    · have h8 : m = roomOf v := by have := h4.out; cases k with
        | zero => exact this
        | succ k => rw [roomFrom, if_neg hlt] at this; exact this
      have h9 := Lib.hid h8
      clear h2 h3 h4 h8
      go_wp2
      go_ret
      exact ⟨ret_int h9.out, rfl⟩

theorem Top_any (l : Lay) (k : Int) (w : World) (h1 : 0 ≤ l.deques) (h2 : l.deques ≤ 1000000) (h3 : 0 ≤ l.room) (h4 : l.room ≤ 8192) (h5 : 0 ≤ k) (h6 : k ≤ 255) :
    Calls Try.prog 13 #[l.val, .int .i64 k] w fun e w' => e = .returned (.int .i64 (l.deques + k * (l.room + 2))) ∧ Kept w w' := by
  have hm : 0 ≤ k * (l.room + 2) := Int.mul_nonneg h5 (by omega)
  have hm2 : k * (l.room + 2) ≤ 255 * 8194 := Int.mul_le_mul h6 (by omega) (by omega) (by omega)
  obtain ⟨verts, arcs, workers, room, res, ex, hh, flag, pending, ask, count, sense, deques, size⟩ := l
  simp only [Lay.val, Lay.vals] at *
  go_enter Try.func13, Try.ntmps13
  go_wp2
  go_ret
  exact ⟨rfl, (Upd.refl _ _).alloc _⟩

theorem Bottom_any (l : Lay) (k : Int) (w : World) (h1 : 0 ≤ l.deques) (h2 : l.deques ≤ 1000000) (h3 : 0 ≤ l.room) (h4 : l.room ≤ 8192) (h5 : 0 ≤ k) (h6 : k ≤ 255) :
    Calls Try.prog 15 #[l.val, .int .i64 k] w fun e w' => e = .returned (.int .i64 (l.deques + k * (l.room + 2) + 1)) ∧ Kept w w' := by
  have hm : 0 ≤ k * (l.room + 2) := Int.mul_nonneg h5 (by omega)
  have hm2 : k * (l.room + 2) ≤ 255 * 8194 := Int.mul_le_mul h6 (by omega) (by omega) (by omega)
  have ht := fun w => Lib.hid (Top_any l k w h1 h2 h3 h4 h5 h6)
  obtain ⟨verts, arcs, workers, room, res, ex, hh, flag, pending, ask, count, sense, deques, size⟩ := l
  simp only [Lay.val, Lay.vals] at *
  generalize k * (room + 2) = m at *
  go_enter Try.func15, Try.ntmps15
  go_wp2_with (go_at_call 13; refine (ht _).out.mono ?_; rintro e w' ⟨rfl, hk⟩)
  go_ret
  exact ⟨rfl, ((Upd.refl _ _).alloc _).trans hk⟩

theorem bits_and_i64_nat (a b : Nat) (ha : a < 9223372036854775808) (hb : b < 9223372036854775808) : bits .and .i64 (a : Int) (b : Int) = ((a &&& b : Nat) : Int) := by
  have hx : a &&& b < 2 ^ 63 := Nat.and_lt_two_pow _ (by omega)
  have h1 : (BitVec.ofInt 64 (a : Int)).toNat = a := by
    rw [BitVec.ofInt_natCast, BitVec.toNat_ofNat]; exact Nat.mod_eq_of_lt (by omega)
  have h2 : (BitVec.ofInt 64 (b : Int)).toNat = b := by
    rw [BitVec.ofInt_natCast, BitVec.toNat_ofNat]; exact Nat.mod_eq_of_lt (by omega)
  show IntKind.i64.wrap ((BitVec.ofInt 64 (a : Int) &&& BitVec.ofInt 64 (b : Int)).toNat : Int) = _
  rw [BitVec.toNat_and, h1, h2, IntKind.wrap_i64]
  omega
theorem bits_mask (a r : Nat) (ha : a < 9223372036854775808) (hr : r ≤ 13) : bits .and .i64 (a : Int) ((2 ^ r : Nat) - 1 : Int) = ((a % 2 ^ r : Nat) : Int) := by
  have h1 : 1 ≤ 2 ^ r := Nat.one_le_two_pow
  have h2 : 2 ^ r ≤ 2 ^ 13 := Nat.pow_le_pow_right (by omega) hr
  have e : ((2 ^ r : Nat) - 1 : Int) = ((2 ^ r - 1 : Nat) : Int) := by omega
  rw [e, bits_and_i64_nat a (2 ^ r - 1) ha (by omega), Nat.and_two_pow_sub_one_eq_mod]
theorem roomFrom_pow : ∀ (k j : Nat) (v : Int), ∃ r : Nat, r ≤ j + k ∧ roomFrom k ((2 ^ j : Nat) : Int) v = ((2 ^ r : Nat) : Int)
  | 0, j, v => ⟨j, by omega, rfl⟩
  | k + 1, j, v => by
    unfold roomFrom
    split
    · obtain ⟨r, h1, h2⟩ := roomFrom_pow k (j + 1) v
      refine ⟨r, by omega, ?_⟩
      rw [← h2]
      congr 1
    · exact ⟨j, by omega, rfl⟩
theorem roomOf_pow (v : Int) : ∃ r : Nat, r ≤ 13 ∧ roomOf v = ((2 ^ r : Nat) : Int) := by
  obtain ⟨r, h1, h2⟩ := roomFrom_pow 13 0 v
  exact ⟨r, by omega, h2⟩

set_option maxHeartbeats 400000 in
theorem Slot_any (l : Lay) (k : Int) (r j : Nat) (w : World) (h1 : 0 ≤ l.deques) (h2 : l.deques ≤ 1000000) (hr : r ≤ 13) (h3 : l.room = ((2 ^ r : Nat) : Int)) (h5 : 0 ≤ k) (h6 : k ≤ 255) (hj : j < 9223372036854775808) :
    Calls Try.prog 17 #[l.val, .int .i64 k, .int .i64 (j : Int)] w fun e w' => e = .returned (.int .i64 (l.deques + k * (l.room + 2) + 2 + ((j % 2 ^ r : Nat) : Int))) ∧ Kept w w' := by
  have r1 : 1 ≤ 2 ^ r := Nat.one_le_two_pow
  have r2 : 2 ^ r ≤ 2 ^ 13 := Nat.pow_le_pow_right (by omega) hr
  have hm : 0 ≤ k * (l.room + 2) := Int.mul_nonneg h5 (by omega)
  have hm2 : k * (l.room + 2) ≤ 255 * 8194 := Int.mul_le_mul h6 (by omega) (by omega) (by omega)
  have hb := bits_mask j r hj hr
  rw [← h3] at hb
  have hs : j % 2 ^ r < 2 ^ r := Nat.mod_lt _ (by omega)
  have ht := fun w => Lib.hid (Top_any l k w h1 h2 (by omega) (by omega) h5 h6)
  have g3 : 1 ≤ l.room := by omega
  have g4 : l.room ≤ 8192 := by omega
  clear h3 hj
  generalize j % 2 ^ r = q at *
  have q1 : q < 8192 := by omega
  clear hs r1 r2
  obtain ⟨verts, arcs, workers, room, res, ex, hh, flag, pending, ask, count, sense, deques, size⟩ := l
  simp only [Lay.val, Lay.vals] at *
  generalize k * (room + 2) = m at *
  go_enter Try.func17, Try.ntmps17
  go_wp2
  refine wp_region_kept (by kernel_rfl) (by kernel_rfl) ?_
  repeat (go_big_quiet_step ((go_at_call 13; exact kept_call (ht _).out)))
  refine wpQuiet_nil ?_
  intro w1 hk
  go_wp2
  go_ret
  exact ⟨rfl, ((Upd.refl _ _).alloc _).trans hk⟩

theorem more_any (b : Nat) (arr : Array Value) (T : Nat) (s n : Int) (w : World) (hb : Blk w b arr T) (hs : arr[13]? = some (.int .i64 s)) (h1 : 0 ≤ s) (h2 : s ≤ 1000000) (h3 : 0 ≤ n) (h4 : n ≤ 1000000) :
    Calls Try.prog 30 #[.int .i64 n, .pointer (some ⟨b, 0, none⟩)] w fun e w' => e = .returned (.int .i64 s) ∧ w.setCell ⟨b, 13, none⟩ (.int .i64 (s + n)) = w' := by
  have hc : w.cell? ⟨b, 13, none⟩ = some (.int .i64 s) := by rw [hb.cell]; exact hs
  have hf := hb.free 13
  clear hb hs
  go_enter Try.func30, Try.ntmps30
  go_wp2
  go_ret
  exact ⟨rfl, rfl⟩

end Go.Proofs.Ytnffnpolkkgnhaa
