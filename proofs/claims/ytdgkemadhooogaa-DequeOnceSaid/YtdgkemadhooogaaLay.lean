/- Plans: what cells.Plan, Top, Bottom, Slot answer. No condition but numbers that may be. -/
import Derived.Test.YtdgkemadhooogaaProg
import Derived.Test.YtdgkemadhooogaaBase
namespace Go.Proofs.Ytdgkemadhooogaa
set_option linter.unusedVariables false
open Go.RowKit

/-- A plan's numbers. -/
structure Lay where
  verts : Int
  arcs : Int
  workers : Int
  room : Int
  res : Int
  ex : Int
  h : Int
  flag : Int
  pending : Int
  ask : Int
  count : Int
  sense : Int
  deques : Int
  size : Int
  deriving DecidableEq

def Lay.vals (l : Lay) : Array Value := #[.int .i64 l.verts, .int .i64 l.arcs, .int .i64 l.workers, .int .i64 l.room, .int .i64 l.res, .int .i64 l.ex, .int .i64 l.h, .int .i64 l.flag, .int .i64 l.pending, .int .i64 l.ask, .int .i64 l.count, .int .i64 l.sense, .int .i64 l.deques, .int .i64 l.size]
def Lay.val (l : Lay) : Value := .agg l.vals

def roomFrom : Nat → Int → Int → Int
  | 0, n, _ => n
  | k + 1, n, v => if n < v then roomFrom k (n * 2) v else n
def roomOf (v : Int) : Int := roomFrom 13 1 v
theorem roomFrom_le : ∀ (k : Nat) (n v : Int), 0 < n → n ≤ roomFrom k n v ∧ roomFrom k n v ≤ n * 2 ^ k
  | 0, n, v, h => by simp [roomFrom]
  | k + 1, n, v, h => by
    have ih := roomFrom_le k (n * 2) v (by omega)
    have e : n * 2 * 2 ^ k = n * 2 ^ (k + 1) := by rw [Int.pow_succ, Int.mul_assoc, Int.mul_comm 2]
    have h1 : n * 1 ≤ n * 2 ^ (k + 1) := Int.mul_le_mul_of_nonneg_left (by have := Int.pow_pos (n := 2) (m := k + 1) (by omega); omega) (by omega)
    unfold roomFrom
    split <;> omega
theorem roomOf_le (v : Int) : 1 ≤ roomOf v ∧ roomOf v ≤ 8192 := by
  have := roomFrom_le 13 1 v (by omega)
  unfold roomOf
  omega

def planOf (v a w : Int) : Lay where
  verts := v
  arcs := a
  workers := w
  room := roomOf v
  res := 0
  ex := a
  h := a + v
  flag := a + v + v
  pending := a + v + v + v
  ask := a + v + v + v + 1
  count := a + v + v + v + 1 + 1
  sense := a + v + v + v + 1 + 1 + 1
  deques := a + v + v + v + 1 + 1 + 1 + 1
  size := a + v + v + v + 1 + 1 + 1 + 1 + w * (roomOf v + 2)

theorem roomFrom_done : ∀ (k : Nat) (n v : Int), 0 < n → v ≤ n * 2 ^ k → v ≤ roomFrom k n v
  | 0, n, v, h, hv => by simpa [roomFrom] using hv
  | k + 1, n, v, h, hv => by
    have e : n * 2 * 2 ^ k = n * 2 ^ (k + 1) := by rw [Int.pow_succ, Int.mul_assoc, Int.mul_comm 2]
    have ih := roomFrom_done k (n * 2) v (by omega) (by omega)
    unfold roomFrom
    split <;> omega

set_option maxHeartbeats 400000 in
theorem room_any (v : Int) (w : World) (h : v ≤ 4096) :
    Calls Try.prog 81 #[.int .i64 v] w fun e w' => e = .returned (.int .i64 (roomOf v)) ∧ w = w' := by
  go_enter Try.func81, Try.ntmps81
  go_wp2
  go_loop [3] (fun n => ∃ (k : Nat) (m : Int), n = .int .i64 m ∧ 1 ≤ m ∧ m * 2 ^ k ≤ 8192 ∧ 4096 ≤ m * 2 ^ k ∧ Hid (roomFrom k m v = roomOf v)) (fun n => (8192 - intOf n).toNat)
  case atStart => exact ⟨13, 1, rfl, by omega, by decide, by decide, rfl⟩
  case round =>
    obtain ⟨k, m, rfl, h1, h2, h3, h4⟩ := hrel
    by_cases hlt : m < v
    · cases k with
      | zero => omega
      | succ k =>
        have e : m * 2 * 2 ^ k = m * 2 ^ (k + 1) := by rw [Int.pow_succ, Int.mul_assoc, Int.mul_comm 2]
        have h5 : m * 2 * 2 ^ k ≤ 8192 := by omega
        have h6 : 4096 ≤ m * 2 * 2 ^ k := by omega
        have h7 : Hid (roomFrom k (m * 2) v = roomOf v) := by have := h4.out; rw [roomFrom, if_pos hlt] at this; exact this
        clear e h2 h3 h4
        go_wp2
        go_round
        case rel => exact ⟨k, m * 2, rfl, by omega, h5, h6, h7⟩
        case measure => simp [intOf]; omega
    · have h8 : m = roomOf v := by have := h4.out; cases k with
        | zero => exact this
        | succ k => rw [roomFrom, if_neg hlt] at this; exact this
      have h9 := Lib.hid h8
      clear h2 h3 h4 h8
      go_wp2
      go_ret
      exact ⟨ret_int h9.out, rfl⟩

theorem roomFrom_pow : ∀ (k j : Nat) (v : Int), ∃ r : Nat, r ≤ j + k ∧ roomFrom k ((2 ^ j : Nat) : Int) v = ((2 ^ r : Nat) : Int)
  | 0, j, v => ⟨j, by omega, rfl⟩
  | k + 1, j, v => by
    unfold roomFrom
    split
    · obtain ⟨r, h1, h2⟩ := roomFrom_pow k (j + 1) v
      refine ⟨r, by omega, ?_⟩
      rw [← h2]
      congr 1
    · exact ⟨j, by omega, rfl⟩
theorem roomOf_pow (v : Int) : ∃ r : Nat, r ≤ 13 ∧ roomOf v = ((2 ^ r : Nat) : Int) := by
  obtain ⟨r, h1, h2⟩ := roomFrom_pow 13 0 v
  exact ⟨r, by omega, h2⟩

end Go.Proofs.Ytdgkemadhooogaa
