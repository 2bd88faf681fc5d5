/- Package sched: Next. -/
import Derived.Test.YtacacnjpfflbnaaTell
import Derived.RangeFuncNested
import Derived.RangeFuncBound
import Derived.RangeFuncCalls
import Derived.RangeFuncLeaves
import Derived.RangeFuncWrites
import Derived.Shelf.Abstract
import Derived.Shelf.RegionOpen
import Derived.OwnWalkIn
import Derived.TacticsInMore
import Derived.LoopNIn
import Derived.LoopIn
namespace Go.Proofs.Ytacacnjpfflbnaa
set_option linter.unusedVariables false
open Go.RowKit Go.Shelf
attribute [local go_sem] Oper.semAt_some

/-- The k-th worker from fr on. -/
def nth (N fr : Nat) (h : 0 < N) (k : Nat) : Fin N := ⟨(fr + k) % N, Nat.mod_lt _ h⟩
def upto {α : Type} (f : Nat → α) (k : Nat) : List α := (List.range k).map f
theorem upto_succ {α : Type} (f : Nat → α) (k : Nat) : upto f (k + 1) = upto f k ++ [f k] := by simp [upto, List.range_succ]
theorem upto_length {α : Type} (f : Nat → α) (k : Nat) : (upto f k).length = k := by simp [upto]

set_option maxRecDepth 100000 in
set_option maxHeartbeats 2000000 in
/-- The iterator's rounds. -/
theorem from1_in (F : Fence) (n : Nat) (hF : F.fn 24) (hro : F.round = none) (hn : 1 ≤ n) (l Bs Bw n₀ sb tb N fr : Nat) (hN : 0 < N) (hN2 : N ≤ 64) (hfr : fr < N) (J Jx : List (Fin N) → World → Prop)
    (hY : ∀ (pre : List (Fin N)) (x : Fin N) (W : World), J pre W → pre.length < N → YieldAt F (n - 1) Try.prog l #[.int .i64 ((x : Nat) : Int)] W fun e W' =>
      (e = .returned (.bool true) ∧ J (pre ++ [x]) W' ∧ Below n₀ W W') ∨ (e = .returned (.bool false) ∧ Jx (pre ++ [x]) W'))
    (W : World) (hBs : W.cell? ⟨Bs, 0, none⟩ = some (.pointer (some ⟨sb, 0, none⟩))) (hsb : W.cell? ⟨sb, 2, none⟩ = some (.slice (some ⟨tb, 0, none⟩) N N)) (hBw : W.cell? ⟨Bw, 0, none⟩ = some (.int .i64 (fr : Int))) (hb : Bw < n₀) (h0 : J [] W) :
    CallsIn F n Try.prog 24 #[.func (.yield l) #[] #[], .pointer (some ⟨Bs, 0, none⟩), .pointer (some ⟨Bw, 0, none⟩)] W fun e W' => (∃ v, e = .returned v) ∧
      ((∃ ys, ys = upto (nth N fr hN) N ∧ J ys W') ∨ (∃ pre, (∃ k, k ≤ N ∧ pre = upto (nth N fr hN) k) ∧ Jx pre W')) := by
  refine callsIn_of_wp Try.func24 rfl hF ?_ hro
  simp only [Try.ntmps24, List.size_toArray, List.length_cons, List.length_nil, Nat.reduceAdd, Nat.reduceSub, Array.replicate_succ, Array.replicate_zero, List.push_toArray, List.append_toArray, List.nil_append, List.cons_append]
  have hN0 : ¬ (N : Int) = 0 := by omega
  gi_wp2
  gi_loopw [12] (fun i wr => ∃ k : Nat, k ≤ N ∧ i = .int .i64 k ∧ J (upto (nth N fr hN) k) wr ∧ Below n₀ W wr) (fun i _ => N - (intOf i).toNat)
  case atStart => exact ⟨0, Nat.zero_le _, rfl, h0, Below.refl _ _⟩
  case round =>
    obtain ⟨k, hk, rfl, hJs, hnx⟩ := hrel
    have hcw : wr.cell? ⟨Bw, 0, none⟩ = some (.int .i64 (fr : Int)) := (hnx.cell (p := ⟨Bw, 0, none⟩) hb).trans hBw
    by_cases hlt : k < N
    · obtain ⟨fn, tmps, assign, body, hy, hR⟩ := hY _ (nth N fr hN k) wr hJs (by rw [upto_length]; exact hlt)
      have e1 : (((nth N fr hN k : Fin N) : Nat) : Int) = ((fr : Int) + (k : Int)) % (N : Int) := by simp [nth]
      rw [e1] at hy
      clear e1
      gi_wp2
      refine hR.mono ?_
      rintro e W3 (⟨rfl, hJ3, hk3⟩ | ⟨rfl, hJx3⟩)
      · gi_wp2
        go_roundw
        case rel => exact ⟨k + 1, by omega, by go_num, by rw [upto_succ]; exact hJ3, hnx.trans hk3⟩
        case measure => simp [intOf]; omega
      · gi_wp2
        refine bodyPost_ret (results_none rfl _ _ _) rfl ?_
        exact ⟨⟨_, rfl⟩, .inr ⟨_, ⟨k + 1, by omega, (upto_succ _ _).symm⟩, hJx3⟩⟩
    · obtain rfl : k = N := by omega
      gi_wp2
      go_end0
      exact ⟨⟨_, rfl⟩, .inl ⟨_, rfl, hJs⟩⟩

theorem from_stops (F : Fence) (n : Nat) (hF : F.fn 24) (hro : F.round = none) (hn : 1 ≤ n) (Bs Bw n₀ sb tb N fr : Nat) (hN : 0 < N) (hN2 : N ≤ 64) (hfr : fr < N) (w : World)
    (hBs : w.cell? ⟨Bs, 0, none⟩ = some (.pointer (some ⟨sb, 0, none⟩))) (hsb : w.cell? ⟨sb, 2, none⟩ = some (.slice (some ⟨tb, 0, none⟩) N N)) (hBw : w.cell? ⟨Bw, 0, none⟩ = some (.int .i64 (fr : Int))) (hb : Bw < n₀) :
    SeqStopsK F n Try.prog 24 #[.pointer (some ⟨Bs, 0, none⟩), .pointer (some ⟨Bw, 0, none⟩)] (fun x : Fin N => #[Value.int .i64 ((x : Nat) : Int)]) (Below n₀) (fun ys => ys = upto (nth N fr hN) N) (fun pre => ∃ k, k ≤ N ∧ pre = upto (nth N fr hN) k) N w := fun l J Jx W hW _ _ hY h0 => by
  have l1 := World.block_lt_of_cell? w _ hBs
  have l2 := World.block_lt_of_cell? w _ hsb
  have l3 := World.block_lt_of_cell? w _ hBw
  exact from1_in F n hF hro hn l Bs Bw n₀ sb tb N fr hN hN2 hfr J Jx hY W ((hW.cell (p := ⟨Bs, 0, none⟩) l1).trans hBs) ((hW.cell (p := ⟨sb, 2, none⟩) l2).trans hsb) ((hW.cell (p := ⟨Bw, 0, none⟩) l3).trans hBw) hb h0

theorem from_any (p : Option Addr) (v : Int) (w : World) :
    Calls Try.prog 17 #[.pointer p, .int .i64 v] w fun e w' => e = .returned (.func (.func 24) #[] #[.pointer (some ⟨w.heap.size, 0, none⟩), .pointer (some ⟨w.heap.size + 1, 0, none⟩)]) ∧
      w' = (w.alloc (.cells #[.pointer p] 24)).alloc (.cells #[.int .i64 v] 3) := by
  go_enter Try.func17, Try.ntmps17
  go_wp2
  go_ret
  exact ⟨rfl, rfl⟩

/-- Of those from the (n - m)-th one on, the first one who is not done. -/
def whoAt (n fr : Nat) (dl : List Bool) : Nat → Option Nat
  | 0 => none
  | m + 1 => if dl.getD ((fr + (n - (m + 1))) % n) false then whoAt n fr dl m else some ((fr + (n - (m + 1))) % n)
/-- Whose step it is. -/
def SS.who (s : SS) (dl : List Bool) : Option Nat := whoAt s.told.length (fromOf s.told.length s.last s.picks) dl s.told.length
theorem whoAt_skip {n fr : Nat} {dl : List Bool} : ∀ k, k ≤ n → (∀ j, j < k → dl.getD ((fr + j) % n) false = true) → whoAt n fr dl n = whoAt n fr dl (n - k)
  | 0, _, _ => rfl
  | k + 1, hk, h => by
    rw [whoAt_skip k (by omega) (fun j hj => h j (by omega))]
    obtain ⟨m, hm⟩ : ∃ m, n - k = m + 1 := ⟨n - k - 1, by omega⟩
    have e1 : n - (m + 1) = k := by omega
    have e2 : n - (k + 1) = m := by omega
    rw [hm, e2]
    conv => lhs; unfold whoAt
    rw [e1, h k (by omega)]
    rfl
theorem whoAt_some {n fr : Nat} {dl : List Bool} (k : Nat) (hk : k < n) (h : ∀ j, j < k → dl.getD ((fr + j) % n) false = true) (h2 : dl.getD ((fr + k) % n) false = false) : whoAt n fr dl n = some ((fr + k) % n) := by
  rw [whoAt_skip k (by omega) h]
  obtain ⟨m, hm⟩ : ∃ m, n - k = m + 1 := ⟨n - k - 1, by omega⟩
  have e1 : n - (m + 1) = k := by omega
  rw [hm]
  conv => lhs; unfold whoAt
  rw [e1, h2]
  rfl
theorem whoAt_none {n fr : Nat} {dl : List Bool} (h : ∀ j, j < n → dl.getD ((fr + j) % n) false = true) : whoAt n fr dl n = none := by
  rw [whoAt_skip n (Nat.le_refl _) h, Nat.sub_self]; rfl

/-- What Next answers, and leaves. -/
def NextIs (bd : Nat → Prop) (sb tb : Nat) (s : SS) (dl : List Bool) (w : World) (e : Ending) (w' : World) : Prop := match s.who dl with
  | some v => e = .returned (.tuple #[.int .i64 (v : Int), .bool true]) ∧ Sc w' bd sb tb (s.tell v dl) ∧ Upd (fun k => k = sb ∨ k = tb) w w'
  | none => e = .returned (.tuple #[.int .i64 0, .bool false]) ∧ Kept w w'
end Go.Proofs.Ytacacnjpfflbnaa
