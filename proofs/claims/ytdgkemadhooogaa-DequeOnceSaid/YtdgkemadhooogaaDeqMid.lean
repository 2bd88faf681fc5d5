/- A machine of package deque in the middle of its run by itself; a run by itself of any kind. Plain. -/
import Derived.Test.YtdgkemadhooogaaDeqTo
namespace Go.Proofs.Ytdgkemadhooogaa
set_option linter.unusedVariables false
set_option linter.unusedSimpArgs false
open Go.RowKit

theorem kstep_done (tp r : Nat) (kd : Kd) (s : KS) (h : s.m.done = true) : kstep tp r kd s = s := by
  cases kd <;> simp [kstep, pushS, popS, stealS, lostS, h]
theorem krun_add (tp r : Nat) (kd : Kd) (s : KS) (i : Nat) : ∀ k, krun tp r kd (krun tp r kd s i) k = krun tp r kd s (i + k)
  | 0 => rfl
  | k + 1 => by
    show kstep tp r kd (krun tp r kd (krun tp r kd s i) k) = kstep tp r kd (krun tp r kd s (i + k))
    rw [krun_add tp r kd s i k]
section
variable {tp r : Nat} {kd : Kd} {s s' : KS} {N : Nat}
theorem Alone.done (h : Alone tp r kd s N s') : s'.m.done = true := by
  have h1 := h.one
  have h2 := h.don (N - 1) (by omega)
  rw [show N - 1 + 1 = N by omega, h.fin] at h2
  simpa using h2
/-- In the middle of it. -/
theorem Alone.mid (h : Alone tp r kd s N s') (i : Nat) (hi : i < N) : Alone tp r kd (krun tp r kd s i) (N - i) s' := by
  refine ⟨by omega, fun k hk => ?_, fun k hk => ?_, ?_⟩
  · rw [krun_add]
    exact h.inv _ (by omega)
  · rw [krun_add]
    have := h.don (i + k) (by omega)
    rw [show i + (k + 1) = i + k + 1 by omega, this]
    rw [decide_eq_decide]
    omega
  · rw [krun_add, show i + (N - i) = N by omega]
    exact h.fin
/-- Behind it nothing changes. -/
theorem Alone.past (h : Alone tp r kd s N s') : ∀ k, krun tp r kd s (N + k) = s'
  | 0 => h.fin
  | k + 1 => by
    show kstep tp r kd (krun tp r kd s (N + k)) = s'
    rw [h.past k]
    exact kstep_done tp r kd s' h.done
/-- From any place of it a machine comes to the same end. -/
theorem Alone.from (h : Alone tp r kd s N s') (hk : KInv tp kd s') (i : Nat) : ∃ M, 1 ≤ M ∧ M ≤ N ∧ Alone tp r kd (krun tp r kd s i) M s' := by
  have h1 := h.one
  by_cases hi : i < N
  · exact ⟨N - i, by omega, by omega, h.mid i hi⟩
  · obtain ⟨k, rfl⟩ : ∃ k, i = N + k := ⟨i - N, by omega⟩
    rw [h.past k]
    exact ⟨1, by omega, by omega, Alone.last hk (kstep_done tp r kd s' h.done) h.done⟩
/-- What a step asks holds all along. -/
theorem Alone.holds (h : Alone tp r kd s N s') (hk : KInv tp kd s') (i : Nat) : KInv tp kd (krun tp r kd s i) := by
  by_cases hi : i < N
  · exact h.inv i hi
  · obtain ⟨k, rfl⟩ : ∃ k, i = N + k := ⟨i - N, by omega⟩
    rw [h.past k]
    exact hk
end
/-- On a row a machine of any kind comes to its end by itself. -/
theorem run_any {tp r : Nat} {xs : List Int} {T : Int} {L : List Int} (h : Row tp r xs T L) (hb : T + L.length + 1 ≤ 100000) (kd : Kd) :
    ∃ (N : Nat) (s' : KS), Alone tp r kd ⟨⟨0, 0, 0, 0, false, false⟩, false, xs⟩ N s' ∧ N ≤ 6 ∧ KInv tp kd s' := by
  have h0 := h.t0
  have hf := h.fit2
  cases kd with
  | push v =>
    by_cases hr : L.length < 2 ^ r
    · obtain ⟨ys, hy, ha, hal⟩ := push_to h hr hb v false
      refine ⟨4, _, hal, by omega, ?_⟩
      have ht := hy.top
      exact ⟨fun e => (by cases e), (by simp only; omega), fun _ => (by simp only; omega), (by simp only; omega)⟩
    · refine ⟨2, _, push_full h (by have := h.room; omega) v false, by omega, ?_⟩
      have ht := h.top
      exact ⟨fun e => (by cases e), (by simp only; omega), fun _ => (by simp only; omega), (by simp only; omega)⟩
  | pop =>
    rcases Nat.lt_or_ge L.length 2 with h2 | h2
    · by_cases h1 : L.length = 0
      · obtain rfl : L = [] := List.eq_nil_of_length_eq_zero h1
        refine ⟨4, _, pop_none h false, by omega, ?_⟩
        simp only [List.length_nil] at hb
        exact ⟨fun e => (by cases e), (by simp only; omega), (by simp only; omega), fun e => (by simp only at e; omega), hf |> fun q => (by simp only; omega)⟩
      · obtain ⟨x, rfl⟩ := List.length_eq_one_iff.1 (show L.length = 1 by omega)
        obtain ⟨ys, hy, ha, hal⟩ := pop1_to h false
        refine ⟨6, _, hal, by omega, ?_⟩
        have hl := ha.1
        simp only [List.length_singleton] at hb
        exact ⟨fun e => (by cases e), (by simp only; omega), (by simp only; omega), fun e => (by simp only at e; omega), (by simp only; omega)⟩
    · obtain ⟨ys, hy, ha, hal⟩ := pop_to h h2 false
      refine ⟨4, _, hal, by omega, ?_⟩
      have hl := ha.1
      exact ⟨fun e => (by cases e), (by simp only; omega), (by simp only; omega), fun e => (by simp only at e; omega), (by simp only; omega)⟩
  | steal =>
    by_cases h1 : L.length = 0
    · obtain rfl : L = [] := List.eq_nil_of_length_eq_zero h1
      refine ⟨2, _, steal_none h, by omega, ?_⟩
      simp only [List.length_nil] at hb
      exact ⟨fun e => (by cases e), (by simp only; omega), (by simp only; omega)⟩
    · obtain ⟨ys, hy, ha, hal⟩ := steal_to h (by omega)
      refine ⟨4, _, hal, by omega, ?_⟩
      have hl := ha.1
      exact ⟨fun e => (by cases e), (by simp only; omega), (by simp only; omega)⟩
end Go.Proofs.Ytdgkemadhooogaa
