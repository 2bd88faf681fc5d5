/- Of one number that a deque holds: what the steps ask, and that each machine by itself comes to its end. Plain. -/
import Derived.Test.YtdgkemadhooogaaDeqLastP
import Derived.Test.YtdgkemadhooogaaDeqMid
namespace Go.Proofs.Ytdgkemadhooogaa
set_option linter.unusedVariables false
set_option linter.unusedSimpArgs false
open Go.RowKit

section
variable {tp r : Nat} {T v : Int} {top dn : Bool} {xs : List Int}
theorem PopI.kinv {m : DM} {lo : Bool} (hB : OneB tp r T v top dn xs) (hP : PopI T v top m) : KInv tp .pop ⟨m, lo, xs⟩ := by
  have hT := hB.t0
  have hf := hB.fit2
  refine ⟨fun e => ⟨hP.lo, hP.hi e⟩, ?_, ?_, fun _ => ?_, (by simp only; omega)⟩
  · by_cases h : 1 ≤ m.a
    · have := hP.b h
      simp only
      omega
    · have := hP.lo
      have := hP.b0 (by omega)
      simp only
      omega
  · by_cases h : 3 ≤ m.a
    · have := hP.t h
      simp only
      omega
    · have := hP.t0 (by omega)
      simp only
      omega
  · have := hB.bot
    simp only
    rw [this]
    split <;> omega
theorem StI.kinv {m : DM} {lo lo' : Bool} (hB : OneB tp r T v top dn xs) (hS : StI T v top m lo) : KInv tp .steal ⟨m, lo', xs⟩ := by
  have hT := hB.t0
  have hf := hB.fit2
  refine ⟨fun e => ⟨hS.lo0, hS.hi e⟩, ?_, (by simp only; omega)⟩
  by_cases h : 1 ≤ m.a
  · have := hS.t h
    simp only
    omega
  · have := hS.lo0
    have := hS.t0 (by omega)
    simp only
    omega
end
/-- A machine that counts its steps, and is done ahead of a bound, comes to its end by itself. -/
theorem alone_of {tp r : Nat} {kd : Kd} (Inv : KS → Prop) (lim : Nat) (hinv : ∀ s, Inv s → KInv tp kd s) (hstep : ∀ s, Inv s → Inv (kstep tp r kd s))
    (ha : ∀ s, Inv s → s.m.done = false → 0 ≤ s.m.a ∧ s.m.a ≤ lim) (hup : ∀ s, s.m.done = false → (kstep tp r kd s).m.a = s.m.a + 1) :
    ∀ (k : Nat) (s : KS), Inv s → (s.m.done = false → (lim : Int) + 1 - s.m.a ≤ k) → ∃ (N : Nat) (s' : KS), Alone tp r kd s N s' ∧ N ≤ k + 1 ∧ Inv s' ∧ s'.m.done = true := by
  intro k
  induction k with
  | zero =>
    intro s hs hk
    cases hd : s.m.done with
    | true =>
      exact ⟨1, s, Alone.last (hinv s hs) (kstep_done tp r kd s hd) hd, by omega, hs, hd⟩
    | false =>
      have h1 := hk hd
      have h2 := ha s hs hd
      omega
  | succ k ih =>
    intro s hs hk
    cases hd : s.m.done with
    | true =>
      exact ⟨1, s, Alone.last (hinv s hs) (kstep_done tp r kd s hd) hd, by omega, hs, hd⟩
    | false =>
      have h1 := hk hd
      cases hd1 : (kstep tp r kd s).m.done with
      | true => exact ⟨1, _, Alone.last (hinv s hs) rfl hd1, by omega, hstep s hs, hd1⟩
      | false =>
        obtain ⟨N, s', hA, hN, hI, hD⟩ := ih (kstep tp r kd s) (hstep s hs) (fun _ => by have := hup s hd; omega)
        exact ⟨N + 1, s', Alone.more (hinv s hs) rfl hd1 hA, by omega, hI, hD⟩
theorem pop_up (tp r : Nat) (s : KS) (h : s.m.done = false) : (kstep tp r .pop s).m.a = s.m.a + 1 := by
  simp only [kstep, popS, h]
  split
  · contradiction
  split
  · rename_i e; simp only [e]; rfl
  split
  · rename_i e; simp only [e]; rfl
  split
  · rename_i e; simp only [e]; rfl
  split
  · rename_i e
    split
    · simp only [e]; rfl
    · split <;> (simp only [e]; rfl)
  split
  · rename_i e; simp only [e]; rfl
  · rfl
theorem steal_up (tp r : Nat) (s : KS) (h : s.m.done = false) : (kstep tp r .steal s).m.a = s.m.a + 1 := by
  simp only [kstep, stealS, h]
  split
  · contradiction
  split
  · rename_i e; simp only [e]; rfl
  split
  · rename_i e
    split <;> (simp only [e]; rfl)
  split
  · rename_i e; simp only [e]; rfl
  · rfl
end Go.Proofs.Ytdgkemadhooogaa
