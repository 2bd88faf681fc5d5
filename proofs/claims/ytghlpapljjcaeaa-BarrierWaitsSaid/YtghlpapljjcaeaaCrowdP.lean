/- A worker's step, as the machine's step has it. Plain. -/
import Derived.Test.YtghlpapljjcaeaaBarModel
import Derived.Test.YtghlpapljjcaeaaBarGo
namespace Go.Proofs.Ytghlpapljjcaeaa
set_option linter.unusedVariables false
set_option linter.unusedSimpArgs false
open Go.RowKit

/-- The machine of a worker that goes on (one that is away begins anew). -/
def machOf (w : Wk) : MS := if w.st = 0 then ⟨0, 0, false⟩ else ⟨w.st, w.own, w.st == 2 || w.st == 3⟩
theorem wrap_less (C : Nat) (h : 1 ≤ C) (h2 : C ≤ 64) : wrap64 ((C : Int) + -1) = ((C - 1 : Nat) : Int) := by unfold wrap64; omega
theorem set_self {ws : List Wk} {i : Nat} {w : Wk} (hi : ws[i]? = some w) : ws.set i w = ws := by
  obtain ⟨h, rfl⟩ := List.getElem?_eq_some_iff.1 hi
  exact List.set_getElem_self h
/-- A step that does not pass. -/
def Prog (p : Nat) (w w' : Wk) : Prop := (w.st = 0 ∧ w'.st = 1) ∨ (w.st = 1 ∧ (w'.st = 2 ∨ w'.st = 4)) ∨ (w.st = 2 ∧ w'.st = 3) ∨ (w.st = 4 ∧ w.d = p ∧ w' = w)
/-- What a step makes of it: a worker, the count, how many phases ended; whether it passes. -/
def Goes (n p C : Nat) (ws : List Wk) (i : Nat) (w : Wk) (m' : MS) (z : Bool) (w' : Wk) (C' p' : Nat) : Prop :=
  BarI n p' C' (ws.set i w') ∧ (z = false → p' = p ∧ w'.st ≠ 0 ∧ w'.d = w.d ∧ m' = machOf w' ∧ Prog p w w') ∧
    (z = true → w'.st = 0 ∧ w'.d = w.d + 1 ∧ ((w.st = 3 ∧ w.d = p ∧ p' = p + 1 ∧ m'.last = true) ∨ (w.st = 4 ∧ p' = p ∧ w.d + 1 = p ∧ m'.last = false)))
theorem bgo_goes {n p C i : Nat} {ws : List Wk} {w : Wk} (h : BarI n p C ws) (hi : ws[i]? = some w) (hn : n ≤ 64) :
    ∃ (m' : MS) (z : Bool) (w' : Wk) (C' p' : Nat), bgo n (machOf w) C ((p % 2 : Nat) : Int) = (m', (C' : Int), ((p' % 2 : Nat) : Int)) ∧ (m'.nx == 5) = z ∧ 0 ≤ (machOf w).nx ∧ (machOf w).nx ≤ 5 ∧ Goes n p C ws i w m' z w' C' p' := by
  have hst := h.st w (h.mem hi)
  have hc : w.st = 0 ∨ w.st = 1 ∨ w.st = 2 ∨ w.st = 3 ∨ w.st = 4 := by omega
  rcases hc with e | e | e | e | e
  · obtain ⟨hd, hI⟩ := h.look hi e
    have em : machOf w = ⟨0, 0, false⟩ := by unfold machOf; rw [if_pos e]
    have eo : (if ((p % 2 : Nat) : Int) = 0 then (1 : Int) else 0) = (((p + 1) % 2 : Nat) : Int) := by split <;> omega
    refine ⟨⟨1, ((p + 1) % 2 : Nat), false⟩, false, ⟨w.d, 1, (p + 1) % 2⟩, C, p, ?_, rfl, by rw [em]; exact Int.le_refl 0, by rw [em]; show (0 : Int) ≤ 5; omega, hI, fun _ => ⟨rfl, by show (1 : Nat) ≠ 0; omega, rfl, rfl, .inl ⟨e, rfl⟩⟩, fun h => (by cases h)⟩
    rw [em]
    unfold bgo
    simp only [if_true]
    rw [eo]
  · obtain ⟨hd, h1, h2, hI⟩ := h.come hi e
    have em : machOf w = ⟨1, w.own, false⟩ := by unfold machOf; rw [if_neg (by omega), e]; rfl
    have hw := wrap_less C h1 (by omega)
    refine ⟨⟨((if C = 1 then 2 else 4 : Nat) : Int), w.own, decide (C = 1)⟩, false, ⟨w.d, if C = 1 then 2 else 4, w.own⟩, C - 1, p, ?_, ?_, by rw [em]; show (0 : Int) ≤ 1; omega, by rw [em]; show (1 : Int) ≤ 5; omega, hI, fun _ => ⟨rfl, ?_, rfl, ?_, .inr (.inl ⟨e, by by_cases hC : C = 1 <;> simp [hC]⟩)⟩, fun h => (by cases h)⟩
    · rw [em]
      unfold bgo
      simp only [hw]
      by_cases hC : C = 1
      · subst hC; rfl
      · have : ¬ ((C - 1 : Nat) : Int) = 0 := by omega
        have hb : (((C - 1 : Nat) : Int) == 0) = false := by simpa using this
        simp [hC, this, hb]
        omega
    · by_cases hC : C = 1 <;> simp [hC]
    · by_cases hC : C = 1 <;> simp [hC]
    · unfold machOf; by_cases hC : C = 1 <;> simp [hC]
  · obtain ⟨hd, hI⟩ := h.reset hi e
    have em : machOf w = ⟨2, w.own, true⟩ := by unfold machOf; rw [if_neg (by omega), e]; rfl
    refine ⟨⟨3, w.own, true⟩, false, ⟨w.d, 3, w.own⟩, n, p, by rw [em]; rfl, rfl, by rw [em]; show (0 : Int) ≤ 2; omega, by rw [em]; show (2 : Int) ≤ 5; omega, hI, fun _ => ⟨rfl, by show (3 : Nat) ≠ 0; omega, rfl, rfl, .inr (.inr (.inl ⟨e, rfl⟩))⟩, fun h => (by cases h)⟩
  · obtain ⟨hd, ho, hC, hI, -⟩ := h.turn hi e
    have em : machOf w = ⟨3, w.own, true⟩ := by unfold machOf; rw [if_neg (by omega), e]; rfl
    refine ⟨⟨5, w.own, true⟩, true, ⟨w.d + 1, 0, w.own⟩, n, p + 1, ?_, rfl, by rw [em]; show (0 : Int) ≤ 3; omega, by rw [em]; show (3 : Int) ≤ 5; omega, hI, fun h => (by cases h), fun _ => ⟨rfl, rfl, .inl ⟨e, hd, rfl, rfl⟩⟩⟩
    rw [em, hC]
    show (_, (n : Int), (w.own : Int)) = _
    rw [ho]
  · have em : machOf w = ⟨4, w.own, false⟩ := by unfold machOf; rw [if_neg (by omega), e]; rfl
    by_cases ho : p % 2 = w.own
    · obtain ⟨hd, hI⟩ := h.pass hi e ho
      refine ⟨⟨5, w.own, false⟩, true, ⟨w.d + 1, 0, w.own⟩, C, p, ?_, rfl, by rw [em]; show (0 : Int) ≤ 4; omega, by rw [em]; show (4 : Int) ≤ 5; omega, hI, fun h => (by cases h), fun _ => ⟨rfl, rfl, .inr ⟨e, rfl, hd, rfl⟩⟩⟩
      rw [em, ho]
      unfold bgo
      simp
    · have hd := h.wait hi e ho
      refine ⟨⟨4, w.own, false⟩, false, w, C, p, ?_, rfl, by rw [em]; show (0 : Int) ≤ 4; omega, by rw [em]; show (4 : Int) ≤ 5; omega, by rw [set_self hi]; exact h, fun _ => ⟨rfl, by omega, rfl, em.symm, .inr (.inr (.inr ⟨e, hd, rfl⟩))⟩, fun h => (by cases h)⟩
      rw [em]
      have hne : ¬ ((p % 2 : Nat) : Int) = (w.own : Int) := by omega
      unfold bgo
      simp only [hne, if_false]
      simp
end Go.Proofs.Ytghlpapljjcaeaa
