/- Rounds of steps of a crowd: how far each worker is. Plain. -/
import Derived.Test.YtghlpapljjcaeaaCrowdP
namespace Go.Proofs.Ytghlpapljjcaeaa
set_option linter.unusedVariables false
set_option linter.unusedSimpArgs false

/-- Counted from p0 phases: how far a worker is. -/
def Lv (p0 p : Nat) (w : Wk) (r : Nat) : Prop :=
  (r = 0 → p0 ≤ w.d + 1) ∧ (r = 1 → p0 ≤ w.d) ∧ (r = 2 → p0 < w.d ∨ (w.d = p0 ∧ 1 ≤ w.st)) ∧ (r = 3 → p0 < w.d ∨ (w.d = p0 ∧ 2 ≤ w.st)) ∧
    (r = 4 → p0 < p ∨ (w.d = p0 ∧ 3 ≤ w.st)) ∧ (r = 5 → p0 < p ∨ (w.d = p0 ∧ w.st = 4)) ∧ (6 ≤ r → p0 < w.d)
/-- What a step does, in numbers. -/
def Did (p p' : Nat) (w w' : Wk) (z : Bool) : Prop :=
  (z = false ∧ p' = p ∧ w'.d = w.d ∧ Prog p w w') ∨ (z = true ∧ w'.st = 0 ∧ w'.d = w.d + 1 ∧ ((w.st = 3 ∧ w.d = p ∧ p' = p + 1) ∨ (w.st = 4 ∧ p' = p ∧ w.d + 1 = p)))
section
variable {n p C i C' p' p0 r : Nat} {ws : List Wk} {w w' : Wk} {m' : MS} {z : Bool}
theorem Goes.did (h : Goes n p C ws i w m' z w' C' p') : Did p p' w w' z := by
  obtain ⟨-, h2, h3⟩ := h
  cases z with
  | false => obtain ⟨a, -, b, -, c⟩ := h2 rfl; exact .inl ⟨rfl, a, b, c⟩
  | true =>
    obtain ⟨a, b, c⟩ := h3 rfl
    refine .inr ⟨rfl, a, b, ?_⟩
    rcases c with ⟨c1, c2, c3, -⟩ | ⟨c1, c2, c3, -⟩
    · exact .inl ⟨c1, c2, c3⟩
    · exact .inr ⟨c1, c2, c3⟩
theorem Did.le (h : Did p p' w w' z) : p ≤ p' := by
  rcases h with ⟨-, h, -⟩ | ⟨-, -, -, h⟩ <;> omega
theorem Lv.mono {x : Wk} (h : Lv p0 p x r) (hp : p ≤ p') : Lv p0 p' x r := by
  obtain ⟨a, b, c, d, e, f, g⟩ := h
  exact ⟨a, b, c, d, fun k => by have := e k; omega, fun k => by have := f k; omega, g⟩
theorem Lv.own (h : Lv p0 p w r) (hd : Did p p' w w' z) (hn : w.d ≤ p ∧ p ≤ w.d + 1) : Lv p0 p' w' r := by
  obtain ⟨a, b, c, d, e, f, g⟩ := h
  rcases hd with ⟨-, h1, h2, h3⟩ | ⟨-, h1, h2, h3⟩
  · rcases h3 with ⟨h3, h4⟩ | ⟨h3, h4⟩ | ⟨h3, h4⟩ | ⟨h3, h4, h5⟩
    · refine ⟨?_, ?_, ?_, ?_, ?_, ?_, ?_⟩ <;> intro k <;> omega
    · refine ⟨?_, ?_, ?_, ?_, ?_, ?_, ?_⟩ <;> intro k <;> omega
    · refine ⟨?_, ?_, ?_, ?_, ?_, ?_, ?_⟩ <;> intro k <;> omega
    · subst h5; subst h1; exact ⟨a, b, c, d, e, f, g⟩
  · refine ⟨?_, ?_, ?_, ?_, ?_, ?_, ?_⟩ <;> intro k <;> omega
/-- Where all are at the fifth one the phase is over. -/
theorem BarI.over (h : BarI n p C ws) (hn : 0 < n) (ha : ∀ x ∈ ws, Lv p0 p x 5) : p0 < p := by
  apply Classical.byContradiction
  intro hp
  have h1 : ∀ x ∈ ws, x.d = p ∧ x.st = 4 := fun x hx => by
    have h2 := (ha x hx).2.2.2.2.2.1 rfl
    have h3 := h.near x hx
    omega
  have e1 : ws.countP (qp p) = ws.length := List.countP_eq_length.2 (fun x hx => by have := h1 x hx; simp [qp, this])
  have e2 : ws.countP q2 = 0 := List.countP_eq_zero.2 (fun x hx => by have := h1 x hx; simp [q2, this])
  have e3 : ws.countP q3 = 0 := List.countP_eq_zero.2 (fun x hx => by have := h1 x hx; simp [q3, this])
  have h4 := h.full
  rw [e1, h.len] at h4
  have := h4.1 rfl
  omega
theorem Lv.adv (h : BarI n p C ws) (hn : 0 < n) (h00 : p0 ≤ p) (hi : ws[i]? = some w) (ha : ∀ x ∈ ws, Lv p0 p x r) (hd : Did p p' w w' z) : Lv p0 p' w' (r + 1) := by
  have hm := h.mem hi
  have hnr := h.near w hm
  have h4 := h.dd w hm
  obtain ⟨a, b, c, d, e, f, g⟩ := ha w hm
  have hov : r = 5 → p0 < p := fun e => by subst e; exact h.over hn ha
  rcases hd with ⟨-, h1, h2, h3⟩ | ⟨-, h1, h2, h3⟩
  · rcases h3 with ⟨h3, h5⟩ | ⟨h3, h5⟩ | ⟨h3, h5⟩ | ⟨h3, h5, h6⟩
    · refine ⟨?_, ?_, ?_, ?_, ?_, ?_, ?_⟩ <;> intro k
      · omega
      · have := a (by omega); omega
      · have := b (by omega); omega
      · have := c (by omega); omega
      · have := d (by omega); omega
      · have := e (by omega); omega
      · by_cases k5 : r = 5
        · have := hov k5; omega
        · have := g (by omega); omega
    · refine ⟨?_, ?_, ?_, ?_, ?_, ?_, ?_⟩ <;> intro k
      · omega
      · have := a (by omega); omega
      · have := b (by omega); omega
      · have := c (by omega); omega
      · have := d (by omega); omega
      · have := e (by omega); omega
      · by_cases k5 : r = 5
        · have := hov k5; omega
        · have := g (by omega); omega
    · refine ⟨?_, ?_, ?_, ?_, ?_, ?_, ?_⟩ <;> intro k
      · omega
      · have := a (by omega); omega
      · have := b (by omega); omega
      · have := c (by omega); omega
      · have := d (by omega); omega
      · have := e (by omega); omega
      · by_cases k5 : r = 5
        · have := hov k5; omega
        · have := g (by omega); omega
    · subst h6
      refine ⟨?_, ?_, ?_, ?_, ?_, ?_, ?_⟩ <;> intro k
      · omega
      · have := a (by omega); omega
      · have := b (by omega); omega
      · have := c (by omega); omega
      · have := d (by omega); omega
      · have := e (by omega); omega
      · by_cases k5 : r = 5
        · have := hov k5; omega
        · have := g (by omega); omega
  · refine ⟨?_, ?_, ?_, ?_, ?_, ?_, ?_⟩ <;> intro k
    · omega
    · have := a (by omega); omega
    · have := b (by omega); omega
    · have := c (by omega); omega
    · have := d (by omega); omega
    · have := e (by omega); omega
    · by_cases k5 : r = 5
      · have := hov k5; omega
      · have := g (by omega); omega
theorem Lv.far {x : Wk} (h : p0 < x.d) (hx : x.d ≤ p) : Lv p0 p x r := ⟨fun _ => by omega, fun _ => by omega, fun _ => by omega, fun _ => by omega, fun _ => by omega, fun _ => by omega, fun _ => h⟩
/-- In a round: all are so far, those ahead of i one more. -/
def Rnd (p0 r i p : Nat) (ws : List Wk) : Prop := p0 ≤ p ∧ (∀ x ∈ ws, Lv p0 p x r) ∧ ∀ (j : Nat) (x : Wk), j < i → ws[j]? = some x → Lv p0 p x (r + 1)
theorem Rnd.step (h : BarI n p C ws) (hn : 0 < n) (hi : ws[i]? = some w) (hr : Rnd p0 r i p ws) (hd : Did p p' w w' z) : Rnd p0 r (i + 1) p' (ws.set i w') := by
  have hm := h.mem hi
  have hil := (List.getElem?_eq_some_iff.1 hi).1
  obtain ⟨h0, h1, h2⟩ := hr
  refine ⟨Nat.le_trans h0 hd.le, fun x hx => ?_, fun j x hj hx => ?_⟩
  · rcases mem_set' hx with e | e
    · exact (h1 x e).mono hd.le
    · subst e; exact (h1 w hm).own hd (h.near w hm)
  · by_cases e : j = i
    · subst e
      rw [List.getElem?_set_self hil] at hx
      cases hx
      exact Lv.adv h hn h0 hi h1 hd
    · rw [List.getElem?_set_ne (fun e2 => e e2.symm)] at hx
      exact (h2 j x (by omega) hx).mono hd.le
theorem Rnd.skip (h : BarI n p C ws) (hi : ws[i]? = some w) (hr : Rnd p0 r i p ws) (hd : p0 < w.d) : Rnd p0 r (i + 1) p ws := by
  refine ⟨hr.1, hr.2.1, fun j x hj hx => ?_⟩
  by_cases e : j = i
  · subst e
    rw [hi] at hx
    cases hx
    exact Lv.far hd (h.near w (h.mem hi)).1
  · exact hr.2.2 j x (by omega) hx
theorem Rnd.next (h : BarI n p C ws) (hr : Rnd p0 r n p ws) : Rnd p0 (r + 1) 0 p ws := by
  refine ⟨hr.1, fun x hx => ?_, fun j x hj => absurd hj (Nat.not_lt_zero _)⟩
  obtain ⟨j, hj, rfl⟩ := List.mem_iff_getElem.1 hx
  exact hr.2.2 j _ (by rw [← h.len]; exact hj) (List.getElem?_eq_getElem hj)
theorem Rnd.more (hr : Rnd p0 r 0 p ws) (h6 : 6 ≤ r) : ∀ x ∈ ws, p0 < x.d := fun x hx => (hr.2.1 x hx).2.2.2.2.2.2 h6
theorem Rnd.up (h : BarI n p C ws) (hn : 0 < n) (hr : Rnd p0 6 0 p ws) : Rnd (p0 + 1) 0 0 p ws := by
  have hm := hr.more (Nat.le_refl _)
  have hl := h.len
  refine ⟨?_, fun x hx => ?_, fun j x hj => absurd hj (Nat.not_lt_zero _)⟩
  · have h1 : ws[0]'(by omega) ∈ ws := List.getElem_mem _
    have := hm _ h1
    have := h.near _ h1
    omega
  · have := hm x hx
    exact ⟨fun _ => by omega, fun h => absurd h (by decide), fun h => absurd h (by decide), fun h => absurd h (by decide), fun h => absurd h (by decide), fun h => absurd h (by decide), fun h => absurd h (by decide)⟩
theorem Rnd.start (h : BarI n p C ws) : Rnd p 0 0 p ws := by
  refine ⟨Nat.le_refl _, fun x hx => ?_, fun j x hj => absurd hj (Nat.not_lt_zero _)⟩
  have := h.near x hx
  exact ⟨fun _ => by omega, fun h => absurd h (by decide), fun h => absurd h (by decide), fun h => absurd h (by decide), fun h => absurd h (by decide), fun h => absurd h (by decide), fun h => absurd h (by decide)⟩
end
end Go.Proofs.Ytghlpapljjcaeaa
