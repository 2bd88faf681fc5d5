/- One worker does not come: what the others' steps make. Plain. -/
import Derived.Test.YtghlpapljjcaeaaBarAllP
namespace Go.Proofs.Ytghlpapljjcaeaa
set_option linter.unusedVariables false
set_option linter.unusedSimpArgs false

/-- Rounds, till each was done t times. -/
def RW (t R i p : Nat) (ws : List Wk) : Prop := (6 * t ≤ R ∧ ∀ x ∈ ws, t ≤ x.d) ∨ (R < 6 * t ∧ ∃ a r, R = 6 * a + r ∧ r < 6 ∧ Rnd a r i p ws)
def WB (t : Nat) (ws : List Wk) : Prop := ∀ x ∈ ws, x.d ≤ t ∧ (x.d = t → x.st = 0)
/-- All were done t times; the k-th one is away. -/
def Aw (t k p : Nat) (ws : List Wk) : Prop := p = t ∧ (∀ x ∈ ws, x.d = t) ∧ ∀ x, ws[k]? = some x → x.st = 0
def Cm (t k i a p : Nat) (ws : List Wk) : Prop := Aw t k p ws ∧ (∀ (j : Nat) (x : Wk), j < i → j ≠ k → ws[j]? = some x → x.st = 4) ∧ (∀ x, i ≠ k → ws[i]? = some x → (1 ≤ a → 1 ≤ x.st) ∧ (2 ≤ a → x.st = 4))
def Kk (t k j p : Nat) (ws : List Wk) : Prop := (∀ (m : Nat) (x : Wk), m ≠ k → ws[m]? = some x → x.d = t ∧ x.st = 4) ∧ (∀ x, ws[k]? = some x → (j < 4 → p = t ∧ x.d = t ∧ x.st = j) ∧ (j = 4 → p = t + 1 ∧ x.d = t + 1 ∧ x.st = 0))
def Pp (t k i p : Nat) (ws : List Wk) : Prop := p = t + 1 ∧ ∀ (m : Nat) (x : Wk), ws[m]? = some x → (m = k ∨ m < i → x.d = t + 1 ∧ x.st = 0) ∧ (m ≠ k → i ≤ m → x.d = t ∧ x.st = 4)
section
variable {n p C i C' p' t R k a : Nat} {ws : List Wk} {w w' : Wk} {z : Bool}
theorem RW.start (h : BarI n p C ws) (h0 : p = 0) : RW t 0 0 p ws := by
  by_cases ht : t = 0
  · exact .inl ⟨by omega, fun x _ => by omega⟩
  · refine .inr ⟨by omega, 0, 0, rfl, by omega, ?_⟩
    have := Rnd.start h
    rw [h0] at this ⊢
    exact this
theorem RW.step (h : BarI n p C ws) (hn : 0 < n) (hi : ws[i]? = some w) (hr : RW t R i p ws) (hd : Did p p' w w' z) (hl : w.d < t) : RW t R (i + 1) p' (ws.set i w') := by
  rcases hr with ⟨h1, h2⟩ | ⟨h1, a, r, h2, h3, h4⟩
  · have := h2 w (h.mem hi); omega
  · exact .inr ⟨h1, a, r, h2, h3, h4.step h hn hi hd⟩
theorem RW.skip (h : BarI n p C ws) (hi : ws[i]? = some w) (hr : RW t R i p ws) (hl : ¬ w.d < t) : RW t R (i + 1) p ws := by
  rcases hr with h1 | ⟨h1, a, r, h2, h3, h4⟩
  · exact .inl h1
  · exact .inr ⟨h1, a, r, h2, h3, h4.skip h hi (by omega)⟩
theorem RW.next (h : BarI n p C ws) (hn : 0 < n) (hr : RW t R n p ws) : RW t (R + 1) 0 p ws := by
  rcases hr with ⟨h1, h2⟩ | ⟨h1, a, r, h2, h3, h4⟩
  · exact .inl ⟨by omega, h2⟩
  · have h5 := h4.next h
    by_cases h6 : r + 1 < 6
    · exact .inr ⟨by omega, a, r + 1, by omega, h6, h5⟩
    · obtain rfl : r = 5 := by omega
      by_cases h7 : a + 1 = t
      · exact .inl ⟨by omega, fun x hx => by have := h5.more (Nat.le_refl _) x hx; omega⟩
      · exact .inr ⟨by omega, a + 1, 0, by omega, by omega, h5.up h hn⟩
theorem RW.all (hr : RW t R i p ws) (h : 6 * t ≤ R) : ∀ x ∈ ws, t ≤ x.d := by
  rcases hr with ⟨h1, h2⟩ | ⟨h1, -⟩
  · exact h2
  · omega
theorem WB.step (hb : WB t ws) (hi : ws[i]? = some w) (hd : Did p p' w w' z) (hl : w.d < t) : WB t (ws.set i w') := fun x hx => by
  rcases mem_set' hx with e | e
  · exact hb x e
  · subst e
    rcases hd with ⟨-, h1, h2, -⟩ | ⟨-, h1, h2, -⟩
    · exact ⟨by omega, fun _ => by omega⟩
    · exact ⟨by omega, fun _ => h1⟩
theorem Aw.of (h : BarI n p C ws) (hn : 0 < n) (hb : WB t ws) (ha : ∀ x ∈ ws, t ≤ x.d) : Aw t k p ws := by
  have h1 : ∀ x ∈ ws, x.d = t ∧ x.st = 0 := fun x hx => by
    have h2 := hb x hx
    have h3 := ha x hx
    have h4 : x.d = t := by omega
    exact ⟨h4, h2.2 h4⟩
  refine ⟨?_, fun x hx => (h1 x hx).1, fun x hx => (h1 x (List.mem_of_getElem? hx)).2⟩
  have hl := h.len
  have h5 := List.getElem_mem (l := ws) (n := 0) (by omega)
  have h6 := h1 _ h5
  rcases h.dd _ h5 with e | ⟨-, e⟩ <;> omega
theorem Aw.st (h : BarI n p C ws) (ha : Aw t k p ws) (hk : k < n) : ∀ x ∈ ws, x.st = 0 ∨ x.st = 1 ∨ x.st = 4 := by
  have hl := h.len
  have hk' : ws[k]? = some (ws[k]'(by omega)) := List.getElem?_eq_getElem _
  have h0 := ha.2.2 _ hk'
  obtain ⟨-, h2, h3⟩ := h.room hk' (by simp [qp, h0])
  intro x hx
  have a2 := List.countP_eq_zero.1 h2 x hx
  have a3 := List.countP_eq_zero.1 h3 x hx
  have a4 := h.st x hx
  simp [q2, q3] at a2 a3
  omega
theorem Aw.step (h : BarI n p C ws) (h' : BarI n p' C' (ws.set i w')) (ha : Aw t k p ws) (hk : k < n) (hik : i ≠ k) (hi : ws[i]? = some w) (hd : Did p p' w w' z) :
    Aw t k p' (ws.set i w') ∧ z = false ∧ w'.d = w.d ∧ ((w.st = 0 ∧ w'.st = 1) ∨ (w.st = 1 ∧ w'.st = 4) ∨ (w.st = 4 ∧ w'.st = 4)) := by
  have hst := ha.st h hk w (h.mem hi)
  have hwd := ha.2.1 w (h.mem hi)
  have hp := ha.1
  have hil := (List.getElem?_eq_some_iff.1 hi).1
  rcases hd with ⟨h0, h1, h2, h3⟩ | ⟨h0, h1, h2, h3⟩
  · have hA : Aw t k p' (ws.set i w') := by
      refine ⟨by omega, fun x hx => ?_, fun x hx => ?_⟩
      · rcases mem_set' hx with e | e
        · exact ha.2.1 x e
        · subst e; omega
      · rw [List.getElem?_set_ne hik] at hx
        exact ha.2.2 x hx
    have hs' := hA.st h' hk w' (List.mem_of_getElem? (List.getElem?_set_self hil))
    refine ⟨hA, h0, h2, ?_⟩
    rcases h3 with ⟨h3, h4⟩ | ⟨h3, h4⟩ | ⟨h3, h4⟩ | ⟨h3, h4, h5⟩
    · exact .inl ⟨h3, h4⟩
    · exact .inr (.inl ⟨h3, by omega⟩)
    · omega
    · subst h5; exact .inr (.inr ⟨h3, h3⟩)
  · exfalso
    rcases h3 with ⟨h3, -⟩ | ⟨h3, h4, h5⟩ <;> omega
theorem Cm.start (ha : Aw t k p ws) (hs : ∀ x, ws[0]? = some x → True) : Cm t k 0 0 p ws := ⟨ha, fun j x hj => absurd hj (Nat.not_lt_zero _), fun x _ _ => ⟨fun h => absurd h (by omega), fun h => absurd h (by omega)⟩⟩
theorem Cm.step (h : BarI n p C ws) (h' : BarI n p' C' (ws.set i w')) (hc : Cm t k i a p ws) (hk : k < n) (hik : i ≠ k) (ha : a < 2) (hi : ws[i]? = some w) (hd : Did p p' w w' z) : Cm t k i (a + 1) p' (ws.set i w') := by
  obtain ⟨c1, c2, c3⟩ := hc
  obtain ⟨h1, h2, h3, h4⟩ := c1.step h h' hk hik hi hd
  have hil := (List.getElem?_eq_some_iff.1 hi).1
  have c4 := c3 w hik hi
  refine ⟨h1, fun j x hj hjk hx => ?_, fun x _ hx => ?_⟩
  · rw [List.getElem?_set_ne (by omega)] at hx
    exact c2 j x hj hjk hx
  · rw [List.getElem?_set_self hil] at hx
    cases hx
    refine ⟨fun _ => by omega, fun ha2 => ?_⟩
    have := c4.1 (by omega)
    omega
theorem Cm.skip (hc : Cm t k k a p ws) : Cm t k k (a + 1) p ws := ⟨hc.1, hc.2.1, fun x h => absurd rfl h⟩
theorem Cm.next (hc : Cm t k i 2 p ws) : Cm t k (i + 1) 0 p ws := by
  refine ⟨hc.1, fun j x hj hjk hx => ?_, fun x _ _ => ⟨fun h => absurd h (by omega), fun h => absurd h (by omega)⟩⟩
  by_cases e : j = i
  · subst e; exact (hc.2.2 x hjk hx).2 (Nat.le_refl _)
  · exact hc.2.1 j x (by omega) hjk hx
theorem Kk.start (h : BarI n p C ws) (hc : Cm t k n 0 p ws) : Kk t k 0 p ws := by
  refine ⟨fun m x hm hx => ⟨hc.1.2.1 x (List.mem_of_getElem? hx), hc.2.1 m x ?_ hm hx⟩, fun x hx => ⟨fun _ => ⟨hc.1.1, hc.1.2.1 x (List.mem_of_getElem? hx), hc.1.2.2 x hx⟩, fun h => by omega⟩⟩
  have := (List.getElem?_eq_some_iff.1 hx).1
  have := h.len
  omega
theorem Kk.step {j : Nat} (h' : BarI n p' C' (ws.set k w')) (hk : Kk t k j p ws) (hj : j < 4) (hi : ws[k]? = some w) (hd : Did p p' w w' z) :
    Kk t k (j + 1) p' (ws.set k w') ∧ w.d = t ∧ w'.d = (if j = 3 then t + 1 else t) := by
  have hil := (List.getElem?_eq_some_iff.1 hi).1
  obtain ⟨k1, k2⟩ := hk
  obtain ⟨hp, hwd, hws⟩ := (k2 w hi).1 hj
  have ho : ∀ (m : Nat) (x : Wk), m ≠ k → (ws.set k w')[m]? = some x → x.d = t ∧ x.st = 4 := fun m x hm hx => by
    rw [List.getElem?_set_ne (fun e => hm e.symm)] at hx
    exact k1 m x hm hx
  have hown : ∀ x, (ws.set k w')[k]? = some x → x = w' := fun x hx => by
    rw [List.getElem?_set_self hil] at hx
    cases hx
    rfl
  have h2 : w'.d = t → p' = t → w'.st = 4 → False := fun a1 a2 a3 => by
    have hall : ∀ x ∈ ws.set k w', x.d = t ∧ x.st = 4 := fun x hx => by
      obtain ⟨m, hm⟩ := List.mem_iff_getElem?.1 hx
      by_cases e : m = k
      · subst e; rw [hown x hm]; exact ⟨a1, a3⟩
      · exact ho m x e hm
    have e1 : (ws.set k w').countP (qp p') = (ws.set k w').length := List.countP_eq_length.2 (fun x hx => by have := hall x hx; simp [qp, this, a2])
    have e2 : (ws.set k w').countP q2 = 0 := List.countP_eq_zero.2 (fun x hx => by have := hall x hx; simp [q2, this])
    have e3 : (ws.set k w').countP q3 = 0 := List.countP_eq_zero.2 (fun x hx => by have := hall x hx; simp [q3, this])
    have h4 := h'.full
    rw [e1, h'.len] at h4
    have := h4.1 rfl
    omega
  rcases hd with ⟨h0, d1, d2, d3⟩ | ⟨h0, d1, d2, d3⟩
  · rcases d3 with ⟨d3, d4⟩ | ⟨d3, d4⟩ | ⟨d3, d4⟩ | ⟨d3, d4, d5⟩
    · exact ⟨⟨ho, fun x hx => by rw [hown x hx]; omega⟩, hwd, by rw [if_neg (by omega)]; omega⟩
    · have h4 : w'.st = 2 := d4.resolve_right (fun e => h2 (by omega) (by omega) e)
      exact ⟨⟨ho, fun x hx => by rw [hown x hx]; omega⟩, hwd, by rw [if_neg (by omega)]; omega⟩
    · exact ⟨⟨ho, fun x hx => by rw [hown x hx]; omega⟩, hwd, by rw [if_neg (by omega)]; omega⟩
    · omega
  · have hj3 : j = 3 := by rcases d3 with ⟨d3, -⟩ | ⟨d3, -⟩ <;> omega
    exact ⟨⟨ho, fun x hx => by rw [hown x hx]; omega⟩, hwd, by rw [if_pos hj3]; omega⟩
theorem Pp.start (hk : Kk t k 4 p ws) (hkl : k < ws.length) : Pp t k 0 p ws := by
  have h0 := (hk.2 _ (List.getElem?_eq_getElem hkl)).2 rfl
  refine ⟨h0.1, fun m x hx => ⟨fun e => ?_, fun hm _ => hk.1 m x hm hx⟩⟩
  rcases e with e | e
  · subst e; exact ((hk.2 x hx).2 rfl).2
  · omega
theorem Pp.step (hp : Pp t k i p ws) (hik : i ≠ k) (hi : ws[i]? = some w) (hd : Did p p' w w' z) : Pp t k (i + 1) p' (ws.set i w') ∧ w.d = t ∧ w'.d = t + 1 := by
  have hil := (List.getElem?_eq_some_iff.1 hi).1
  obtain ⟨h1, h2⟩ := hp
  obtain ⟨h3, h4⟩ := (h2 i w hi).2 hik (Nat.le_refl _)
  rcases hd with ⟨h0, d1, d2, d3⟩ | ⟨h0, d1, d2, d3⟩
  · exfalso
    rcases d3 with ⟨d3, d4⟩ | ⟨d3, d4⟩ | ⟨d3, d4⟩ | ⟨d3, d4, d5⟩ <;> omega
  · refine ⟨⟨by omega, fun m x hx => ?_⟩, h3, by omega⟩
    by_cases e : m = i
    · subst e
      rw [List.getElem?_set_self hil] at hx
      cases hx
      exact ⟨fun _ => ⟨by omega, d1⟩, fun _ h => by omega⟩
    · rw [List.getElem?_set_ne (fun e2 => e e2.symm)] at hx
      have := h2 m x hx
      exact ⟨fun e => this.1 (by omega), fun e1 e2 => this.2 e1 (by omega)⟩
theorem Pp.skip (hp : Pp t k k p ws) : Pp t k (k + 1) p ws := ⟨hp.1, fun m x hx => ⟨fun e => (hp.2 m x hx).1 (by omega), fun e1 e2 => (hp.2 m x hx).2 e1 (by omega)⟩⟩
theorem Pp.count (h : BarI n p C ws) (hp : Pp t k n p ws) : C = n := by
  have hall : ∀ x ∈ ws, x.st = 0 := fun x hx => by
    obtain ⟨m, hm⟩ := List.mem_iff_getElem?.1 hx
    have h1 := (List.getElem?_eq_some_iff.1 hm).1
    have h2 := h.len
    exact ((hp.2 m x hm).1 (by omega)).2
  have e1 : ws.countP (qp p) = 0 := List.countP_eq_zero.2 (fun x hx => by simp [qp, hall x hx])
  have e3 : ws.countP q3 = 0 := List.countP_eq_zero.2 (fun x hx => by simp [q3, hall x hx])
  have hn : 0 < n ∨ n = 0 := by omega
  have := h.cnt
  rw [e1, e3] at this
  rw [this]
  split <;> omega
end
end Go.Proofs.Ytghlpapljjcaeaa
