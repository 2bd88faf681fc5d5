/- Workers that come to a barrier again and again: what holds behind any steps. Plain. -/
import Derived.Test.YtghlpapljjcaeaaBase
namespace Go.Proofs.Ytghlpapljjcaeaa
set_option linter.unusedVariables false
set_option linter.unusedSimpArgs false

/-- A worker: how often it passed; its stage: 0 away, 1 it comes, 2 it sets the count anew, 3 it turns the sense, 4 it waits; its own sense. -/
structure Wk where
  d : Nat
  st : Nat
  own : Nat
theorem cP_set (q : Wk → Bool) : ∀ (l : List Wk) (i : Nat) (x y : Wk), l[i]? = some y → (l.set i x).countP q + (q y).toNat = l.countP q + (q x).toNat
  | [], i, x, y, h => by simp at h
  | a :: l, 0, x, y, h => by
    simp at h
    subst h
    simp only [List.set_cons_zero, List.countP_cons]
    cases q x <;> cases q a <;> simp
  | a :: l, i + 1, x, y, h => by
    simp at h
    have := cP_set q l i x y h
    simp only [List.set_cons_succ, List.countP_cons]
    omega
def q2 (w : Wk) : Bool := w.st == 2
def q3 (w : Wk) : Bool := w.st == 3
/-- Has it come in this phase? -/
def qp (p : Nat) (w : Wk) : Bool := decide (2 ≤ w.st) && decide (w.d = p)
structure BarI (n p : Nat) (C : Nat) (ws : List Wk) : Prop where
  len : ws.length = n
  st : ∀ w ∈ ws, w.st ≤ 4
  dd : ∀ w ∈ ws, w.d = p ∨ (w.d + 1 = p ∧ w.st = 4)
  ow : ∀ w ∈ ws, w.st ≠ 0 → w.own = (w.d + 1) % 2
  one : ws.countP q2 + ws.countP q3 ≤ 1
  full : ws.countP (qp p) = n ↔ ws.countP q2 + ws.countP q3 = 1
  cnt : C = if ws.countP q3 = 1 then n else n - ws.countP (qp p)
theorem BarI.start (n : Nat) (hn : 0 < n) : BarI n 0 n (List.replicate n ⟨0, 0, 0⟩) := by
  have h2 : (List.replicate n (⟨0, 0, 0⟩ : Wk)).countP q2 = 0 := List.countP_eq_zero.2 (fun w hw => by rw [(List.mem_replicate.1 hw).2]; decide)
  have h3 : (List.replicate n (⟨0, 0, 0⟩ : Wk)).countP q3 = 0 := List.countP_eq_zero.2 (fun w hw => by rw [(List.mem_replicate.1 hw).2]; decide)
  have hp : (List.replicate n (⟨0, 0, 0⟩ : Wk)).countP (qp 0) = 0 := List.countP_eq_zero.2 (fun w hw => by rw [(List.mem_replicate.1 hw).2]; decide)
  refine ⟨by simp, fun w hw => ?_, fun w hw => ?_, fun w hw h => ?_, by omega, by omega, ?_⟩
  · rw [(List.mem_replicate.1 hw).2]; decide
  · rw [(List.mem_replicate.1 hw).2]; exact .inl rfl
  · rw [(List.mem_replicate.1 hw).2] at h; exact absurd rfl h
  · rw [h3, hp, if_neg (by omega)]; omega
theorem mem_set' {l : List Wk} {i : Nat} {x w : Wk} (h : w ∈ l.set i x) : w ∈ l ∨ w = x := List.mem_or_eq_of_mem_set h
section
variable {n p C i : Nat} {ws : List Wk} {w : Wk}
theorem BarI.mem (h : BarI n p C ws) (hi : ws[i]? = some w) : w ∈ ws := List.mem_of_getElem? hi
/-- Away: it begins, and reads the sense. -/
theorem BarI.look (h : BarI n p C ws) (hi : ws[i]? = some w) (hs : w.st = 0) : w.d = p ∧ BarI n p C (ws.set i ⟨w.d, 1, (p + 1) % 2⟩) := by
  have hm := h.mem hi
  have hd : w.d = p := by
    rcases h.dd w hm with e | ⟨-, e⟩
    · exact e
    · omega
  have a2 := cP_set q2 ws i ⟨w.d, 1, (p + 1) % 2⟩ w hi
  have a3 := cP_set q3 ws i ⟨w.d, 1, (p + 1) % 2⟩ w hi
  have ap := cP_set (qp p) ws i ⟨w.d, 1, (p + 1) % 2⟩ w hi
  have e2 : q2 w = false := by simp [q2, hs]
  have e3 : q3 w = false := by simp [q3, hs]
  have ep : qp p w = false := by simp [qp, hs]
  rw [e2] at a2; rw [e3] at a3; rw [ep] at ap
  simp [q2, q3, qp] at a2 a3 ap
  refine ⟨hd, by rw [List.length_set]; exact h.len, fun x hx => ?_, fun x hx => ?_, fun x hx hne => ?_, ?_, ?_, ?_⟩
  · rcases mem_set' hx with e | e
    · exact h.st x e
    · subst e; show 1 ≤ 4; omega
  · rcases mem_set' hx with e | e
    · exact h.dd x e
    · subst e; exact .inl hd
  · rcases mem_set' hx with e | e
    · exact h.ow x e hne
    · subst e; show (p + 1) % 2 = (w.d + 1) % 2; rw [hd]
  · have := h.one; omega
  · have := h.full; omega
  · have := h.cnt; rw [show (ws.set i ⟨w.d, 1, (p + 1) % 2⟩).countP q3 = ws.countP q3 by omega, show (ws.set i ⟨w.d, 1, (p + 1) % 2⟩).countP (qp p) = ws.countP (qp p) by omega]; exact this
theorem BarI.room (h : BarI n p C ws) (hi : ws[i]? = some w) (hq : qp p w = false) : ws.countP (qp p) + 1 ≤ n ∧ ws.countP q2 = 0 ∧ ws.countP q3 = 0 := by
  have h1 : ws.countP (qp p) ≤ ws.length := List.countP_le_length
  have h2 : ws.countP (qp p) ≠ ws.length := fun e => by
    have := List.countP_eq_length.1 e w (h.mem hi)
    rw [hq] at this
    cases this
  have h3 := h.len
  have h4 := h.full
  have h5 := h.one
  omega
/-- It comes. -/
theorem BarI.come (h : BarI n p C ws) (hi : ws[i]? = some w) (hs : w.st = 1) : w.d = p ∧ 1 ≤ C ∧ C ≤ n ∧ BarI n p (C - 1) (ws.set i ⟨w.d, if C = 1 then 2 else 4, w.own⟩) := by
  have hm := h.mem hi
  have hd : w.d = p := by
    rcases h.dd w hm with e | ⟨-, e⟩
    · exact e
    · omega
  have ep : qp p w = false := by simp [qp, hs]
  obtain ⟨r1, r2, r3⟩ := h.room hi ep
  have hc := h.cnt
  rw [if_neg (by omega)] at hc
  have hC : 1 ≤ C := by omega
  obtain ⟨t, ht⟩ : ∃ t, (if C = 1 then 2 else 4) = t := ⟨_, rfl⟩
  rw [ht]
  have a2 := cP_set q2 ws i ⟨w.d, t, w.own⟩ w hi
  have a3 := cP_set q3 ws i ⟨w.d, t, w.own⟩ w hi
  have ap := cP_set (qp p) ws i ⟨w.d, t, w.own⟩ w hi
  have e2 : q2 w = false := by simp [q2, hs]
  have e3 : q3 w = false := by simp [q3, hs]
  rw [e2] at a2; rw [e3] at a3; rw [ep] at ap
  have t3 : q3 ⟨w.d, t, w.own⟩ = false := by rw [← ht]; unfold q3; split <;> rfl
  have tp : qp p ⟨w.d, t, w.own⟩ = true := by rw [← ht]; unfold qp; simp only [hd]; split <;> simp
  rw [t3] at a3; rw [tp] at ap
  simp at a3 ap a2
  have t2 : (q2 ⟨w.d, t, w.own⟩).toNat = if C = 1 then 1 else 0 := by rw [← ht]; unfold q2; split <;> rfl
  refine ⟨hd, hC, by omega, by rw [List.length_set]; exact h.len, fun x hx => ?_, fun x hx => ?_, fun x hx hne => ?_, ?_, ?_, ?_⟩
  · rcases mem_set' hx with e | e
    · exact h.st x e
    · subst e; show t ≤ 4; rw [← ht]; split <;> omega
  · rcases mem_set' hx with e | e
    · exact h.dd x e
    · subst e; exact .inl hd
  · rcases mem_set' hx with e | e
    · exact h.ow x e hne
    · subst e; exact h.ow w hm (by omega)
  · split at t2 <;> omega
  · split at t2 <;> omega
  · rw [if_neg (by omega)]; omega
/-- It sets the count anew. -/
theorem BarI.reset (h : BarI n p C ws) (hi : ws[i]? = some w) (hs : w.st = 2) : w.d = p ∧ BarI n p n (ws.set i ⟨w.d, 3, w.own⟩) := by
  have hm := h.mem hi
  have hd : w.d = p := by
    rcases h.dd w hm with e | ⟨-, e⟩
    · exact e
    · omega
  have a2 := cP_set q2 ws i ⟨w.d, 3, w.own⟩ w hi
  have a3 := cP_set q3 ws i ⟨w.d, 3, w.own⟩ w hi
  have ap := cP_set (qp p) ws i ⟨w.d, 3, w.own⟩ w hi
  have e2 : q2 w = true := by simp [q2, hs]
  have e3 : q3 w = false := by simp [q3, hs]
  have ep : qp p w = true := by simp [qp, hs, hd]
  have t2 : q2 ⟨w.d, 3, w.own⟩ = false := rfl
  have t3 : q3 ⟨w.d, 3, w.own⟩ = true := rfl
  have tp : qp p ⟨w.d, 3, w.own⟩ = true := by simp [qp, hd]
  rw [e2, t2] at a2; rw [e3, t3] at a3; rw [ep, tp] at ap
  simp only [Bool.toNat_true, Bool.toNat_false] at a2 a3 ap
  have h1 := h.one
  have h2 := h.full
  refine ⟨hd, by rw [List.length_set]; exact h.len, fun x hx => ?_, fun x hx => ?_, fun x hx hne => ?_, ?_, ?_, ?_⟩
  · rcases mem_set' hx with e | e
    · exact h.st x e
    · subst e; show 3 ≤ 4; omega
  · rcases mem_set' hx with e | e
    · exact h.dd x e
    · subst e; exact .inl hd
  · rcases mem_set' hx with e | e
    · exact h.ow x e hne
    · subst e; exact h.ow w hm (by omega)
  · omega
  · omega
  · rw [if_pos (by omega)]
/-- It turns the sense: all may pass, and it does. -/
theorem BarI.turn (h : BarI n p C ws) (hi : ws[i]? = some w) (hs : w.st = 3) : w.d = p ∧ w.own = (p + 1) % 2 ∧ C = n ∧ BarI n (p + 1) n (ws.set i ⟨w.d + 1, 0, w.own⟩) ∧ ∀ x ∈ ws, x.d = p ∧ (x.st = 3 ∨ x.st = 4) := by
  have hm := h.mem hi
  have hd : w.d = p := by
    rcases h.dd w hm with e | ⟨-, e⟩
    · exact e
    · omega
  have e3 : q3 w = true := by simp [q3, hs]
  have p3 : 1 ≤ ws.countP q3 := List.countP_pos_iff.2 ⟨w, hm, e3⟩
  have h1 := h.one
  have hA : ws.countP (qp p) = n := h.full.2 (by omega)
  have all : ∀ x ∈ ws, qp p x = true := List.countP_eq_length.1 (by rw [hA, h.len])
  have no2 : ∀ x ∈ ws, ¬ q2 x = true := List.countP_eq_zero.1 (by omega)
  have all' : ∀ x ∈ ws, x.d = p ∧ (x.st = 3 ∨ x.st = 4) := fun x hx => by
    have a := all x hx
    have b := no2 x hx
    have c := h.st x hx
    simp [qp, q2] at a b
    omega
  have hC : C = n := by have := h.cnt; rw [if_pos (by omega)] at this; exact this
  have hown := h.ow w hm (by omega)
  rw [hd] at hown
  have a3 := cP_set q3 ws i ⟨w.d + 1, 0, w.own⟩ w hi
  have a2 := cP_set q2 ws i ⟨w.d + 1, 0, w.own⟩ w hi
  have e2 : q2 w = false := by simp [q2, hs]
  rw [e3] at a3; rw [e2] at a2
  simp [q2, q3] at a2 a3
  have np : (ws.set i ⟨w.d + 1, 0, w.own⟩).countP (qp (p + 1)) = 0 := List.countP_eq_zero.2 (fun x hx => by
    rcases mem_set' hx with e | e
    · have := (all' x e).1; simp [qp]; omega
    · subst e; simp [qp])
  have hn : 0 < n := by have := List.length_pos_of_mem hm; have := h.len; omega
  refine ⟨hd, hown, hC, ⟨by rw [List.length_set]; exact h.len, fun x hx => ?_, fun x hx => ?_, fun x hx hne => ?_, by omega, by omega, ?_⟩, all'⟩
  · rcases mem_set' hx with e | e
    · exact h.st x e
    · subst e; show 0 ≤ 4; omega
  · rcases mem_set' hx with e | e
    · have := all' x e
      by_cases e4 : x.st = 4
      · exact .inr ⟨by omega, e4⟩
      · exfalso
        -- two at the sense: not so
        have hx3 : q3 x = true := by simp [q3]; omega
        have : 1 ≤ (ws.set i ⟨w.d + 1, 0, w.own⟩).countP q3 := List.countP_pos_iff.2 ⟨x, hx, hx3⟩
        omega
    · subst e; exact .inl (by show w.d + 1 = p + 1; omega)
  · rcases mem_set' hx with e | e
    · exact h.ow x e hne
    · subst e; exact absurd rfl hne
  · rw [if_neg (by omega), np]; omega
/-- It passes, where the sense was turned. -/
theorem BarI.pass (h : BarI n p C ws) (hi : ws[i]? = some w) (hs : w.st = 4) (ho : p % 2 = w.own) : w.d + 1 = p ∧ BarI n p C (ws.set i ⟨w.d + 1, 0, w.own⟩) := by
  have hm := h.mem hi
  have hown := h.ow w hm (by omega)
  have hd : w.d + 1 = p := by
    rcases h.dd w hm with e | ⟨e, -⟩
    · omega
    · exact e
  have a2 := cP_set q2 ws i ⟨w.d + 1, 0, w.own⟩ w hi
  have a3 := cP_set q3 ws i ⟨w.d + 1, 0, w.own⟩ w hi
  have ap := cP_set (qp p) ws i ⟨w.d + 1, 0, w.own⟩ w hi
  have e2 : q2 w = false := by simp [q2, hs]
  have e3 : q3 w = false := by simp [q3, hs]
  have ep : qp p w = false := by simp [qp, hs]; omega
  rw [e2] at a2; rw [e3] at a3; rw [ep] at ap
  simp [q2, q3, qp] at a2 a3 ap
  refine ⟨hd, by rw [List.length_set]; exact h.len, fun x hx => ?_, fun x hx => ?_, fun x hx hne => ?_, ?_, ?_, ?_⟩
  · rcases mem_set' hx with e | e
    · exact h.st x e
    · subst e; show 0 ≤ 4; omega
  · rcases mem_set' hx with e | e
    · exact h.dd x e
    · subst e; exact .inl hd
  · rcases mem_set' hx with e | e
    · exact h.ow x e hne
    · subst e; exact absurd rfl hne
  · have := h.one; omega
  · have := h.full; omega
  · have := h.cnt; rw [show (ws.set i ⟨w.d + 1, 0, w.own⟩).countP q3 = ws.countP q3 by omega, show (ws.set i ⟨w.d + 1, 0, w.own⟩).countP (qp p) = ws.countP (qp p) by omega]; exact this
/-- It waits on. -/
theorem BarI.wait (h : BarI n p C ws) (hi : ws[i]? = some w) (hs : w.st = 4) (ho : ¬ p % 2 = w.own) : w.d = p := by
  have hm := h.mem hi
  have hown := h.ow w hm (by omega)
  rcases h.dd w hm with e | ⟨e, -⟩
  · exact e
  · omega
/-- How often it began. -/
def Wk.b (w : Wk) : Nat := if w.st = 0 then w.d else w.d + 1
/-- Nobody is done ahead of all having begun. -/
theorem BarI.began (h : BarI n p C ws) : ∀ x ∈ ws, p ≤ x.b := fun x hx => by
  unfold Wk.b
  rcases h.dd x hx with e | ⟨e, e4⟩
  · split <;> omega
  · rw [if_neg (by omega)]; omega
theorem BarI.near (h : BarI n p C ws) : ∀ x ∈ ws, x.d ≤ p ∧ p ≤ x.d + 1 := fun x hx => by
  rcases h.dd x hx with e | ⟨e, e4⟩ <;> omega
end
end Go.Proofs.Ytghlpapljjcaeaa
