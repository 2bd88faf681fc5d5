/- Rows of cells in a block, each of k cells. No program in sight. -/
import Derived.Test.YtdgkemadhooogaaPush
import Derived.Deep.MidRow
namespace Go.Proofs.Ytdgkemadhooogaa
set_option linter.unusedVariables false
set_option linter.unusedSimpArgs false
open Go.RowKit

theorem flat_at {α : Type} (k : Nat) : ∀ (ls : List (List α)), (∀ l ∈ ls, l.length = k) → ∀ i j, j < k → (h : i < ls.length) → ls.flatten[i * k + j]? = (ls[i])[j]?
  | [], _, i, j, _, h => by simp at h
  | l :: ls, hl, 0, j, hj, h => by
    have : l.length = k := hl l (by simp)
    simp [List.getElem?_append_left (show j < l.length by omega)]
  | l :: ls, hl, i + 1, j, hj, h => by
    have h0 : l.length = k := hl l (by simp)
    have := flat_at k ls (fun x hx => hl x (by simp [hx])) i j hj (by simpa using h)
    rw [List.flatten_cons, List.getElem?_append_right (by rw [h0, Nat.add_mul]; omega), h0, show (i + 1) * k + j - k = i * k + j by rw [Nat.add_mul]; omega, this]
    simp
theorem flat_set {α : Type} (k : Nat) (v : α) : ∀ (ls : List (List α)), (∀ l ∈ ls, l.length = k) → ∀ i j, j < k → (h : i < ls.length) → ls.flatten.set (i * k + j) v = (ls.set i ((ls[i]).set j v)).flatten
  | [], _, i, j, _, h => by simp at h
  | l :: ls, hl, 0, j, hj, h => by
    have : l.length = k := hl l (by simp)
    simp [List.set_append_left _ _ (show j < l.length by omega)]
  | l :: ls, hl, i + 1, j, hj, h => by
    have h0 : l.length = k := hl l (by simp)
    have := flat_set k v ls (fun x hx => hl x (by simp [hx])) i j hj (by simpa using h)
    rw [List.flatten_cons, List.set_append_right _ _ (by rw [h0, Nat.add_mul]; omega), h0, show (i + 1) * k + j - k = i * k + j by rw [Nat.add_mul]; omega, this]
    simp

/-- A block of rows of k cells. -/
structure Rows (w : World) (b k : Nat) (T : TypeId) (ls : List (List Value)) : Prop where
  blk : Blk w b ls.flatten.toArray T
  len : ∀ l ∈ ls, l.length = k
theorem Rows.upd {w w' : World} {b k : Nat} {T : TypeId} {ls : List (List Value)} {S : Nat → Prop} (h : Rows w b k T ls) (hu : Upd S w w') (hs : ¬ S b) : Rows w' b k T ls := ⟨h.blk.upd hu hs, h.len⟩
theorem Rows.kept {w w' : World} {b k : Nat} {T : TypeId} {ls : List (List Value)} (h : Rows w b k T ls) (hu : Kept w w') : Rows w' b k T ls := h.upd hu (fun f => f)
theorem Rows.cell {w : World} {b k : Nat} {T : TypeId} {ls : List (List Value)} (h : Rows w b k T ls) {i o : Nat} {l : List Value} (hi : ls[i]? = some l) (ho : o = i * k) (j : Nat) (hj : j < k) : w.cell? ⟨b, o + j, none⟩ = l[j]? := by
  subst ho
  obtain ⟨h1, rfl⟩ := List.getElem?_eq_some_iff.1 hi
  rw [h.blk.cell]
  simpa using flat_at k ls h.len i j hj h1
theorem Rows.put {w : World} {b k i j : Nat} {T : TypeId} {ls : List (List Value)} (h : Rows w b k T ls) (hi : i < ls.length) (hj : j < k) (v : Value) : Rows (w.setCell ⟨b, i * k + j, none⟩ v) b k T (ls.set i ((ls[i]).set j v)) := by
  refine ⟨?_, fun l hl => ?_⟩
  · have := h.blk.set (i * k + j) v
    rw [List.setIfInBounds_toArray, flat_set k v ls h.len i j hj hi] at this
    exact this
  · rcases List.mem_or_eq_of_mem_set hl with h1 | rfl
    · exact h.len l h1
    · rw [List.length_set]; exact h.len _ (List.getElem_mem hi)
/-- A row, overwritten from cell j on. -/
def ow : List Value → Nat → List Value → List Value
  | l, _, [] => l
  | l, j, v :: vs => ow (l.set j v) (j + 1) vs
theorem ow_full : ∀ (vs l : List Value) (j : Nat), l.length = j + vs.length → ow l j vs = l.take j ++ vs
  | [], l, j, h => by simp at h; simp [ow, ← h]
  | v :: vs, l, j, h => by
    have h' : l.length = j + vs.length + 1 := by simpa [Nat.add_assoc] using h
    rw [ow, ow_full vs (l.set j v) (j + 1) (by simp; omega)]
    have hj : j < l.length := by omega
    rw [List.take_succ_eq_append_getElem (by simpa using hj), List.take_set_of_le (Nat.le_refl _)]
    simp
theorem Rows.over {b k i : Nat} {T : TypeId} : ∀ (vs : List Value) (w : World) (ls : List (List Value)) (l : List Value) (j : Nat), Rows w b k T ls → ls[i]? = some l → j + vs.length ≤ k → Rows (w.setCells b (i * k + j) vs) b k T (ls.set i (ow l j vs)) ∧ Upd (fun x => x = b) w (w.setCells b (i * k + j) vs)
  | [], w, ls, l, j, h, hi, hj => by
    obtain ⟨h1, rfl⟩ := List.getElem?_eq_some_iff.1 hi
    refine ⟨?_, Upd.refl _ _⟩
    show Rows w b k T (ls.set i ls[i])
    rw [List.set_getElem_self]
    exact h
  | v :: vs, w, ls, l, j, h, hi, hj => by
    obtain ⟨h1, rfl⟩ := List.getElem?_eq_some_iff.1 hi
    have hj' : j + (vs.length + 1) ≤ k := by simpa using hj
    have hp := h.put h1 (by omega) v (j := j)
    have h2 := Rows.over vs (w.setCell ⟨b, i * k + j, none⟩ v) (ls.set i ((ls[i]).set j v)) ((ls[i]).set j v) (j + 1) hp (List.getElem?_set_self h1) (by omega)
    rw [List.set_set] at h2
    exact ⟨h2.1, ((Upd.refl _ _).setCell (S := fun x => x = b) (p := ⟨b, i * k + j, none⟩) (.inl rfl) v).trans h2.2⟩
/-- A row is stored whole. -/
theorem wpList_row {P : Program} {w : World} {ops : Array Oper} {rest : List Oper} {o : Oper} {a : Act} {Q : Exit → Act → World → Prop} (hg : o.guard = none) (ty : TypeId) (x y : Operand) (ho : o.op = .store ty x y)
    {b k i f : Nat} {T : TypeId} {ls : List (List Value)} (vs : List Value) (hx : a.eval x = .pointer (some ⟨b, f, none⟩)) (hy : a.eval y = .agg vs.toArray) (h : Rows w b k T ls) (hi : i < ls.length) (hf : f = i * k) (hl : vs.length = k) (hz : (P.info? ty).map (·.size) = some k) (h1 : ∀ v ∈ vs, v.oneCell' = true)
    (hK : ∀ w', Rows w' b k T (ls.set i vs) → Upd (fun x => x = b) w w' → wpList P ops Q rest (a.put o.dst undef) w') : wpList P ops Q (o :: rest) a w := by
  subst hf
  have hr : ls[i]? = some ls[i] := List.getElem?_eq_getElem hi
  have hll := h.len _ (List.getElem_mem hi)
  refine wpList_store_mid hg ty x y ho b (i * k) vs.toArray hx hy ?_ (by simpa [hl] using hz) (all_oneCell_toArray h1) ?_
  · intro j hj
    have hj : j < k := by simpa [hl] using hj
    rw [h.cell hr rfl j hj]
    exact ⟨by simp [hll, hj], h.blk.free _⟩
  · have h2 := Rows.over vs w ls ls[i] 0 h hr (by omega)
    rw [ow_full vs ls[i] 0 (by omega)] at h2
    simp only [List.take_zero, List.nil_append, Nat.add_zero] at h2
    exact hK _ h2.1 h2.2

/-- Cells of a row, from its cell j on. -/
theorem Rows.range {w : World} {b k i o : Nat} {T : TypeId} {ls : List (List Value)} {l vs : List Value} (h : Rows w b k T ls) (hi : ls[i]? = some l) (j : Nat) (ho : o = i * k + j) (hv : l.drop j = vs) : w.rangeAt b o vs := by
  subst ho hv
  intro n v hn
  rw [List.getElem?_drop] at hn
  have hl := h.len l (List.mem_of_getElem? hi)
  have hjn := (List.getElem?_eq_some_iff.1 hn).1
  rw [show i * k + j + n = i * k + (j + n) by omega, h.cell hi rfl (j + n) (by omega)]
  exact hn
theorem Rows.there {w : World} {b k i o n : Nat} {T : TypeId} {ls : List (List Value)} (h : Rows w b k T ls) (hi : i < ls.length) (j : Nat) (ho : o = i * k + j) (hn : j + n ≤ k) : w.there b o n := by
  subst ho
  intro q hq
  have hll := h.len _ (List.getElem_mem hi)
  rw [show i * k + j + q = i * k + (j + q) by omega, h.cell (List.getElem?_eq_getElem hi) rfl (j + q) (by omega)]
  exact ⟨by simp; omega, h.blk.free _⟩
/-- A row is overwritten from its cell j on, to its end. -/
theorem Rows.tail {w : World} {b k i o : Nat} {T : TypeId} {ls : List (List Value)} {l vs : List Value} (h : Rows w b k T ls) (hi : ls[i]? = some l) (j : Nat) (ho : o = i * k + j) (hn : j + vs.length = k) : Rows (w.setCells b o vs) b k T (ls.set i (l.take j ++ vs)) ∧ Upd (fun x => x = b) w (w.setCells b o vs) := by
  subst ho
  have h2 := Rows.over vs w ls l j h hi (by omega)
  rw [ow_full vs l j (by rw [h.len l (List.mem_of_getElem? hi)]; omega)] at h2
  exact h2
end Go.Proofs.Ytdgkemadhooogaa
