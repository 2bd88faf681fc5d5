/- The set of those met: a map[int]int that the call makes; and what SchedRounds says, with no program in sight. -/
import Derived.Test.YtacacnjpfflbnaaFair
import Derived.Maps.OwnSet
namespace Go.Proofs.Ytacacnjpfflbnaa
set_option linter.unusedVariables false
open Go.RowKit Go.Maps

theorem lawI : Keyed Try.prog 3 := int_keyed Try.underlying3
/-- The keys of D are the numbers at which l is true. -/
structure MetD (D : DataW Unit) (l : List Bool) : Prop where
  has : ∀ i : Nat, i < l.length → Maps.has D (.int .i64 (i : Int)) = l.getD i false
  size : Maps.size D = l.count true
def Met (w : World) (b m : Nat) (l : List Bool) : Prop := ∃ D, w.ownsMap Try.prog 3 (plainElem (H := Unit) Try.prog 3) b m D ∧ MetD D l

theorem MetD.new (n : Nat) : MetD (.map []) (List.replicate n false) := by
  refine ⟨fun i hi => ?_, ?_⟩
  · have h : i < n := by simpa using hi
    simp [Maps.has, h]
  · simp [Maps.size, List.count_replicate]
theorem Met.new (w : World) (n : Nat) : Met (w.alloc (.map #[] 0)) w.heap.size 0 (List.replicate n false) := ⟨_, World.ownsMap_made _ _ _ _, MetD.new n⟩
theorem ownsMap_upd {w w' : World} {S : Nat → Prop} {b m : Nat} {D : DataW Unit} (h : w.ownsMap Try.prog 3 (plainElem (H := Unit) Try.prog 3) b m D) (hu : Upd S w w') (hs : ¬ S b) : w'.ownsMap Try.prog 3 (plainElem (H := Unit) Try.prog 3) b m D := by
  have hlt := h.lt
  obtain ⟨es, clock, hb, r⟩ := h
  exact ⟨es, clock, (hu.block b hlt hs).trans hb, r⟩
theorem Met.upd {w w' : World} {S : Nat → Prop} {b m : Nat} {l : List Bool} (h : Met w b m l) (hu : Upd S w w') (hs : ¬ S b) : Met w' b m l := by
  obtain ⟨D, h, hd⟩ := h
  exact ⟨D, ownsMap_upd h hu hs, hd⟩
theorem count_put (l : List Bool) (i : Nat) (hi : i < l.length) : (l.set i true).count true = if l.getD i false then l.count true else l.count true + 1 := by
  induction l generalizing i with
  | nil => simp at hi
  | cons x xs ih =>
    cases i with
    | zero => cases x <;> simp
    | succ j =>
      have := ih j (by simpa using hi)
      simp only [List.set_cons_succ, List.getD_cons_succ, List.count_cons]
      rw [this]
      split <;> omega
theorem MetD.put {D : DataW Unit} {l : List Bool} (h : MetD D l) (ht : Tidy D) (i : Nat) (hi : i < l.length) (d : DataW Unit) : MetD (D.put (.int .i64 (i : Int)) d) (l.set i true) := by
  refine ⟨fun j hj => ?_, ?_⟩
  · by_cases e : j = i
    · subst e
      rw [has_put_same ht.isMap (show WideAt.IsKeyLit (.int .i64 (j : Int)) from trivial)]; simp [hi]
    · rw [has_put_other (by intro f; cases f; exact e rfl), h.has j (by simpa using hj)]
      simp [List.getD, Ne.symm e]
  · rw [size_put ht, h.has i hi, count_put l i hi, h.size]
theorem allT_count (t : List Bool) : allT t [] = decide (t.count true = t.length) := by
  rw [Bool.eq_iff_iff, decide_eq_true_iff, List.count_eq_length]
  unfold allT
  rw [List.all_eq_true]
  constructor
  · intro h b hb
    obtain ⟨i, hi, rfl⟩ := List.getElem_of_mem hb
    have := h i (List.mem_range.2 hi)
    simp [hi] at this
    exact this.symm
  · intro h i hi
    have hi := List.mem_range.1 hi
    have := h t[i] (List.getElem_mem hi)
    simp [hi, ← this]

/-- Whose step it is, with nobody done. -/
theorem who_nil (s : SS) (h : 0 < s.told.length) : ∃ v, s.who [] = some v ∧ v < s.told.length := by
  refine ⟨_, whoAt_some 0 h (fun j hj => by omega) (by simp), Nat.mod_lt _ h⟩
theorem told_step (s : SS) (dl : List Bool) : (s.step dl).told.length = s.told.length := by
  unfold SS.step
  split
  · unfold SS.tell; split <;> simp
  · rfl
/-- With nobody done: a round ends just if as many as there are workers are met. -/
theorem step_all {s : SS} {v : Nat} (hv : s.who [] = some v) (h : (s.told.set v true).count true = s.told.length) : (s.step []).told = List.replicate s.told.length false ∧ (s.step []).ended = s.ended + 1 := by
  have : allT (s.told.set v true) [] = true := by rw [allT_count]; simpa using h
  unfold SS.step
  simp [hv, SS.tell, this]
theorem step_more {s : SS} {v : Nat} (hv : s.who [] = some v) (h : ¬ (s.told.set v true).count true = s.told.length) : (s.step []).told = s.told.set v true ∧ (s.step []).ended = s.ended := by
  have : allT (s.told.set v true) [] = false := by rw [allT_count]; simpa using h
  unfold SS.step
  simp [hv, SS.tell, this]
/-- All but one are done. -/
def butOf (n h : Nat) : List Bool := (List.range n).map fun x : Nat => ((x : Int) != (h : Int))
theorem butOf_length (n h : Nat) : (butOf n h).length = n := by simp [butOf]
theorem butOf_getD (n h i : Nat) (hi : i < n) : (butOf n h).getD i false = ((i : Int) != (h : Int)) := by simp [butOf, hi]
theorem who_but (s : SS) (n h : Nat) (hn : s.told.length = n) (hh : h < n) : s.who (butOf n h) = some h := by
  unfold SS.who
  rw [hn]
  generalize fromOf n s.last s.picks = f
  cases hw : whoAt n f (butOf n h) n with
  | none =>
    obtain ⟨j, hj, e⟩ := met_at n f h hh
    have := whoAt_inv_none n (Nat.le_refl _) hw j (by omega) hj
    rw [e, butOf_getD n h h hh] at this
    simp at this
  | some v =>
    obtain ⟨k, hk, _, hv, hd, _⟩ := whoAt_inv n (Nat.le_refl _) v hw
    have hvn : v < n := by rw [hv]; exact Nat.mod_lt _ (by omega)
    rw [butOf_getD n h v hvn] at hd
    have : (v : Int) = (h : Int) := by simpa using hd
    congr 1; omega
theorem step_but (s : SS) (n h : Nat) (hn : s.told.length = n) (hh : h < n) : (s.step (butOf n h)).ended = s.ended + 1 := by
  have hw := who_but s n h hn hh
  have : allT (s.told.set h true) (butOf n h) = true := by
    refine allT_yes fun i hi => ?_
    have hi : i < n := by simpa [hn] using hi
    by_cases e : i = h
    · left; subst e
      rw [List.getD_eq_getElem?_getD, List.getElem?_set_self (by omega)]; rfl
    · right; rw [butOf_getD n h i hi]; simpa using (by omega : ¬ (i : Int) = (h : Int))
  unfold SS.step
  simp [hw, SS.tell, this]
end Go.Proofs.Ytacacnjpfflbnaa
