/- The rows by how far: which are there, what stands in them. Plain; a row read where a map alone has turned. -/
import Derived.Test.YtoapekkmaajfmaaDistRows
import Derived.Test.YtoapekkmaajfmaaMap
namespace Go.Proofs.Ytoapekkmaajfmaa
set_option linter.unusedVariables false
set_option linter.unusedSimpArgs false
open Go.RowKit

theorem lvl_all {n t : Nat} {E : Nat → Nat → Prop} {d : List Nat} (hd : IsD n t E d) {L : Nat} (hm : Many n d n L) : ∀ j, j < L → ∃ x, x < n ∧ d.getD x 0 = j := by
  have key : ∀ i j, i + j + 1 = L → ∃ x, x < n ∧ d.getD x 0 = j := by
    intro i
    induction i with
    | zero =>
      intro j hj
      rcases hm.2.1 with e | ⟨x, hx, e⟩
      · omega
      · exact ⟨x, hx, by omega⟩
    | succ i ih =>
      intro j hj
      obtain ⟨x, hx, e⟩ := ih (j + 1) (by omega)
      have hLn := hm.2.2
      have hxt : x ≠ t := fun e2 => by subst e2; have := hd.src; omega
      obtain ⟨u, hu, -, e3⟩ := hd.par x hx hxt (by omega)
      exact ⟨u, hu, by omega⟩
  exact fun j hj => key (L - 1 - j) j (by omega)
theorem lvl_mem {d : List Nat} {n k x : Nat} : x ∈ lvl d n k ↔ x < n ∧ d.getD x 0 = k := by
  unfold lvl
  rw [List.mem_filter, List.mem_range]
  simp
theorem lvl_sorted (d : List Nat) (k : Nat) : ∀ n, (lvl d n k).Pairwise (· < ·) := fun n => List.Pairwise.filter _ List.pairwise_lt_range
theorem lvl_src {n t : Nat} {E : Nat → Nat → Prop} {d : List Nat} (hd : IsD n t E d) : lvl d n 0 = [t] := by
  unfold lvl
  refine filter_one _ t n hd.lt (by have := hd.src; simpa using this) fun j hj h => ?_
  have h1 : d.getD j 0 = 0 := by simpa using h
  by_cases e : j = t
  · exact e
  · have := hd.lt
    obtain ⟨u, -, -, h2⟩ := hd.par j hj e (by omega)
    omega
theorem Rd.mapped {w w' : World} {a : Option Addr} {vs : List Value} {b m : Nat} {h : List Int} {l : List Bool} (hr : Rd w a vs) (hm : Mp w b m h l) (hu : Upd (fun k => k = b) w w') : Rd w' a vs := by
  rcases hr with e | ⟨c, off, rfl, hc⟩
  · exact .inl e
  · refine .inr ⟨c, off, rfl, fun i u hi => ?_⟩
    have h1 := hc i u hi
    refine (hu.cells ⟨c, off + i, none⟩ (by rw [h1]; rfl) ?_).trans h1
    intro e
    obtain ⟨D, ⟨es, clock, hb, -⟩, -⟩ := hm
    have e : c = b := e
    subst e
    simp [World.cell?, hb] at h1
theorem RowsV.mapped {w w' : World} {a : Option Addr} {L : Nat} {R : Nat → List Nat} {b m : Nat} {h : List Int} {l : List Bool} (hr : RowsV w a L R) (hm : Mp w b m h l) (hu : Upd (fun k => k = b) w w') : RowsV w' a L R := by
  obtain ⟨vs, h1, h2, h3⟩ := hr
  refine ⟨vs, h1.mapped hm hu, h2, fun j hj => ?_⟩
  obtain ⟨a', c', e1, e2⟩ := h3 j hj
  exact ⟨a', c', e1, e2.mapped hm hu⟩
/-- Met: those of the first k rows, and of the k-th row the first i. -/
structure Met (n : Nat) (d : List Nat) (k i : Nat) (h : List Int) (l : List Bool) (c : Nat) : Prop where
  len : h.length = n
  at_ : ∀ v, v < n → h.getD v 0 = if d.getD v 0 < k ∨ v ∈ (lvl d n k).take i then 1 else 0
  cnt : c ≤ 20 * k + i
theorem Met.zero (n : Nat) (d : List Nat) : Met n d 0 0 (List.replicate n 0) (List.replicate n false) 0 := ⟨by simp, fun v hv => by simp [hv], by omega⟩
theorem Met.next {n : Nat} {d : List Nat} {k i c : Nat} {h : List Int} {l : List Bool} (hm : Met n d k i h l c) (hi : (lvl d n k).length ≤ i) (hi2 : i ≤ 20) : Met n d (k + 1) 0 h l c := by
  refine ⟨hm.len, fun v hv => ?_, by have := hm.cnt; omega⟩
  rw [hm.at_ v hv, List.take_of_length_le hi, List.take_zero]
  have e : (d.getD v 0 < k ∨ v ∈ lvl d n k) ↔ (d.getD v 0 < k + 1 ∨ v ∈ ([] : List Nat)) := by
    rw [lvl_mem]
    simp only [List.not_mem_nil, or_false]
    omega
  by_cases h1 : d.getD v 0 < k ∨ v ∈ lvl d n k
  · rw [if_pos h1, if_pos (e.1 h1)]
  · rw [if_neg h1, if_neg (fun x => h1 (e.2 x))]
theorem Met.new {n : Nat} {d : List Nat} {k i c : Nat} {h : List Int} {l : List Bool} (hm : Met n d k i h l c) (hi : i < (lvl d n k).length) : h.getD ((lvl d n k).getD i 0) 0 = 0 := by
  have e : (lvl d n k).getD i 0 = (lvl d n k)[i] := by simp [hi]
  have h1 := lvl_mem.1 (List.getElem_mem hi)
  rw [e, hm.at_ _ h1.1, if_neg]
  rintro (h2 | h2)
  · omega
  · obtain ⟨j, hj, e2⟩ := List.getElem_of_mem h2
    rw [List.length_take] at hj
    rw [List.getElem_take] at e2
    have := List.pairwise_iff_getElem.1 (lvl_sorted d k n) j i (by omega) hi (by omega)
    omega
theorem Met.put {n : Nat} {d : List Nat} {k i c : Nat} {h : List Int} {l l' : List Bool} (hm : Met n d k i h l c) (hi : i < (lvl d n k).length) : Met n d k (i + 1) (h.set ((lvl d n k).getD i 0) 1) l' (c + 1) := by
  have e : (lvl d n k).getD i 0 = (lvl d n k)[i] := by simp [hi]
  have h1 := lvl_mem.1 (List.getElem_mem hi)
  refine ⟨by rw [List.length_set]; exact hm.len, fun v hv => ?_, by have := hm.cnt; omega⟩
  rw [e, List.getD_eq_getElem?_getD, List.getElem?_set, List.take_succ_eq_append_getElem hi]
  by_cases e2 : (lvl d n k)[i] = v
  · rw [if_pos e2, if_pos (by rw [hm.len, e2]; exact hv), if_pos (.inr (by rw [List.mem_append]; exact .inr (by simp [e2])))]
    rfl
  · rw [if_neg e2, ← List.getD_eq_getElem?_getD, hm.at_ v hv]
    have e3 : (d.getD v 0 < k ∨ v ∈ (lvl d n k).take i) ↔ (d.getD v 0 < k ∨ v ∈ (lvl d n k).take i ++ [(lvl d n k)[i]]) := by
      rw [List.mem_append, List.mem_singleton]
      constructor
      · rintro (h | h)
        · exact .inl h
        · exact .inr (.inl h)
      · rintro (h | h | h)
        · exact .inl h
        · exact .inr h
        · exact absurd h.symm e2
    by_cases h2 : d.getD v 0 < k ∨ v ∈ (lvl d n k).take i
    · rw [if_pos h2, if_pos (e3.1 h2)]
    · rw [if_neg h2, if_neg (fun x => h2 (e3.2 x))]
end Go.Proofs.Ytoapekkmaajfmaa
