/- What is steep, what is flat, what closing an arc does to it; a count of kinds. Plain. -/
import Derived.Test.YticeionjlknlcaaLabValid
import Derived.Test.YticeionjlknlcaaGst
namespace Go.Proofs.Yticeionjlknlcaa
set_option linter.unusedVariables false
set_option linter.unusedSimpArgs false
open Go.RowKit

theorem dnL_mem {N S T : Int} {n m : Nat} {ys : List Ar} {rs hs : List Int} {p : Int → Bool} (h : mayB N S T m rs hs = true) {a : Nat} : a ∈ dnL N S T n m ys rs hs p ↔ a < m ∧ dnQ S n ys rs hs p a = true := by
  unfold dnL
  rw [if_pos h, List.mem_filter, List.mem_range]
theorem dnL_nodup (N S T : Int) (n m : Nat) (ys : List Ar) (rs hs : List Int) (p : Int → Bool) : (dnL N S T n m ys rs hs p).Nodup := by
  unfold dnL
  split
  · exact List.nodup_range.filter _
  · exact List.nodup_nil
theorem mem_take_succ {l : List Nat} {i v : Nat} (hi : i < l.length) : v ∈ l.take (i + 1) ↔ v ∈ l.take i ∨ v = l.getD i 0 := by
  rw [List.take_succ_eq_append_getElem hi, List.mem_append, List.mem_singleton]
  simp [hi]
theorem not_mem_take {l : List Nat} (hn : l.Nodup) {i : Nat} (hi : i < l.length) : l.getD i 0 ∉ l.take i := by
  intro h
  obtain ⟨j, hj, e⟩ := List.getElem_of_mem h
  rw [List.length_take] at hj
  rw [List.getElem_take] at e
  have e2 : l.getD i 0 = l[i] := by simp [hi]
  rw [e2] at e
  have hp := List.pairwise_iff_getElem.1 hn j i (by omega) hi (by omega)
  exact hp e
/-- The first i of A told as 1, the first j of B as 2. -/
structure KD (m : Nat) (A B : List Nat) (i j : Nat) (h : List Int) (l : List Bool) (c : Nat) : Prop where
  len : h.length = m
  at_ : ∀ v, v < m → h.getD v 0 = if v ∈ A.take i then 1 else if v ∈ B.take j then 2 else 0
  cnt : c ≤ i + j
theorem KD.zero (m : Nat) (A B : List Nat) : KD m A B 0 0 (List.replicate m 0) (List.replicate m false) 0 := ⟨by simp, fun v hv => by simp [hv], by omega⟩
theorem getD_set_int {l : List Int} {i j : Nat} {x : Int} (h : i < l.length) : (l.set i x).getD j 0 = if i = j then x else l.getD j 0 := by
  simp only [List.getD_eq_getElem?_getD, List.getElem?_set]
  split
  · simp [h]
  · rfl
theorem KD.one {m : Nat} {A B : List Nat} {i : Nat} {h : List Int} {l : List Bool} {c : Nat} (k : KD m A B i 0 h l c) (hA : A.Nodup) (hm : ∀ v ∈ A, v < m) (hi : i < A.length) : h.getD (A.getD i 0) 0 = 0 ∧ ∀ l', KD m A B (i + 1) 0 (h.set (A.getD i 0) 1) l' (c + 1) := by
  have hx : A.getD i 0 < m := hm _ (by simp [hi])
  have h0 : h.getD (A.getD i 0) 0 = 0 := by
    rw [k.at_ _ hx, if_neg (not_mem_take hA hi)]
    simp
  refine ⟨h0, fun l' => ⟨by rw [List.length_set]; exact k.len, fun v hv => ?_, by have := k.cnt; omega⟩⟩
  rw [getD_set_int (by rw [k.len]; exact hx)]
  by_cases e : A.getD i 0 = v
  · rw [if_pos e, if_pos ((mem_take_succ hi).2 (.inr e.symm))]
  · rw [if_neg e, k.at_ v hv]
    have : v ∈ A.take (i + 1) ↔ v ∈ A.take i := by rw [mem_take_succ hi]; exact ⟨fun h => h.resolve_right (fun e2 => e e2.symm), .inl⟩
    simp only [this]
theorem KD.two {m : Nat} {A B : List Nat} {j : Nat} {h : List Int} {l : List Bool} {c : Nat} (k : KD m A B A.length j h l c) (hB : B.Nodup) (hm : ∀ v ∈ B, v < m) (hd : ∀ v ∈ B, v ∉ A) (hj : j < B.length) : h.getD (B.getD j 0) 0 = 0 ∧ ∀ l', KD m A B A.length (j + 1) (h.set (B.getD j 0) 2) l' (c + 1) := by
  have hmem : B.getD j 0 ∈ B := by simp [hj]
  have hx : B.getD j 0 < m := hm _ hmem
  have hnA : B.getD j 0 ∉ A.take A.length := by rw [List.take_length]; exact hd _ hmem
  have h0 : h.getD (B.getD j 0) 0 = 0 := by
    rw [k.at_ _ hx, if_neg hnA, if_neg (not_mem_take hB hj)]
  refine ⟨h0, fun l' => ⟨by rw [List.length_set]; exact k.len, fun v hv => ?_, by have := k.cnt; omega⟩⟩
  rw [getD_set_int (by rw [k.len]; exact hx)]
  by_cases e : B.getD j 0 = v
  · rw [if_pos e, if_neg (by rw [← e]; exact hnA), if_pos ((mem_take_succ hj).2 (.inr e.symm))]
  · rw [if_neg e, k.at_ v hv]
    have : v ∈ B.take (j + 1) ↔ v ∈ B.take j := by rw [mem_take_succ hj]; exact ⟨fun h => h.resolve_right (fun e2 => e e2.symm), .inl⟩
    simp only [this]
/-- What an arc's kind is to be. -/
def wantK (S : Int) (n : Nat) (ys : List Ar) (rs hs : List Int) (a : Nat) : Int := if 0 < rs.getD a 0 ∧ ¬ (tl ys n a : Int) = S ∧ 0 < byOf n ys hs a then (if 1 < byOf n ys hs a then 1 else 2) else 0
theorem KD.want {N S T : Int} {n m : Nat} {ys : List Ar} {rs hs : List Int} (h : mayB N S T m rs hs = true) {A B : List Nat} (hA : dnL N S T n m ys rs hs (isP true) = A) (hB : dnL N S T n m ys rs hs (isP false) = B) {g : List Int} {l : List Bool} {c : Nat} (k : KD m A B A.length B.length g l c) {a : Nat} (ha : a < m) : g.getD a 0 = wantK S n ys rs hs a := by
  rw [k.at_ a ha, List.take_length, List.take_length, ← hA, ← hB]
  simp only [dnL_mem h]
  unfold wantK dnQ isP
  simp only [Bool.and_eq_true, decide_eq_true_eq, if_true, Bool.false_eq_true, if_false, ha, true_and]
  generalize byOf n ys hs a = y
  by_cases h1 : 0 < rs.getD a 0 <;> by_cases h2 : (tl ys n a : Int) = S <;> by_cases h3 : 1 < y <;> by_cases h4 : y = 1 <;> simp [h1, h2, h3, h4] <;> omega
theorem flat_not_steep {N S T : Int} {n m : Nat} {ys : List Ar} {rs hs : List Int} (h : mayB N S T m rs hs = true) : ∀ v ∈ dnL N S T n m ys rs hs (isP false), v ∉ dnL N S T n m ys rs hs (isP true) := by
  intro v hv hv2
  rw [dnL_mem h] at hv hv2
  unfold dnQ isP at hv hv2
  simp at hv hv2
  omega
theorem mayB_set {N S T : Int} {m : Nat} {rs hs : List Int} (h : mayB N S T m rs hs = true) (k : Nat) (x : Int) : mayB N S T m (rs.set k x) hs = true := by
  unfold mayB at h ⊢
  rw [List.length_set]
  exact h
/-- With an arc closed. -/
theorem dnL_closed {N S T : Int} {n m : Nat} {ys : List Ar} {rs hs : List Int} (h : mayB N S T m rs hs = true) (p : Int → Bool) (k : Nat) (hk : k < rs.length) : dnL N S T n m ys (rs.set k 0) hs p = (dnL N S T n m ys rs hs p).filter (fun a => decide (a ≠ k)) := by
  unfold dnL
  rw [if_pos h, if_pos (mayB_set h k 0), List.filter_filter]
  apply List.filter_congr
  intro a ha
  unfold dnQ
  rw [getD_set_int hk]
  by_cases e : k = a
  · subst e; simp
  · rw [if_neg e]
    have : decide (a ≠ k) = true := by simp; omega
    rw [this, Bool.true_and]
theorem closed_not {N S T : Int} {n m : Nat} {ys : List Ar} {rs hs : List Int} (h : mayB N S T m rs hs = true) (p : Int → Bool) (k : Nat) (hk : k < rs.length) : k ∉ dnL N S T n m ys (rs.set k 0) hs p := by
  rw [dnL_closed h p k hk, List.mem_filter]
  simp
theorem nodup_one {l : List Nat} (hn : l.Nodup) (k : Nat) : decide ((l.filter (fun a => decide (a ≠ k))).length = 0) = (decide (l.length = 0) || (decide (l.length = 1) && decide (l.getD 0 0 = k))) := by
  match l, hn with
  | [], _ => simp
  | [x], _ =>
    by_cases e : x = k <;> simp [e]
  | x :: y :: l, hn =>
    have hxy : x ≠ y := by
      simp at hn
      exact fun e => hn.1.1 e
    have : (List.filter (fun a => decide (a ≠ k)) (x :: y :: l)).length ≠ 0 := by
      intro h0
      have h1 := List.eq_nil_of_length_eq_zero h0
      by_cases e : x = k
      · have : y ∈ List.filter (fun a => decide (a ≠ k)) (x :: y :: l) := List.mem_filter.2 ⟨by simp, by simp; omega⟩
        rw [h1] at this; cases this
      · have : x ∈ List.filter (fun a => decide (a ≠ k)) (x :: y :: l) := List.mem_filter.2 ⟨by simp, by simp; omega⟩
        rw [h1] at this; cases this
    rw [decide_eq_false this]
    simp
theorem valid_closed {N S T : Int} {n m : Nat} {ys : List Ar} {rs hs : List Int} (h : mayB N S T m rs hs = true) (k : Nat) (hk : k < rs.length) {A : List Nat} (hA : dnL N S T n m ys rs hs (isP true) = A) : validB N S T n m ys (rs.set k 0) hs = (decide (A.length = 0) || (decide (A.length = 1) && decide (A.getD 0 0 = k))) := by
  unfold validB
  rw [mayB_set h k 0, Bool.true_and, dnL_closed h _ k hk, hA]
  exact nodup_one (by rw [← hA]; exact dnL_nodup _ _ _ _ _ _ _ _ _) k
end Go.Proofs.Yticeionjlknlcaa
