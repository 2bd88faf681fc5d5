/- Heights that are lowered till they are valid; the lower and the higher of two. Plain. -/
import Derived.Test.YticeionjlknlcaaLabAt
namespace Go.Proofs.Yticeionjlknlcaa
set_option linter.unusedVariables false
set_option linter.unusedSimpArgs false
open Go.RowKit

theorem sum_set : ∀ (xs : List Int) (i : Nat) (v : Int) (h : i < xs.length), (xs.set i v).sum = xs.sum - xs.getD i 0 + v
  | [], i, v, h => by simp at h
  | x :: xs, 0, v, h => by simp; omega
  | x :: xs, i + 1, v, h => by
    have := sum_set xs i v (by simpa using h)
    simp only [List.set_cons_succ, List.sum_cons, List.getD_cons_succ, this]
    omega
theorem sum_le : ∀ (xs : List Int) (N : Int), (∀ x ∈ xs, 0 ≤ x ∧ x ≤ N) → 0 ≤ xs.sum ∧ xs.sum ≤ xs.length * N
  | [], N, h => by simp
  | x :: xs, N, h => by
    have h1 := sum_le xs N (fun y hy => h y (List.mem_cons_of_mem _ hy))
    have h2 := h x (List.mem_cons_self)
    simp only [List.sum_cons, List.length_cons]
    have e : ((xs.length + 1 : Nat) : Int) * N = xs.length * N + N := by
      rw [Int.natCast_add, Int.add_mul]
      simp
    rw [e]
    omega
theorem right_parts {N S T : Int} {xs : List Int} : rightB N S T xs = true ↔ (xs.length : Int) = N ∧ (∀ x ∈ xs, 0 ≤ x ∧ x ≤ N) ∧ xs.getD T.toNat 0 = 0 ∧ xs.getD S.toNat 0 = N := by
  unfold rightB
  simp only [Bool.and_eq_true, decide_eq_true_eq, List.all_eq_true]
  constructor
  · rintro ⟨⟨⟨h1, h2⟩, h3⟩, h4⟩; exact ⟨h1, h2, h3, h4⟩
  · rintro ⟨h1, h2, h3, h4⟩; exact ⟨⟨⟨h1, h2⟩, h3⟩, h4⟩
theorem right_sum {N S T : Int} {n m : Nat} {ys : List Ar} (hg : Gr N S T n m ys) {xs : List Int} (h : rightB N S T xs = true) : 0 ≤ xs.sum ∧ xs.sum ≤ (n : Int) * n := by
  obtain ⟨h1, h2, -, -⟩ := right_parts.1 h
  have h3 := sum_le xs N h2
  have h4 := hg.len
  rw [h1, ← h4.1] at h3
  exact h3
theorem validB_iff {N S T : Int} {n m : Nat} {ys : List Ar} {rs xs : List Int} (hm : rs.length = m) (hr : rightB N S T xs = true) : validB N S T n m ys rs xs = true ↔ ∀ a, a < m → dnQ S n ys rs xs (isP true) a = false := by
  unfold validB mayB dnL
  unfold mayB
  rw [hr, decide_eq_true hm]
  simp [List.filter_eq_nil_iff]
theorem dn_head {N S T : Int} {n m : Nat} {ys : List Ar} {rs xs : List Int} {p : Int → Bool} {a : Nat} {l : List Nat} (h : dnL N S T n m ys rs xs p = a :: l) : a < m ∧ dnQ S n ys rs xs p a = true := by
  unfold dnL at h
  split at h
  · have h1 : a ∈ (List.range m).filter (dnQ S n ys rs xs p) := by rw [h]; exact List.mem_cons_self
    rw [List.mem_filter, List.mem_range] at h1
    exact h1
  · cases h
theorem steep_step {N S T : Int} {n m : Nat} {ys : List Ar} {rs xs : List Int} (hg : Gr N S T n m ys) (hr : rightB N S T xs = true) (a : Nat) (ha : a < m) (hq : dnQ S n ys rs xs (isP true) a = true) :
    tl ys n a < n ∧ (tl ys n a : Int) ≠ S ∧ (tl ys n a : Int) ≠ T ∧ hd n ys a < n ∧ 0 ≤ xs.getD (hd n ys a) 0 ∧ xs.getD (hd n ys a) 0 ≤ 16 ∧ rightB N S T (xs.set (tl ys n a) (xs.getD (hd n ys a) 0 + 1)) = true ∧ (xs.set (tl ys n a) (xs.getD (hd n ys a) 0 + 1)).sum + 1 ≤ xs.sum := by
  obtain ⟨h1, h2, h3, h4⟩ := right_parts.1 hr
  have hl := hg.len
  have ht : tl ys n a < n := (tl_at ys a n (by have := hg.hm; unfold fst; omega)).1
  have hh := (hd_get hg a ha).2
  obtain ⟨-, u1, u2⟩ := rightB_in hr (tl ys n a) (by omega)
  obtain ⟨-, v1, v2⟩ := rightB_in hr (hd n ys a) (by omega)
  simp only [dnQ, byOf, isP, if_true, Bool.and_eq_true, decide_eq_true_eq] at hq
  obtain ⟨⟨q1, -⟩, q3⟩ := hq
  replace q3 := of_decide_eq_true q3
  generalize hv : xs.getD (hd n ys a) 0 = y at *
  generalize hu : tl ys n a = u at *
  have hT : (u : Int) ≠ T := by
    intro e
    rw [show T.toNat = u by omega] at h3
    omega
  have hlu : u < xs.length := by omega
  have hnT : u ≠ T.toNat := by omega
  have hnS : u ≠ S.toNat := by omega
  refine ⟨ht, q1, hT, hh, v1, by omega, ?_, ?_⟩
  · refine right_parts.2 ⟨by simpa using h1, fun x hx => ?_, ?_, ?_⟩
    · rcases List.mem_or_eq_of_mem_set hx with h | h
      · exact h2 x h
      · omega
    · rw [List.getD_eq_getElem?_getD, List.getElem?_set_ne hnT, ← List.getD_eq_getElem?_getD]; exact h3
    · rw [List.getD_eq_getElem?_getD, List.getElem?_set_ne hnS, ← List.getD_eq_getElem?_getD]; exact h4
  · rw [sum_set _ _ _ hlu]
    omega
/-- Of two, vertex by vertex. -/
def zipL (f : Int → Int → Int) (n : Nat) (xs zs : List Int) : List Int := (List.range n).map fun v => f (xs.getD v 0) (zs.getD v 0)
theorem zipL_len (f : Int → Int → Int) (n : Nat) (xs zs : List Int) : (zipL f n xs zs).length = n := by simp [zipL]
theorem zipL_get (f : Int → Int → Int) (n : Nat) (xs zs : List Int) (v : Nat) (h : v < n) : (zipL f n xs zs).getD v 0 = f (xs.getD v 0) (zs.getD v 0) := by simp [zipL, h]
theorem zip_right {N S T : Int} {n m : Nat} {ys : List Ar} (hg : Gr N S T n m ys) (f : Int → Int → Int) (hf : ∀ x y, f x y = x ∨ f x y = y) {xs zs : List Int} (hx : rightB N S T xs = true) (hz : rightB N S T zs = true) : rightB N S T (zipL f n xs zs) = true := by
  have hl := hg.len
  obtain ⟨h1, h2, h3, h4⟩ := right_parts.1 hx
  obtain ⟨g1, g2, g3, g4⟩ := right_parts.1 hz
  refine right_parts.2 ⟨by rw [zipL_len]; omega, fun x hx2 => ?_, ?_, ?_⟩
  · obtain ⟨v, hv, rfl⟩ := List.mem_map.1 hx2
    have hv := List.mem_range.1 hv
    have a1 := rightB_in hx v (by omega)
    have a2 := rightB_in hz v (by omega)
    rcases hf (xs.getD v 0) (zs.getD v 0) with h | h <;> rw [h] <;> omega
  · rw [zipL_get _ _ _ _ _ (by omega), h3, g3]
    rcases hf 0 0 with h | h <;> exact h
  · rw [zipL_get _ _ _ _ _ (by omega), h4, g4]
    rcases hf N N with h | h <;> exact h
theorem zip_valid {N S T : Int} {n m : Nat} {ys : List Ar} {rs : List Int} (hg : Gr N S T n m ys) (hm : rs.length = m) (f : Int → Int → Int) (hf : ∀ x y, f x y = x ∨ f x y = y) (hd1 : ∀ a b c d, a ≤ c + 1 → b ≤ d + 1 → f a b ≤ f c d + 1) {xs zs : List Int} (hx : rightB N S T xs = true) (hz : rightB N S T zs = true)
    (vx : validB N S T n m ys rs xs = true) (vz : validB N S T n m ys rs zs = true) : validB N S T n m ys rs (zipL f n xs zs) = true := by
  rw [validB_iff hm (zip_right hg f hf hx hz)]
  rw [validB_iff hm hx] at vx
  rw [validB_iff hm hz] at vz
  intro a ha
  have ht : tl ys n a < n := (tl_at ys a n (by have := hg.hm; unfold fst; omega)).1
  have hh := (hd_get hg a ha).2
  have h1 := vx a ha
  have h2 := vz a ha
  have e1 := zipL_get f n xs zs _ ht
  have e2 := zipL_get f n xs zs _ hh
  cases hb : dnQ S n ys rs (zipL f n xs zs) (isP true) a with
  | false => rfl
  | true =>
    exfalso
    simp only [dnQ, byOf, isP, if_true, Bool.and_eq_true, decide_eq_true_eq, e1, e2] at hb
    obtain ⟨⟨q1, q2⟩, q3⟩ := hb
    have key : ∀ zs : List Int, dnQ S n ys rs zs (isP true) a = false → zs.getD (tl ys n a) 0 ≤ zs.getD (hd n ys a) 0 + 1 := by
      intro zs h
      simp only [dnQ, byOf, isP, if_true, q2, decide_true, Bool.and_true] at h
      rw [decide_eq_true q1, Bool.true_and] at h
      have := of_decide_eq_false h
      omega
    have := hd1 _ _ _ _ (key xs h1) (key zs h2)
    omega
theorem zip_sum (n : Nat) : ∀ (k : Nat) (xs zs : List Int), ((List.range k).map fun v => min (xs.getD v 0) (zs.getD v 0)).sum + ((List.range k).map fun v => max (xs.getD v 0) (zs.getD v 0)).sum = ((List.range k).map fun v => xs.getD v 0).sum + ((List.range k).map fun v => zs.getD v 0).sum
  | 0, xs, zs => by simp
  | k + 1, xs, zs => by
    have := zip_sum n k xs zs
    simp only [List.range_succ, List.map_append, List.sum_append, List.map_cons, List.map_nil, List.sum_cons, List.sum_nil]
    have : min (xs.getD k 0) (zs.getD k 0) + max (xs.getD k 0) (zs.getD k 0) = xs.getD k 0 + zs.getD k 0 := by omega
    omega
theorem range_get (xs : List Int) : (List.range xs.length).map (fun v => xs.getD v 0) = xs := by
  refine List.ext_getElem (by simp) fun i h1 h2 => ?_
  have h3 : i < xs.length := by simpa using h1
  simp [h3]
theorem zip_sums {n : Nat} {xs zs : List Int} (h1 : xs.length = n) (h2 : zs.length = n) : (zipL min n xs zs).sum + (zipL max n xs zs).sum = xs.sum + zs.sum := by
  have h := zip_sum n n xs zs
  rw [show (List.range n).map (fun v => xs.getD v 0) = xs by rw [← h1]; exact range_get xs, show (List.range n).map (fun v => zs.getD v 0) = zs by rw [← h2]; exact range_get zs] at h
  exact h
end Go.Proofs.Yticeionjlknlcaa
