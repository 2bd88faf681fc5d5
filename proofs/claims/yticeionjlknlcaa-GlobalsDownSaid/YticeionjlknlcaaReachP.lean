/- Who reaches T. Plain. -/
import Derived.Test.YticeionjlknlcaaGloP
namespace Go.Proofs.Yticeionjlknlcaa
set_option linter.unusedVariables false
set_option linter.unusedSimpArgs false
open Go.RowKit

section
variable {N S T : Int} {n m : Nat} {ys : List Ar} {rs X : List Int}
theorem allN_right (hg : Gr N S T n m ys) : rightB N S T (allN n N T) = true := by
  have hl := hg.len
  refine right_parts.2 ⟨by rw [allN_len]; omega, fun x hx => ?_, ?_, ?_⟩
  · obtain ⟨v, hv, rfl⟩ := List.mem_iff_getElem.1 hx
    rw [allN_len] at hv
    have e := allN_get n N T v hv (by omega)
    rw [show (allN n N T)[v] = (allN n N T).getD v 0 by simp [allN_len, hv], e]
    split <;> omega
  · rw [allN_get _ _ _ _ (by omega) (by omega), if_pos rfl]
  · rw [allN_get _ _ _ _ (by omega) (by omega), if_neg (by omega)]
theorem down_arc (hg : Gr N S T n m ys) (h : IsLow S n m ys rs (allN n N T) X) (v : Nat) (hv : v < n) (hT : v ≠ T.toNat) (hlt : X.getD v 0 < N) : ∃ a, a < m ∧ tl ys n a = v ∧ (v : Int) ≠ S ∧ 0 < rs.getD a 0 ∧ X.getD v 0 = X.getD (hd n ys a) 0 + 1 := by
  have hl := hg.len
  obtain ⟨a, h1, h2, h3⟩ := low_flat hg (allN_right hg) h v hv (by rw [allN_get _ _ _ _ hv (by omega), if_neg hT]; exact hlt)
  obtain ⟨q1, q2, q3⟩ := flat_iff.1 h2
  rw [h3] at q1 q3
  exact ⟨a, h1, h3, q1, q2, q3⟩
theorem fin_chain (hg : Gr N S T n m ys) (h : IsLow S n m ys rs (allN n N T) X) : ∀ (k : Nat) (v : Nat), v < n → X.getD v 0 = (k : Int) → (k : Int) < N → ∃ l : List Nat, l.Nodup ∧ l.length = k + 1 ∧ ∀ x ∈ l, x < n ∧ X.getD x 0 ≤ (k : Int)
  | 0, v, hv, hx, hk => ⟨[v], by simp, rfl, fun x hx' => by simp at hx'; subst hx'; exact ⟨hv, by omega⟩⟩
  | k + 1, v, hv, hx, hk => by
    have hl := hg.len
    have hXT : X.getD T.toNat 0 = 0 := (right_parts.1 (low_right hg (allN_right hg) h)).2.2.1
    have hT : v ≠ T.toNat := fun e => by rw [e, hXT] at hx; omega
    obtain ⟨a, h1, h2, h3, h4, h5⟩ := down_arc hg h v hv hT (by rw [hx]; exact hk)
    obtain ⟨l, l1, l2, l3⟩ := fin_chain hg h k (hd n ys a) (hd_get hg a h1).2 (by omega) (by omega)
    refine ⟨v :: l, List.nodup_cons.2 ⟨fun hm => ?_, l1⟩, by simp [l2], fun x hx' => ?_⟩
    · have := (l3 v hm).2
      omega
    · rcases List.mem_cons.1 hx' with rfl | hx'
      · exact ⟨hv, by omega⟩
      · have := l3 x hx'
        exact ⟨this.1, by omega⟩
theorem fin_small (hg : Gr N S T n m ys) (h : IsLow S n m ys rs (allN n N T) X) (v : Nat) (hv : v < n) (hlt : X.getD v 0 < N) : X.getD v 0 + 2 ≤ N := by
  have hl := hg.len
  have hR := low_right hg (allN_right hg) h
  have h0 := (rightB_in hR v (by rw [h.len]; exact hv)).2.1
  have hS := (right_parts.1 hR).2.2.2
  obtain ⟨k, hk⟩ : ∃ k : Nat, X.getD v 0 = (k : Int) := ⟨(X.getD v 0).toNat, by omega⟩
  obtain ⟨l, l1, l2, l3⟩ := fin_chain hg h k v hv hk (by omega)
  have h1 := glo_nodup n (S.toNat :: l) (List.nodup_cons.2 ⟨fun hm => by have := (l3 _ hm).2; omega, l1⟩) (fun x hx => by
    rcases List.mem_cons.1 hx with rfl | hx
    · omega
    · exact (l3 x hx).1)
  rw [List.length_cons, l2] at h1
  omega
/-- T, or an arc up to a that ends at one who reaches it. -/
def someB (N T : Int) (n : Nat) (ys : List Ar) (rs X : List Int) (v a : Nat) : Bool := decide ((v : Int) = T) || (List.range a).any fun x => decide (fst ys v ≤ x) && (decide (0 < rs.getD x 0) && decide (X.getD (hd n ys x) 0 < N))
theorem some_start (v : Nat) : someB N T n ys rs X v (fst ys v) = decide ((v : Int) = T) := by
  unfold someB
  have : ((List.range (fst ys v)).any fun x => decide (fst ys v ≤ x) && (decide (0 < rs.getD x 0) && decide (X.getD (hd n ys x) 0 < N))) = false := by
    rw [List.any_eq_false]
    intro x hx
    have := List.mem_range.1 hx
    rw [decide_eq_false (by omega)]
    simp
  rw [this, Bool.or_false]
theorem some_next {v a : Nat} (h : fst ys v ≤ a) : someB N T n ys rs X v (a + 1) = (someB N T n ys rs X v a || (decide (0 < rs.getD a 0) && decide (X.getD (hd n ys a) 0 < N))) := by
  unfold someB
  rw [List.range_succ, List.any_append, List.any_cons, List.any_nil, Bool.or_false, decide_eq_true h, Bool.true_and, Bool.or_assoc]
theorem some_is (hg : Gr N S T n m ys) (h : IsLow S n m ys rs (allN n N T) X) (v : Nat) (hv : v < n) (hS : (v : Int) ≠ S) : someB N T n ys rs X v (fst ys (v + 1)) = decide (X.getD v 0 < N) := by
  have hl := hg.len
  have hXT : X.getD T.toNat 0 = 0 := (right_parts.1 (low_right hg (allN_right hg) h)).2.2.1
  rw [Bool.eq_iff_iff]
  unfold someB
  simp only [Bool.or_eq_true, decide_eq_true_eq, List.any_eq_true, List.mem_range, Bool.and_eq_true]
  constructor
  · rintro (e | ⟨x, h1, h2, h3, h4⟩)
    · rw [show v = T.toNat by omega, hXT]; omega
    · obtain ⟨hx, ht⟩ := arc_of hg hv h2 h1
      have h5 := h.vld x hx (by rw [ht]; exact hS) h3
      have h6 := fin_small hg h _ (hd_get hg x hx).2 h4
      rw [ht] at h5
      omega
  · intro hlt
    by_cases e : v = T.toNat
    · left; omega
    · right
      obtain ⟨a, h1, h2, h3, h4, h5⟩ := down_arc hg h v hv e hlt
      obtain ⟨t1, t2, t3⟩ := tl_at ys a n (by have := hg.hm; unfold fst; omega)
      rw [h2] at t2 t3
      exact ⟨a, t3, t2, h4, by omega⟩
theorem low_signs {rs' : List Int} (h : IsLow S n m ys rs (allN n N T) X) (hs : ∀ a, 0 < rs'.getD a 0 ↔ 0 < rs.getD a 0) : IsLow S n m ys rs' (allN n N T) X :=
  ⟨h.len, fun b hb hS h0 => h.vld b hb hS ((hs b).1 h0), h.le, fun gs hv hl => h.top gs (fun b hb hS h0 => hv b hb hS ((hs b).2 h0)) hl⟩
end
end Go.Proofs.Yticeionjlknlcaa
