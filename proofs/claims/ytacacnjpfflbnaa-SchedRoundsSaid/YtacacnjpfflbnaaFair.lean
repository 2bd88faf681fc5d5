/- What SchedFair says, with no program in sight: whoever is told behind the picks was told no later than all others that are not done. -/
import Derived.Test.YtacacnjpfflbnaaTwo
namespace Go.Proofs.Ytacacnjpfflbnaa
set_option linter.unusedVariables false
open Go.RowKit

def doneOf (left : List Nat) : List Bool := left.map fun x : Nat => ((x : Int) == 0)
theorem doneOf_getD (left : List Nat) (i : Nat) (hi : i < left.length) : (doneOf left).getD i false = true ↔ left.getD i 0 = 0 := by
  simp [doneOf, hi]
theorem whoAt_inv {n f : Nat} {dl : List Bool} : ∀ m, m ≤ n → ∀ v, whoAt n f dl m = some v → ∃ k, k < n ∧ n - m ≤ k ∧ v = (f + k) % n ∧ dl.getD v false = false ∧ ∀ j, n - m ≤ j → j < k → dl.getD ((f + j) % n) false = true
  | 0, _, v, h => by cases h
  | m + 1, hm, v, h => by
    unfold whoAt at h
    split at h
    · rename_i hd
      obtain ⟨k, h1, h2, h3, h4, h5⟩ := whoAt_inv m (by omega) v h
      refine ⟨k, h1, by omega, h3, h4, fun j hj1 hj2 => ?_⟩
      by_cases e : j = n - (m + 1)
      · rw [e]; exact hd
      · exact h5 j (by omega) hj2
    · rename_i hd
      cases h
      exact ⟨n - (m + 1), by omega, Nat.le_refl _, rfl, by simpa using hd, fun j h1 h2 => by omega⟩
theorem whoAt_inv_none {n f : Nat} {dl : List Bool} : ∀ m, m ≤ n → whoAt n f dl m = none → ∀ j, n - m ≤ j → j < n → dl.getD ((f + j) % n) false = true
  | 0, _, _, j, h1, h2 => by omega
  | m + 1, hm, h, j, h1, h2 => by
    unfold whoAt at h
    split at h
    · rename_i hd
      by_cases e : j = n - (m + 1)
      · rw [e]; exact hd
      · exact whoAt_inv_none m (by omega) h j (by omega) h2
    · cases h

/-- Each worker is met, from wherever on. -/
theorem met_at (n f i : Nat) (hi : i < n) : ∃ j, j < n ∧ (f + j) % n = i := by
  have hf : f % n < n := Nat.mod_lt _ (by omega)
  by_cases h : f % n ≤ i
  · refine ⟨i - f % n, by omega, ?_⟩
    rw [← Nat.mod_add_mod, show f % n + (i - f % n) = i by omega, Nat.mod_eq_of_lt hi]
  · refine ⟨i + n - f % n, by omega, ?_⟩
    rw [← Nat.mod_add_mod, show f % n + (i + n - f % n) = i + n by omega, Nat.add_mod_right, Nat.mod_eq_of_lt hi]

/-- What is so behind k steps. -/
structure Fair (n : Nat) (s : SS) (left since : List Nat) (k all : Nat) : Prop where
  ll : left.length = n
  sl : since.length = n
  tl : s.told.length = n
  ended : s.ended ≤ k
  le : ∀ i, since.getD i 0 ≤ k
  zero : s.picks ≠ [] → ∀ i, since.getD i 0 = 0
  order : s.picks = [] → ∀ j j', j < j' → j' < n → 0 < left.getD ((s.last + 1 + j) % n) 0 → 0 < left.getD ((s.last + 1 + j') % n) 0 → since.getD ((s.last + 1 + j) % n) 0 ≤ since.getD ((s.last + 1 + j') % n) 0
  sum : left.sum + k = all
theorem sum_zero : ∀ left : List Nat, (∀ i, i < left.length → left.getD i 0 = 0) → left.sum = 0
  | [], _ => rfl
  | x :: xs, h => by
    have h0 := h 0 (by simp)
    have h1 := sum_zero xs (fun i hi => by have := h (i + 1) (by simpa using hi); simpa using this)
    simp at h0
    simp [h0, h1]
theorem sum_set : ∀ (left : List Nat) (v : Nat), v < left.length → 0 < left.getD v 0 → (left.set v (left.getD v 0 - 1)).sum + 1 = left.sum
  | [], v, h, _ => by simp at h
  | x :: xs, 0, _, h => by simp at h; simp; omega
  | x :: xs, v + 1, hv, h => by
    have := sum_set xs v (by simpa using hv) (by simpa using h)
    simp at this ⊢
    omega
theorem getD_set (l : List Nat) (v i x : Nat) (hv : v < l.length) : (l.set v x).getD i 0 = if i = v then x else l.getD i 0 := by
  simp only [List.getD_eq_getElem?_getD, List.getElem?_set]
  by_cases h : v = i
  · subst h; simp [hv]
  · rw [if_neg h, if_neg (fun e => h e.symm)]

/-- Somebody is told, who is not done; behind the picks nobody else was told earlier. -/
theorem Fair.who {n : Nat} {s : SS} {left since : List Nat} {k all : Nat} (h : Fair n s left since k all) (hn : 0 < n) (hk : k < all) :
    ∃ v, s.who (doneOf left) = some v ∧ v < n ∧ 0 < left.getD v 0 ∧ (s.picks = [] → ∀ i, i < n → 0 < left.getD i 0 → since.getD v 0 ≤ since.getD i 0) ∧ Fair n (s.step (doneOf left)) (left.set v (left.getD v 0 - 1)) (if s.picks = [] then since.set v (k + 1) else since) (k + 1) all := by
  have htl := h.tl
  cases hw : s.who (doneOf left) with
  | none =>
    exfalso
    unfold SS.who at hw
    rw [htl] at hw
    have h1 := whoAt_inv_none n (Nat.le_refl _) hw
    have h2 : left.sum = 0 := sum_zero left fun i hi => by
      obtain ⟨j, hj, e⟩ := met_at n (fromOf n s.last s.picks) i (by have := h.ll; omega)
      have := h1 j (by omega) hj
      rw [e] at this
      exact (doneOf_getD left i hi).1 this
    have := h.sum
    omega
  | some v =>
    have hw2 := hw
    unfold SS.who at hw2
    rw [htl] at hw2
    obtain ⟨k0, hk0, _, hv, hnd, hall⟩ := whoAt_inv n (Nat.le_refl _) v hw2
    have hvn : v < n := by rw [hv]; exact Nat.mod_lt _ hn
    have hvl : v < left.length := by have := h.ll; omega
    have hvs : v < since.length := by have := h.sl; omega
    have hpos : 0 < left.getD v 0 := by
      rcases Nat.eq_zero_or_pos (left.getD v 0) with e | e
      · have := (doneOf_getD left v hvl).2 e
        rw [this] at hnd; cases hnd
      · exact e
    have hfr : s.picks = [] → ∀ j, (fromOf n s.last s.picks + j) % n = (s.last + 1 + j) % n := fun e j => by
      rw [e]; simp only [fromOf]; rw [Nat.mod_add_mod]
    have hstep : s.step (doneOf left) = s.tell v (doneOf left) := by unfold SS.step; rw [hw]
    have hlast : (s.tell v (doneOf left)).last = v := by unfold SS.tell; split <;> rfl
    have hpk : (s.tell v (doneOf left)).picks = s.picks.tail := by unfold SS.tell; split <;> rfl
    have hold : s.picks = [] → ∀ i, i < n → 0 < left.getD i 0 → since.getD v 0 ≤ since.getD i 0 := by
      intro hp i hi hli
      obtain ⟨j, hj, e⟩ := met_at n (fromOf n s.last s.picks) i hi
      by_cases h1 : j < k0
      · have := hall j (by omega) h1
        rw [e] at this
        have := (doneOf_getD left i (by have := h.ll; omega)).1 this
        omega
      · by_cases h2 : j = k0
        · have : i = v := by rw [← e, h2, hv]
          rw [this]; exact Nat.le_refl _
        · have := h.order hp k0 j (by omega) hj
          rw [← hfr hp, ← hfr hp, ← hv, e] at this
          exact this hpos hli
    refine ⟨v, rfl, hvn, hpos, hold, ?_⟩
    rw [hstep]
    refine ⟨by rw [List.length_set]; exact h.ll, ?_, ?_, ?_, ?_, ?_, ?_, ?_⟩
    · split
      · rw [List.length_set]; exact h.sl
      · exact h.sl
    · unfold SS.tell; split <;> simp [htl]
    · have := SS.tell_ended s v (doneOf left); have := h.ended; omega
    · intro i
      split
      · rw [getD_set _ _ _ _ hvs]; split; exact Nat.le_refl _; have := h.le i; omega
      · have := h.le i; omega
    · intro hp i
      rw [hpk] at hp
      have hp0 : s.picks ≠ [] := fun e => hp (by rw [e]; rfl)
      rw [if_neg hp0]
      exact h.zero hp0 i
    · intro hp j j' hj hj' ha hb
      rw [hlast] at ha hb ⊢
      by_cases hp0 : s.picks = []
      · rw [if_pos hp0]
        rw [getD_set _ _ _ _ hvs, getD_set _ _ _ _ hvs]
        rw [getD_set _ _ _ _ hvl] at ha hb
        -- the workers' places in the order ahead of the step
        have hpl : ∀ i, (v + 1 + i) % n = (s.last + 1 + (k0 + 1 + i)) % n := fun i => by
          rw [hv, hfr hp0, show (s.last + 1 + k0) % n + 1 + i = (s.last + 1 + k0) % n + (1 + i) by omega, Nat.mod_add_mod]
          congr 1; omega
        have hwrap : ∀ i, n ≤ k0 + 1 + i → i < n → (v + 1 + i) % n = (s.last + 1 + (k0 + 1 + i - n)) % n := fun i h1 h2 => by
          rw [hpl, show s.last + 1 + (k0 + 1 + i) = s.last + 1 + (k0 + 1 + i - n) + n by omega, Nat.add_mod_right]
        by_cases hj1 : j' = n - 1
        · have hbv : (v + 1 + j') % n = v := by rw [hj1, show v + 1 + (n - 1) = v + n by omega, Nat.add_mod_right, Nat.mod_eq_of_lt hvn]
          rw [hbv, if_pos rfl]
          split
          · exact Nat.le_refl _
          · have := h.le ((v + 1 + j) % n); omega
        · have hlt : k0 + 1 + j' < n := by
            rcases Nat.lt_or_ge (k0 + 1 + j') n with h1 | h1
            · exact h1
            · exfalso
              have h2 := hall (k0 + 1 + j' - n) (by omega) (by omega)
              rw [hfr hp0, ← hwrap j' h1 hj'] at h2
              have hne : (v + 1 + j') % n ≠ v := fun e => by
                rw [e] at h2; rw [h2] at hnd; cases hnd
              rw [if_neg hne] at hb
              have := (doneOf_getD left ((v + 1 + j') % n) (by have := h.ll; have := Nat.mod_lt (v + 1 + j') hn; omega)).1 h2
              omega
          have hne : ∀ i, k0 + 1 + i < n → (v + 1 + i) % n ≠ v := fun i hi e => by
            have h1 : (v + 1 + i) % n = if v + 1 + i < n then v + 1 + i else v + 1 + i - n := by
              split
              · exact Nat.mod_eq_of_lt (by omega)
              · rw [show v + 1 + i = v + 1 + i - n + n by omega, Nat.add_mod_right, Nat.mod_eq_of_lt (by omega)]
                omega
            rw [h1] at e
            split at e <;> omega
          rw [if_neg (hne j (by omega))] at ha ⊢
          rw [if_neg (hne j' hlt)] at hb ⊢
          have := h.order hp0 (k0 + 1 + j) (k0 + 1 + j') (by omega) hlt
          rw [← hpl, ← hpl] at this
          exact this ha hb
      · rw [if_neg hp0, h.zero hp0, h.zero hp0]
        exact Nat.le_refl _
    · have := sum_set left v hvl hpos; have := h.sum; omega
end Go.Proofs.Ytacacnjpfflbnaa
