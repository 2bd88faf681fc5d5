/- Strict moves keep heights valid: plain. -/
import Derived.Test.YtdhimfkmgcfohaaRelStrict
import Derived.Test.YtdhimfkmgcfohaaRelBegun
import Derived.Test.YtdhimfkmgcfohaaLabValidS
namespace Go.Proofs.Ytdhimfkmgcfohaa
set_option linter.unusedVariables false
set_option linter.unusedSimpArgs false
open Go.RowKit

theorem right_partsR {N S T : Int} {xs : List Int} : rightB N S T xs = true ↔ (xs.length : Int) = N ∧ (∀ x ∈ xs, 0 ≤ x ∧ x ≤ N) ∧ xs.getD T.toNat 0 = 0 ∧ xs.getD S.toNat 0 = N := by
  unfold rightB
  simp only [Bool.and_eq_true, decide_eq_true_eq, List.all_eq_true]
  constructor
  · rintro ⟨⟨⟨h1, h2⟩, h3⟩, h4⟩; exact ⟨h1, h2, h3, h4⟩
  · rintro ⟨h1, h2, h3, h4⟩; exact ⟨⟨⟨h1, h2⟩, h3⟩, h4⟩
/-- A state whose heights are valid. -/
structure VInv (N S T : Int) (n m : Nat) (ys : List Ar) (p : PS) : Prop where
  ok : p.ok n m
  right : rightB N S T p.hs = true
  flat : ∀ a, a < m → (tl ys n a : Int) ≠ S → 0 < p.rs.getD a 0 → p.hs.getD (tl ys n a) 0 ≤ p.hs.getD (hd n ys a) 0 + 1
theorem VInv.valid {N S T : Int} {n m : Nat} {ys : List Ar} {p : PS} (h : VInv N S T n m ys p) : validB N S T n m ys p.rs p.hs = true := by
  unfold validB mayB dnL
  unfold mayB
  rw [h.right, decide_eq_true h.ok.1]
  simp only [Bool.and_self, if_true, Bool.true_and, decide_eq_true_eq, List.length_eq_zero_iff, List.filter_eq_nil_iff, List.mem_range]
  intro a ha hq
  simp only [dnQ, byOf, isP, if_true, Bool.and_eq_true, decide_eq_true_eq] at hq
  obtain ⟨⟨q1, q2⟩, q3⟩ := hq
  have := h.flat a ha q1 q2
  replace q3 := of_decide_eq_true q3
  omega
theorem VInv.small {N S T : Int} {n m : Nat} {ys : List Ar} {p : PS} (hg : Gr N S T n m ys) (h : VInv N S T n m ys p) : ∀ x ∈ p.hs, 0 ≤ x ∧ x ≤ 1000000 := fun x hx => by
  have h1 := (right_partsR.1 h.right).2.1 x hx
  have := hg.len
  omega
theorem getD_set_r (l : List Int) (i j : Nat) (x : Int) : (l.set i x).getD j 0 = if i = j then (if j < l.length then x else 0) else l.getD j 0 := by
  simp only [List.getD_eq_getElem?_getD, List.getElem?_set]
  split
  · split
    · rename_i h1 h2; rw [if_pos (h1 ▸ h2)]; rfl
    · rename_i h1 h2; rw [if_neg (h1 ▸ h2)]; rfl
  · rfl
/-- A state to begin with. -/
theorem begP_valid {N S T : Int} {n m : Nat} {ys : List Ar} (hg : Gr N S T n m ys) : VInv N S T n m ys (begP N S n ys) := by
  have hl := hg.len
  have hh : ∀ j, (begP N S n ys).hs.getD j 0 = if S.toNat = j then N else 0 := fun j => by
    show ((List.replicate n 0).set S.toNat N).getD j 0 = _
    rw [getD_set_r]
    by_cases h : S.toNat = j
    · rw [if_pos h, if_pos h, if_pos (by rw [List.length_replicate]; omega)]
    · rw [if_neg h, if_neg h]
      simp only [List.getD_eq_getElem?_getD, List.getElem?_replicate]
      split <;> rfl
  refine ⟨begP_ok N S n m ys hg.hm, right_partsR.2 ⟨?_, ?_, ?_, ?_⟩, ?_⟩
  · show (((List.replicate n (0 : Int)).set S.toNat N).length : Int) = N
    simp only [List.length_set, List.length_replicate]
    omega
  · intro x hx
    have h2 : x = N ∨ x = 0 := by
      rcases List.mem_or_eq_of_mem_set hx with h | h
      · exact .inr (List.eq_of_mem_replicate h)
      · exact .inl h
    omega
  · rw [hh, if_neg (by omega)]
  · rw [hh, if_pos rfl]
  · intro a ha hs _
    rw [hh, hh, if_neg (by omega)]
    split <;> omega
/-- What the lowest end is at most. -/
theorem leastP_le {n : Nat} {ys : List Ar} {p : PS} : ∀ (k a : Nat) (lo : Int) (so : Bool), (so = true → (leastP n ys p k a lo so).1 ≤ lo ∧ (leastP n ys p k a lo so).2 = true) ∧ ∀ b, a ≤ b → b < a + k → 0 < p.rs.getD b 0 → (leastP n ys p k a lo so).1 ≤ p.hs.getD (hd n ys b) 0
  | 0, a, lo, so => ⟨fun h => ⟨Int.le_refl _, h⟩, fun b h1 h2 => by omega⟩
  | k + 1, a, lo, so => by
    unfold leastP
    split
    · rename_i hc
      obtain ⟨i1, i2⟩ := leastP_le (n := n) (ys := ys) (p := p) k (a + 1) (p.hs.getD (hd n ys a) 0) true
      refine ⟨fun hs => ⟨?_, (i1 rfl).2⟩, fun b h1 h2 h3 => ?_⟩
      · have h4 := (i1 rfl).1
        rcases hc.2 with h | h
        · rw [hs] at h; cases h
        · omega
      · by_cases hb : b = a
        · subst hb; exact (i1 rfl).1
        · exact i2 b (by omega) (by omega) h3
    · rename_i hc
      obtain ⟨i1, i2⟩ := leastP_le (n := n) (ys := ys) (p := p) k (a + 1) lo so
      refine ⟨i1, fun b h1 h2 h3 => ?_⟩
      by_cases hb : b = a
      · subst hb
        have h5 : so = true := by
          cases hso : so with
          | true => rfl
          | false => exact absurd ⟨h3, .inl hso⟩ hc
        have h6 := (i1 h5).1
        by_cases h7 : p.hs.getD (hd n ys b) 0 < lo
        · exact absurd ⟨h3, .inr h7⟩ hc
        · omega
      · exact i2 b (by omega) (by omega) h3
/-- A strict move keeps heights valid, as long as a lift does not go beyond N. -/
theorem strict_valid {N S T : Int} {n m : Nat} {ys : List Ar} {p : PS} {e : Ev} (hg : Gr N S T n m ys) (h : VInv N S T n m ys p) (hs : strictP N S T n ys p e = true) (hN : ¬ (e.wt = 2 ∧ N < e.h)) : legalP N S T ys p e = 0 ∧ VInv N S T n m ys (moveP N S T n ys p e) := by
  have hl := hg.len
  unfold strictP at hs
  split at hs
  · cases hs
  · rename_i hle
    have hle : legalP N S T ys p e = 0 := Decidable.not_not.1 hle
    refine ⟨hle, ?_⟩
    unfold moveP
    rw [if_pos hle]
    have hok : (doesP n ys p e).ok n m := doesP_ok h.ok
    unfold legalP at hle
    split at hle
    · cases hle
    · rename_i hw
      obtain ⟨hr1, hr2, hr3, hr4⟩ := right_partsR.1 h.right
      have hkl : p.hs.length = n := h.ok.2.2
      by_cases h1 : e.wt = 1
      · have h2 : ¬ e.wt = 2 := by omega
        rw [if_pos h1] at hs
        rw [if_neg h2] at hle
        have hs := of_decide_eq_true hs
        have hla : ¬ (e.a < (fst ys e.u.toNat : Int) ∨ (fst ys (e.u.toNat + 1) : Int) ≤ e.a) := by
          intro hc
          unfold pushP at hle
          rw [if_pos hc] at hle
          cases hle
        have hd1 : (doesP n ys p e).hs = p.hs := by unfold doesP; rw [if_neg h2]
        have hun : e.u.toNat < n := by omega
        have hfm : fst ys (e.u.toNat + 1) ≤ m := by
          have := fst_mono ys (show e.u.toNat + 1 ≤ n by omega)
          have h4 := hg.hm
          unfold fst at this ⊢
          omega
        have ham : e.a.toNat < m := by omega
        have htl : tl ys n e.a.toNat = e.u.toNat := tl_of ys e.a.toNat e.u.toNat (by omega) (by omega) n hun
        obtain ⟨-, rv1, rv2, rv3, -⟩ := rv_facts hg e.a.toNat ham
        refine ⟨hok, by rw [hd1]; exact h.right, fun a ha ht hp => ?_⟩
        rw [hd1]
        by_cases ha1 : a = e.a.toNat
        · rw [ha1, htl]; omega
        · by_cases ha2 : a = rv n ys e.a.toNat
          · rw [ha2, rv2, rv3, htl]; omega
          · refine h.flat a ha ht ?_
            have : (doesP n ys p e).rs.getD a 0 = p.rs.getD a 0 := by
              unfold doesP plusAt
              rw [if_neg h2]
              simp only []
              rw [getD_set_r, if_neg (fun e => ha2 e.symm), getD_set_r, if_neg (fun e => ha1 e.symm)]
            rw [this] at hp
            exact hp
      · have h2 : e.wt = 2 := by omega
        rw [if_neg h1] at hs
        rw [if_pos h2] at hle
        simp only [Bool.and_eq_true, decide_eq_true_eq] at hs
        obtain ⟨hso, hx1, hx2, hx3⟩ := hs
        have hup : p.hs.getD e.u.toNat 0 < e.h := by
          unfold liftP at hle
          split at hle
          · cases hle
          · omega
        have hd1 : doesP n ys p e = ⟨p.rs, p.es, p.hs.set e.u.toNat e.h⟩ := by unfold doesP; rw [if_pos h2]
        have hu0 : 0 ≤ p.hs.getD e.u.toNat 0 := (rightB_in h.right e.u.toNat (by omega)).2.1
        rw [hd1] at hok ⊢
        refine ⟨hok, right_partsR.2 ⟨by simpa using hr1, ?_, ?_, ?_⟩, ?_⟩
        · intro x hx
          rcases List.mem_or_eq_of_mem_set hx with hx | hx
          · exact hr2 x hx
          · omega
        · show (p.hs.set e.u.toNat e.h).getD T.toNat 0 = 0
          rw [getD_set_r, if_neg (by omega)]; exact hr3
        · show (p.hs.set e.u.toNat e.h).getD S.toNat 0 = N
          rw [getD_set_r, if_neg (by omega)]; exact hr4
        · intro a ha ht hp
          show (p.hs.set e.u.toNat e.h).getD (tl ys n a) 0 ≤ (p.hs.set e.u.toNat e.h).getD (hd n ys a) 0 + 1
          have ha' : a < fst ys n := by have := hg.hm; unfold fst; omega
          obtain ⟨t1, t2, t3⟩ := tl_at ys a n ha'
          have hh := (hd_get hg a ha).2
          have hf := h.flat a ha ht hp
          by_cases c1 : tl ys n a = e.u.toNat
          · have hle2 := (leastP_le (n := n) (ys := ys) (p := p) (fst ys (e.u.toNat + 1) - fst ys e.u.toNat) (fst ys e.u.toNat) 0 false).2 a (by rw [← c1]; exact t2) (by rw [← c1]; omega) hp
            have hx3' : e.h = (leastP n ys p (fst ys (e.u.toNat + 1) - fst ys e.u.toNat) (fst ys e.u.toNat) 0 false).1 + 1 := hx3
            rw [getD_set_r, getD_set_r, if_pos c1.symm, if_pos (by omega)]
            split
            · rw [if_pos (by omega)]; omega
            · omega
          · rw [getD_set_r, getD_set_r, if_neg (fun e => c1 e.symm)]
            split
            · rename_i c2
              rw [if_pos (by omega)]
              rw [← c2] at hf
              omega
            · exact hf
end Go.Proofs.Ytdhimfkmgcfohaa
