/- A vertex made as high as its lowest open end, and one more. Plain. -/
import Derived.Test.YtdcbofgkfekkoaaArcsP
import Derived.Test.YtdcbofgkfekkoaaLabLeast
import Derived.Test.YtdcbofgkfekkoaaLess
import Derived.Test.YtdcbofgkfekkoaaRev
namespace Go.Proofs.Ytdcbofgkfekkoaa
set_option linter.unusedVariables false
set_option linter.unusedSimpArgs false
open Go.RowKit

theorem dnQ_steep {S : Int} {n : Nat} {ys : List Ar} {rs hs : List Int} {a : Nat} : dnQ S n ys rs hs (isP true) a = true ↔ ((tl ys n a : Int) ≠ S ∧ 0 < rs.getD a 0) ∧ 1 < hs.getD (tl ys n a) 0 - hs.getD (hd n ys a) 0 := by
  unfold dnQ isP byOf
  simp
theorem dnQ_flat {S : Int} {n : Nat} {ys : List Ar} {rs hs : List Int} {a : Nat} : dnQ S n ys rs hs (isP false) a = true ↔ ((tl ys n a : Int) ≠ S ∧ 0 < rs.getD a 0) ∧ hs.getD (tl ys n a) 0 - hs.getD (hd n ys a) 0 = 1 := by
  unfold dnQ isP byOf
  simp
theorem hd_ne_tl {N S T : Int} {n m : Nat} {ys : List Ar} (hg : Gr N S T n m ys) {a : Nat} (ha : a < m) : hd n ys a ≠ tl ys n a := by
  obtain ⟨e, x, he, hx, ho, hs⟩ := src_tl (n := n) (ys := ys) (a := a) (by have := hg.hm; unfold fst; omega)
  obtain ⟨o1, o2, -⟩ := ho
  have hh : hd n ys a = e.h.toNat := by unfold hd; rw [he]; rfl
  have hx' := hg.arcs x (List.mem_of_getElem? hx)
  unfold ArcOk at hx'
  unfold En.src at hs
  intro e1
  rw [hh] at e1
  cases hb : e.b <;> rw [hb] at o2 hs <;> simp at o2 hs <;> omega
theorem mine_iff {N S T : Int} {n m : Nat} {ys : List Ar} (hg : Gr N S T n m ys) {a u : Nat} (ha : a < m) (hu : u < n) : (fst ys u ≤ a ∧ a < fst ys (u + 1)) ↔ tl ys n a = u := by
  constructor
  · rintro ⟨h1, h2⟩; exact tl_of ys a u h1 h2 n hu
  · intro e
    obtain ⟨-, h1, h2⟩ := tl_at ys a n (by have := hg.hm; unfold fst; omega)
    rw [e] at h1 h2
    exact ⟨h1, h2⟩
theorem up_get {hs : List Int} {u : Nat} {x : Int} (hu : u < hs.length) (v : Nat) : (hs.set u x).getD v 0 = if u = v then x else hs.getD v 0 := getD_set_int hu
section
variable {N S T : Int} {n m : Nat} {ys : List Ar} {rs hs : List Int} (hg : Gr N S T n m ys) (hr : rightB N S T hs = true) {u : Nat} (hu : u < n) {x : Int}
theorem up_right (hg : Gr N S T n m ys) (hr : rightB N S T hs = true) (hu : u < n) (hS : (u : Int) ≠ S) (hT : (u : Int) ≠ T) (h0 : 0 ≤ x) (h1 : x ≤ N) : rightB N S T (hs.set u x) = true := by
  obtain ⟨q1, q2, q3, q4⟩ := right_parts.1 hr
  have hl := hg.len
  have hul : u < hs.length := by omega
  refine right_parts.2 ⟨by rw [List.length_set]; exact q1, fun y hy => ?_, ?_, ?_⟩
  · rcases List.mem_or_eq_of_mem_set hy with h | h
    · exact q2 y h
    · rw [h]; exact ⟨h0, h1⟩
  · rw [up_get hul, if_neg (by omega)]; exact q3
  · rw [up_get hul, if_neg (by omega)]; exact q4
theorem hs_len (hg : Gr N S T n m ys) (hr : rightB N S T hs = true) : hs.length = n := by
  have := (right_parts.1 hr).1
  have := hg.len
  omega
/-- None of its own arcs is steep. -/
theorem up_mine {l : Int} (hg : Gr N S T n m ys) (hr : rightB N S T hs = true) (hu : u < n) (hx : x ≤ l + 1) (hl : ∀ a, fst ys u ≤ a → a < fst ys (u + 1) → 0 < rs.getD a 0 → l ≤ kk n ys hs a) {a : Nat} (ha : a < m) (h1 : fst ys u ≤ a) (h2 : a < fst ys (u + 1)) : dnQ S n ys rs (hs.set u x) (isP true) a = false := by
  have ht := (mine_iff hg ha hu).1 ⟨h1, h2⟩
  have hn := hd_ne_tl hg ha
  have hul : u < hs.length := by rw [hs_len hg hr]; exact hu
  cases hq : dnQ S n ys rs (hs.set u x) (isP true) a with
  | false => rfl
  | true =>
    exfalso
    obtain ⟨⟨-, h3⟩, h4⟩ := dnQ_steep.1 hq
    have h5 := hl a h1 h2 h3
    unfold kk at h5
    rw [up_get hul, up_get hul, ht, if_pos rfl, if_neg (by rw [← ht]; exact fun e => hn e.symm)] at h4
    omega
/-- Arcs that do not touch it are as they were. -/
theorem up_far (hg : Gr N S T n m ys) (hr : rightB N S T hs = true) (hu : u < n) {a : Nat} (ha : a < m) (h1 : ¬ (fst ys u ≤ a ∧ a < fst ys (u + 1))) (h2 : hd n ys a ≠ u) : dnQ S n ys rs (hs.set u x) (isP true) a = dnQ S n ys rs hs (isP true) a := by
  have hul : u < hs.length := by rw [hs_len hg hr]; exact hu
  have ht : tl ys n a ≠ u := fun e => h1 ((mine_iff hg ha hu).2 e)
  unfold dnQ byOf
  rw [up_get hul, up_get hul, if_neg (fun e => ht e.symm), if_neg (fun e => h2 e.symm)]
/-- Those that end at it are steep no more than they were, if it was not lowered. -/
theorem up_in (hg : Gr N S T n m ys) (hr : rightB N S T hs = true) (hu : u < n) {a : Nat} (ha : a < m) (h1 : ¬ (fst ys u ≤ a ∧ a < fst ys (u + 1))) (h2 : hd n ys a = u) (h3 : hs.getD u 0 ≤ x) (h4 : dnQ S n ys rs (hs.set u x) (isP true) a = true) : dnQ S n ys rs hs (isP true) a = true := by
  have hul : u < hs.length := by rw [hs_len hg hr]; exact hu
  have ht : tl ys n a ≠ u := fun e => h1 ((mine_iff hg ha hu).2 e)
  rw [dnQ_steep] at h4 ⊢
  rw [h2, up_get hul, up_get hul, if_neg (fun e => ht e.symm), if_pos rfl] at h4
  rw [h2]
  exact ⟨h4.1, by omega⟩
/-- The lowest open end is one step down. -/
theorem up_flat {c : Nat} (hg : Gr N S T n m ys) (hr : rightB N S T hs = true) (hu : u < n) (hS : (u : Int) ≠ S) (hc : c < m) (h1 : fst ys u ≤ c) (h2 : c < fst ys (u + 1)) (h3 : 0 < rs.getD c 0) (hx : x = kk n ys hs c + 1) : dnQ S n ys rs (hs.set u x) (isP false) c = true := by
  have ht := (mine_iff hg hc hu).1 ⟨h1, h2⟩
  have hn := hd_ne_tl hg hc
  have hul : u < hs.length := by rw [hs_len hg hr]; exact hu
  unfold kk at hx
  rw [dnQ_flat, ht, up_get hul, up_get hul, if_pos rfl, if_neg (fun e => hn (e.symm.trans ht.symm))]
  exact ⟨⟨hS, h3⟩, by omega⟩
end
end Go.Proofs.Ytdcbofgkfekkoaa
