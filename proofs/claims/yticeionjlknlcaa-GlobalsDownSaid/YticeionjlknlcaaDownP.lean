/- Pushes along flat arcs. Plain. -/
import Derived.Test.YticeionjlknlcaaReachP
import Derived.Test.YticeionjlknlcaaAwake20
namespace Go.Proofs.Yticeionjlknlcaa
set_option linter.unusedVariables false
set_option linter.unusedSimpArgs false
open Go.RowKit

/-- Some of what is left of an arc goes to the arc back. -/
def pushL (n : Nat) (ys : List Ar) (L : List Int) (a : Nat) (d : Int) : List Int := (L.set a (L.getD a 0 - d)).set (rv n ys a) (L.getD (rv n ys a) 0 + d)
/-- An arc's and its back's numbers are bounded together. -/
def PairB (n m : Nat) (ys : List Ar) (L : List Int) : Prop := ∀ b, b < m → 0 ≤ L.getD b 0 ∧ L.getD b 0 + L.getD (rv n ys b) 0 ≤ 2251799813685248
section
variable {N S T : Int} {n m : Nat} {ys : List Ar} {L hs X : List Int}
theorem pair_start (hg : Gr N S T n m ys) {rs : List Int} (hm : rs.length = m) (h : ∀ x ∈ rs, 0 ≤ x ∧ x < 1125899906842624) : PairB n m ys rs := by
  intro b hb
  have h1 : ∀ i, i < m → 0 ≤ rs.getD i 0 ∧ rs.getD i 0 < 1125899906842624 := fun i hi => by
    have := h _ (List.getElem_mem (show i < rs.length by omega))
    simpa [List.getD, List.getElem?_eq_getElem (show i < rs.length by omega)] using this
  have h2 := h1 b hb
  have h3 := h1 _ (rv_facts hg b hb).2.1
  omega
theorem push_len (a : Nat) (d : Int) : (pushL n ys L a d).length = L.length := by simp [pushL]
theorem flat_rv (hg : Gr N S T n m ys) {a : Nat} (ha : a < m) (hq : dnQ S n ys L hs (isP false) a = true) : rv n ys a ≠ a := by
  intro e
  obtain ⟨-, -, h3⟩ := flat_iff.1 hq
  have h4 := (rv_facts hg a ha).2.2.1
  rw [e] at h4
  rw [h4] at h3
  omega
theorem push_get (hg : Gr N S T n m ys) (hL : L.length = m) {a : Nat} (ha : a < m) (hr : rv n ys a ≠ a) (d : Int) (b : Nat) : (pushL n ys L a d).getD b 0 = if b = rv n ys a then L.getD (rv n ys a) 0 + d else if b = a then L.getD a 0 - d else L.getD b 0 := by
  unfold pushL
  have := (rv_facts hg a ha).2.1
  rw [getD_set (by rw [List.length_set]; omega), getD_set (by omega)]
theorem push_pair (hg : Gr N S T n m ys) (hL : L.length = m) (hP : PairB n m ys L) {a : Nat} (ha : a < m) (hr : rv n ys a ≠ a) {d : Int} (h0 : 0 ≤ d) (hd : d ≤ L.getD a 0) : PairB n m ys (pushL n ys L a d) := by
  intro b hb
  have hrm := (rv_facts hg a ha).2.1
  have hrr := rv_rv hg a ha
  have p1 := hP a ha
  have p2 := hP _ hrm
  have p3 := hP b hb
  have hbb := rv_rv hg b hb
  rw [push_get hg hL ha hr, push_get hg hL ha hr]
  by_cases e1 : b = rv n ys a
  · subst e1
    rw [if_pos rfl, hrr, if_neg (fun e => hr e.symm), if_pos rfl]
    omega
  · by_cases e2 : b = a
    · subst e2
      rw [if_neg e1, if_pos rfl, if_pos rfl]
      omega
    · have e3 : rv n ys b ≠ rv n ys a := fun e => e2 (by rw [← hbb, e, hrr])
      have e4 : rv n ys b ≠ a := fun e => e1 (by rw [← e, hbb])
      rw [if_neg e1, if_neg e2, if_neg e3, if_neg e4]
      exact p3
theorem push_top (hg : Gr N S T n m ys) (hL : L.length = m) (h : IsLow S n m ys L (allN n N T) hs) {a : Nat} (ha : a < m) (hq : dnQ S n ys L hs (isP false) a = true) {d : Int} (h' : IsLow S n m ys (pushL n ys L a d) (allN n N T) X) : LeV n hs X := by
  have hr := flat_rv hg ha hq
  refine h'.top hs (fun b hb hS h0 => ?_) h.le
  rw [push_get hg hL ha hr] at h0
  obtain ⟨q1, q2, q3⟩ := flat_iff.1 hq
  by_cases e1 : b = rv n ys a
  · subst e1
    rw [(rv_facts hg a ha).2.2.1, (rv_facts hg a ha).2.2.2.1]
    omega
  · rw [if_neg e1] at h0
    by_cases e2 : b = a
    · subst e2
      exact h.vld b hb hS q2
    · rw [if_neg e2] at h0
      exact h.vld b hb hS h0
theorem sum_mono : ∀ (xs zs : List Int), xs.length = zs.length → (∀ v, v < xs.length → xs.getD v 0 ≤ zs.getD v 0) → xs.sum ≤ zs.sum
  | [], [], _, _ => by simp
  | x :: xs, z :: zs, hl, h => by
    have h1 := sum_mono xs zs (by simpa using hl) (fun v hv => by simpa using h (v + 1) (by simpa using hv))
    have h2 := h 0 (by simp)
    simp only [List.getD_cons_zero] at h2
    simp only [List.sum_cons]
    omega
theorem not_risen {g s g' s' : Int} (h1 : g ≤ g') (h2 : s ≤ s') : riB g' s' g s = false := by
  unfold riB
  rw [decide_eq_false]
  omega
end
end Go.Proofs.Yticeionjlknlcaa
