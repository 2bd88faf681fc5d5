/- Valid heights, and how far T is. Plain. -/
import Derived.Test.YtfdbifhkhdnnkaaLabAt
import Derived.Test.YtfdbifhkhdnnkaaRev
import Derived.Test.YtfdbifhkhdnnkaaDistP
import Derived.Test.YtfdbifhkhdnnkaaLess
namespace Go.Proofs.Ytfdbifhkhdnnkaa
set_option linter.unusedVariables false
set_option linter.unusedSimpArgs false
open Go.RowKit

/-- With S's arcs closed. -/
def Shut (n m : Nat) (ys : List Ar) (s : Nat) (rs ro : List Int) : Prop := ro.length = m ∧ ∀ i, i < m → ro.getD i 0 = if tl ys n i = s then 0 else rs.getD i 0
def ints (d : List Nat) : List Int := d.map fun (x : Nat) => (x : Int)
theorem ints_get (d : List Nat) (v : Nat) : (ints d).getD v 0 = (d.getD v 0 : Nat) := by
  simp only [ints, List.getD_eq_getElem?_getD, List.getElem?_map]
  cases d[v]? <;> rfl
theorem lv_ints (d : List Nat) : lv (ints d) = nv d := by simp [lv, ints, nv]
theorem shut_s {n m : Nat} {ys : List Ar} {s : Nat} {rs ro : List Int} (h : Shut n m ys s rs ro) {t : Nat} (hst : s ≠ t) {d : List Nat} (hsn : s < n) (hd : IsD n t (fun u x => OpenA n m ys ro x u) d) : d.getD s 0 = n := by
  have h1 := hd.le s hsn
  rcases Nat.lt_or_ge (d.getD s 0) n with h2 | h2
  · obtain ⟨u, hu, ⟨a, ha, e1, e2, e3⟩, -⟩ := hd.par s hsn hst h2
    rw [h.2 a ha, if_pos e1] at e3
    omega
  · omega
theorem valid_dist {n m s t : Nat} {ys : List Ar} {rs ro hs : List Int} (hg : Gr n s t n m ys) (hm : rs.length = m) (h : Shut n m ys s rs ro) {d : List Nat} (hd : IsD n t (fun u x => OpenA n m ys ro x u) d)
    (hv : validB n s t n m ys rs hs = true) : ∀ k v, v < n → v ≠ s → d.getD v 0 = k → hs.getD v 0 ≤ (d.getD v 0 : Nat) := by
  have hl := hg.len
  have hr : rightB n s t hs = true := by
    unfold validB mayB at hv
    simp only [Bool.and_eq_true] at hv
    exact hv.1.2
  have hvv := (validB_iff hm hr).1 hv
  obtain ⟨r1, r2, r3, r4⟩ := right_parts.1 hr
  intro k
  induction k using Nat.strongRecOn with
  | _ k ih =>
    intro v hv hne hk
    by_cases h2 : v = t
    · subst h2
      rw [hd.src]
      simp at r3 ⊢
      omega
    · rcases Nat.lt_or_ge (d.getD v 0) n with h1 | h1
      · obtain ⟨u, hu, ⟨a, ha, e1, e2, e3⟩, e4⟩ := hd.par v hv h2 h1
        rw [h.2 a ha] at e3
        split at e3
        · omega
        · rename_i e5
          have h6 := hvv a ha
          have hus : u ≠ s := fun e => by
            subst e
            have := shut_s h (by omega) hu hd
            omega
          have h7 := ih (d.getD u 0) (by omega) u hu hus rfl
          simp only [dnQ, byOf, isP, if_true, e1, e2] at h6
          rw [decide_eq_true (show (v : Int) ≠ s by omega), decide_eq_true e3, Bool.true_and, Bool.true_and] at h6
          have := of_decide_eq_false h6
          omega
      · obtain ⟨-, -, h8⟩ := rightB_in hr v (by omega)
        omega
theorem dist_valid {n m s t : Nat} {ys : List Ar} {rs ro : List Int} (hg : Gr n s t n m ys) (hm : rs.length = m) (h : Shut n m ys s rs ro) {d : List Nat} (hd : IsD n t (fun u x => OpenA n m ys ro x u) d) :
    rightB n s t (ints (d.set s n)) = true ∧ dnL n s t n m ys rs (ints (d.set s n)) (isP true) = [] ∧ validB n s t n m ys rs (ints (d.set s n)) = true := by
  have hl := hg.len
  have hdl := hd.len
  have hst : s ≠ t := by omega
  have hsn : s < n := by omega
  have htn : t < n := by omega
  have g : ∀ v, (ints (d.set s n)).getD v 0 = if s = v then (n : Int) else (d.getD v 0 : Nat) := fun v => by
    rw [ints_get, getD_set (by omega)]
    split <;> rfl
  have hs0 := shut_s h hst hsn hd
  have hR : rightB n s t (ints (d.set s n)) = true := by
    refine right_parts.2 ⟨by simp [ints, hdl], fun x hx => ?_, ?_, ?_⟩
    · obtain ⟨y, hy, rfl⟩ := List.mem_map.1 hx
      rcases List.mem_or_eq_of_mem_set hy with e | e
      · obtain ⟨i, hi, e⟩ := List.getElem_of_mem e
        have := hd.le i (by omega)
        rw [show d.getD i 0 = y by simp [hi, e]] at this
        omega
      · omega
    · rw [show ((t : Int).toNat) = t from rfl, g, if_neg hst, hd.src]; rfl
    · rw [show ((s : Int).toNat) = s from rfl, g, if_pos rfl]
  have hV : ∀ a, a < m → dnQ s n ys rs (ints (d.set s n)) (isP true) a = false := by
    intro a ha
    cases hb : dnQ s n ys rs (ints (d.set s n)) (isP true) a with
    | false => rfl
    | true =>
      exfalso
      simp only [dnQ, byOf, isP, if_true, Bool.and_eq_true, decide_eq_true_eq, g] at hb
      obtain ⟨⟨q1, q2⟩, q3⟩ := hb
      have ht : tl ys n a < n := (tl_at ys a n (by have := hg.hm; unfold fst; omega)).1
      have hh := (hd_get hg a ha).2
      have q1' : tl ys n a ≠ s := by omega
      rw [if_neg (by omega)] at q3
      have hle := hd.le _ ht
      by_cases e : s = Go.Proofs.Ytfdbifhkhdnnkaa.hd n ys a
      · rw [if_pos e] at q3
        omega
      · rw [if_neg e] at q3
        have := hd.step _ _ hh ht ⟨a, ha, rfl, rfl, by rw [h.2 a ha, if_neg q1']; exact q2⟩
        omega
  have hV2 := (validB_iff hm hR).2 hV
  refine ⟨hR, ?_, hV2⟩
  unfold validB at hV2
  simp only [Bool.and_eq_true, decide_eq_true_eq] at hV2
  have := hV2.2
  simpa using this
end Go.Proofs.Ytfdbifhkhdnnkaa
