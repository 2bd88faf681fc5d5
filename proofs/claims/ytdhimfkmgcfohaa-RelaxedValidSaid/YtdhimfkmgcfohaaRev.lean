/- Of each residual arc the other one: where it begins and ends. Plain. -/
import Derived.Test.YtdhimfkmgcfohaaGst
namespace Go.Proofs.Ytdhimfkmgcfohaa
set_option linter.unusedVariables false
set_option linter.unusedSimpArgs false
open Go.RowKit

theorem fst_le (ys : List Ar) {u v : Nat} (h : u ≤ v) : fst ys u ≤ fst ys v := fst_mono ys h
theorem all_prefix (ys : List Ar) (v n : Nat) (h : v ≤ n) (a : Nat) (ha : a < fst ys v) : (enAll n ys)[a]? = (enAll v ys)[a]? := by
  obtain ⟨d, rfl⟩ := Nat.exists_eq_add_of_le h
  clear h
  induction d with
  | zero => rfl
  | succ d ih =>
    rw [show v + (d + 1) = (v + d) + 1 by omega, enAll_succ, List.getElem?_append_left]
    · exact ih
    · have := fst_mono ys (show v ≤ v + d by omega)
      unfold fst at this ha
      omega
/-- Where an entry's arc begins. -/
theorem src_tl {n : Nat} {ys : List Ar} {a : Nat} (ha : a < fst ys n) : ∃ e x, (enAll n ys)[a]? = some e ∧ ys[e.k]? = some x ∧ e.of x ∧ e.src x = (tl ys n a : Int) := by
  obtain ⟨h1, h2, h3⟩ := tl_at ys a n ha
  generalize tl ys n a = v at *
  have e1 := all_prefix ys (v + 1) n (by omega) a h3
  rw [enAll_succ, List.getElem?_append_right h2] at e1
  have hl : a - (enAll v ys).length < (enRow v 0 ys).length := by
    unfold fst at h2 h3
    rw [enAll_succ, List.length_append] at h3
    omega
  rw [List.getElem?_eq_getElem hl] at e1
  obtain ⟨x, hx, ho, hs⟩ := mem_row'.1 (List.getElem_mem hl)
  exact ⟨_, x, e1, hx, ho, hs⟩
def rv (n : Nat) (ys : List Ar) (a : Nat) : Nat := (revs (enAll n ys) (enAll n ys).length).getD a 0
theorem rv_facts {N S T : Int} {n m : Nat} {ys : List Ar} (h : Gr N S T n m ys) (a : Nat) (ha : a < m) :
    (nv (revs (enAll n ys) (enAll n ys).length))[a]? = some (.int .i64 (rv n ys a : Nat)) ∧ rv n ys a < m ∧ tl ys n (rv n ys a) = hd n ys a ∧ hd n ys (rv n ys a) = tl ys n a ∧ mate (enAll n ys) a (rv n ys a) = true := by
  have hm := h.hm
  obtain ⟨h1, h2⟩ := revs_at h.arcs (enAll n ys).length (Nat.le_refl _)
  obtain ⟨r, hr, hlt, hmt⟩ := h2 a (by omega)
  have er : rv n ys a = r := by unfold rv; rw [List.getD_eq_getElem?_getD, hr]; rfl
  rw [er]
  refine ⟨by unfold nv; rw [List.getElem?_map, hr]; rfl, by omega, ?_⟩
  obtain ⟨e, x, he, hx, ho, hs⟩ := src_tl (n := n) (ys := ys) (a := a) (by unfold fst; omega)
  obtain ⟨e', x', he', hx', ho', hs'⟩ := src_tl (n := n) (ys := ys) (a := r) (by unfold fst; omega)
  have hk : e.k = e'.k := by
    unfold mate at hmt
    rw [he, he'] at hmt
    simp at hmt
    exact hmt.1
  have hne : a ≠ r := by
    unfold mate at hmt
    rw [he, he'] at hmt
    simp at hmt
    exact hmt.2
  rw [← hk, hx] at hx'
  cases hx'
  have hb : e.b ≠ e'.b := by
    intro hb
    have hP := List.pairwise_iff_getElem.1 (all_apart n ys)
    obtain ⟨q1, q2⟩ := List.getElem?_eq_some_iff.1 he
    obtain ⟨q3, q4⟩ := List.getElem?_eq_some_iff.1 he'
    rcases Nat.lt_or_gt_of_ne hne with hl | hl
    · exact hP a r q1 q3 hl (by rw [q2, q4]; exact ⟨hk, hb⟩)
    · exact hP r a q3 q1 hl (by rw [q2, q4]; exact ⟨hk.symm, hb.symm⟩)
  have g1 : hd n ys a = e.h.toNat := by unfold hd; rw [he]; rfl
  have g2 : hd n ys r = e'.h.toNat := by unfold hd; rw [he']; rfl
  obtain ⟨-, o2, -⟩ := ho
  obtain ⟨-, p2, -⟩ := ho'
  unfold En.src at hs hs'
  rw [g1, g2]
  cases hb1 : e.b <;> cases hb2 : e'.b <;> simp_all
theorem rv_rv {N S T : Int} {n m : Nat} {ys : List Ar} (h : Gr N S T n m ys) (a : Nat) (ha : a < m) : rv n ys (rv n ys a) = a := by
  obtain ⟨-, hr, -, -, hmt⟩ := rv_facts h a ha
  obtain ⟨-, hr2, -, -, hmt2⟩ := rv_facts h _ hr
  have hm := h.hm
  obtain ⟨j, hj, hf, hmj⟩ := mate_of h.arcs (i := rv n ys a) (by omega)
  have sym : mate (enAll n ys) (rv n ys a) a = true := by
    unfold mate at hmt ⊢
    rw [List.getElem?_eq_getElem (show a < (enAll n ys).length by omega), List.getElem?_eq_getElem (show rv n ys a < (enAll n ys).length by omega)] at hmt ⊢
    simp at hmt ⊢
    exact ⟨hmt.1.symm, fun e => hmt.2 e.symm⟩
  have i1 : a ∈ (List.range (enAll n ys).length).filter (mate (enAll n ys) (rv n ys a)) := List.mem_filter.2 ⟨List.mem_range.2 (by omega), sym⟩
  have i2 : rv n ys (rv n ys a) ∈ (List.range (enAll n ys).length).filter (mate (enAll n ys) (rv n ys a)) := List.mem_filter.2 ⟨List.mem_range.2 (by omega), hmt2⟩
  rw [hf, List.mem_singleton] at i1 i2
  omega
/-- An open arc from one to another. -/
def OpenA (n m : Nat) (ys : List Ar) (rs : List Int) (u v : Nat) : Prop := ∃ a, a < m ∧ tl ys n a = u ∧ hd n ys a = v ∧ 0 < rs.getD a 0
/-- By To's closure, by From's: may a be gone by? -/
def goT (n : Nat) (ys : List Ar) (rs : List Int) (a : Nat) : Bool := decide (0 < rs.getD (rv n ys a) 0)
def goF (n : Nat) (ys : List Ar) (rs : List Int) (a : Nat) : Bool := decide (0 < rs.getD a 0)
def StepB (n m : Nat) (ys : List Ar) (g : Nat → Bool) (u v : Nat) : Prop := ∃ a, a < m ∧ tl ys n a = u ∧ hd n ys a = v ∧ g a = true
theorem stepF (n m : Nat) (ys : List Ar) (rs : List Int) (u v : Nat) : StepB n m ys (goF n ys rs) u v ↔ OpenA n m ys rs u v := by
  unfold StepB OpenA goF
  simp
theorem stepT {N S T : Int} {n m : Nat} {ys : List Ar} (h : Gr N S T n m ys) (rs : List Int) (u v : Nat) : StepB n m ys (goT n ys rs) u v ↔ OpenA n m ys rs v u := by
  unfold StepB OpenA goT
  constructor
  · rintro ⟨a, ha, h1, h2, h3⟩
    obtain ⟨-, r1, r2, r3, -⟩ := rv_facts h a ha
    exact ⟨rv n ys a, r1, by rw [r2, h2], by rw [r3, h1], by simpa using h3⟩
  · rintro ⟨a, ha, h1, h2, h3⟩
    obtain ⟨-, r1, r2, r3, -⟩ := rv_facts h a ha
    exact ⟨rv n ys a, r1, by rw [r2, h2], by rw [r3, h1], by rw [rv_rv h a ha]; simpa using h3⟩
end Go.Proofs.Ytdhimfkmgcfohaa
