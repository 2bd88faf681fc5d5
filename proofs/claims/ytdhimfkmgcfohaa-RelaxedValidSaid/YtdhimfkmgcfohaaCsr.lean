/- The row of a net (acequiaref02.Make), as lists. No walk. -/
import Derived.Test.YtdhimfkmgcfohaaNetOk
namespace Go.Proofs.Ytdhimfkmgcfohaa
set_option linter.unusedVariables false
open Go.RowKit

/-- A residual arc: where it ends, its capacity, its arc, whether it leads back. -/
structure En where
  h : Int
  c : Int
  k : Nat
  b : Bool
deriving DecidableEq
def enF (v : Int) (k : Nat) (x : Ar) : List En := if x.f = v then [⟨x.t, x.c, k, false⟩] else []
def enT (v : Int) (k : Nat) (x : Ar) : List En := if x.t = v then [⟨x.f, 0, k, true⟩] else []
def enStep (v : Int) (k : Nat) (x : Ar) : List En := if x.f = x.t then [] else enF v k x ++ enT v k x
def enRow (v : Int) : Nat → List Ar → List En
  | _, [] => []
  | k, x :: ys => enStep v k x ++ enRow v (k + 1) ys
def enAll (n : Nat) (ys : List Ar) : List En := (List.range n).flatMap fun (v : Nat) => enRow (v : Int) 0 ys
def firsts (n : Nat) (ys : List Ar) : List Nat := (List.range n).map fun v => (enAll v ys).length
def mate (es : List En) (i j : Nat) : Bool := match es[i]?, es[j]? with
  | some x, some y => decide (x.k = y.k) && decide (i ≠ j)
  | _, _ => false
def revs (es : List En) (i : Nat) : List Nat := (List.range i).flatMap fun i => (List.range es.length).filter (mate es i)
theorem enAll_succ (n : Nat) (ys : List Ar) : enAll (n + 1) ys = enAll n ys ++ enRow n 0 ys := by simp [enAll, List.range_succ]
theorem firsts_succ (n : Nat) (ys : List Ar) : firsts (n + 1) ys = firsts n ys ++ [(enAll n ys).length] := by simp [firsts, List.range_succ]
theorem firsts_len (n : Nat) (ys : List Ar) : (firsts n ys).length = n := by simp [firsts]
theorem firsts_at (n : Nat) (ys : List Ar) (v : Nat) (h : v < n) : (firsts n ys)[v]? = some (enAll v ys).length := by simp [firsts, h]
theorem enRow_take (v : Int) : ∀ (ys : List Ar) (o k : Nat) (h : k < ys.length), enRow v o (ys.take (k + 1)) = enRow v o (ys.take k) ++ enStep v (o + k) ys[k]
  | [], o, k, h => by simp at h
  | x :: ys, o, 0, h => by simp [enRow]
  | x :: ys, o, k + 1, h => by
    have := enRow_take v ys (o + 1) k (by simpa using h)
    simp only [List.take_succ_cons, enRow, List.getElem_cons_succ, this, List.append_assoc]
    rw [show o + 1 + k = o + (k + 1) by omega]
theorem revs_succ (es : List En) (i : Nat) : revs es (i + 1) = revs es i ++ (List.range es.length).filter (mate es i) := by simp [revs, List.range_succ]
theorem enStep_len (v : Int) (k : Nat) (x : Ar) : (enStep v k x).length ≤ 1 := by
  unfold enStep enF enT
  split
  · simp
  · split <;> split <;> simp
    omega
theorem enRow_len (v : Int) : ∀ (ys : List Ar) (k : Nat), (enRow v k ys).length ≤ ys.length
  | [], k => by simp [enRow]
  | x :: ys, k => by
    have h1 := enStep_len v k x
    have h2 := enRow_len v ys (k + 1)
    simp only [enRow, List.length_append, List.length_cons]
    omega
theorem enAll_len : ∀ (n : Nat) (ys : List Ar), (enAll n ys).length ≤ n * ys.length
  | 0, ys => by simp [enAll]
  | n + 1, ys => by
    have h1 := enAll_len n ys
    have h2 := enRow_len n ys 0
    rw [enAll_succ, List.length_append, Nat.succ_mul]
    omega
theorem revs_len (es : List En) : ∀ i, (revs es i).length ≤ i * es.length
  | 0 => by simp [revs]
  | i + 1 => by
    have h1 := revs_len es i
    have h2 := List.length_filter_le (mate es i) (List.range es.length)
    rw [revs_succ, List.length_append, Nat.succ_mul]
    rw [List.length_range] at h2
    omega
/-- What stands in a row. -/
theorem mem_step {v : Int} {k : Nat} {x : Ar} {e : En} : e ∈ enStep v k x ↔ x.f ≠ x.t ∧ ((x.f = v ∧ e = ⟨x.t, x.c, k, false⟩) ∨ (x.t = v ∧ e = ⟨x.f, 0, k, true⟩)) := by
  unfold enStep enF enT
  split
  · simp_all
  · rename_i h
    rw [List.mem_append]
    constructor
    · rintro (h1 | h1)
      · split at h1 <;> simp_all
      · split at h1 <;> simp_all
    · rintro ⟨_, ⟨h1, h2⟩ | ⟨h1, h2⟩⟩
      · exact .inl (by simp [h1, h2])
      · exact .inr (by simp [h1, h2])
theorem mem_row {v : Int} {e : En} : ∀ {ys : List Ar} {o : Nat}, e ∈ enRow v o ys ↔ ∃ i x, ys[i]? = some x ∧ e ∈ enStep v (o + i) x
  | [], o => by simp [enRow]
  | x :: ys, o => by
    rw [enRow, List.mem_append, mem_row]
    constructor
    · rintro (h | ⟨i, x', hx, h⟩)
      · exact ⟨0, x, rfl, h⟩
      · exact ⟨i + 1, x', by simpa using hx, by rwa [show o + (i + 1) = o + 1 + i by omega]⟩
    · rintro ⟨i, x', hx, h⟩
      cases i with
      | zero => simp at hx; subst hx; exact .inl h
      | succ i => exact .inr ⟨i, x', by simpa using hx, by rwa [show o + 1 + i = o + (i + 1) by omega]⟩
/-- Where one begins. -/
def En.src (e : En) (x : Ar) : Int := if e.b then x.t else x.f
def En.of (e : En) (x : Ar) : Prop := x.f ≠ x.t ∧ e.h = (if e.b then x.f else x.t) ∧ e.c = (if e.b then 0 else x.c)
theorem mem_row' {v : Int} {e : En} {ys : List Ar} : e ∈ enRow v 0 ys ↔ ∃ x, ys[e.k]? = some x ∧ e.of x ∧ e.src x = v := by
  rw [mem_row]
  constructor
  · rintro ⟨i, x, hx, h⟩
    rw [Nat.zero_add] at h
    obtain ⟨hne, ⟨h1, rfl⟩ | ⟨h1, rfl⟩⟩ := mem_step.1 h
    · exact ⟨x, hx, ⟨hne, by simp, by simp⟩, by simp [En.src, h1]⟩
    · exact ⟨x, hx, ⟨hne, by simp, by simp⟩, by simp [En.src, h1]⟩
  · rintro ⟨x, hx, ⟨h1, h2, h3⟩, h4⟩
    refine ⟨e.k, x, hx, ?_⟩
    rw [Nat.zero_add, mem_step]
    obtain ⟨eh, ec, ek, eb⟩ := e
    cases eb
    · simp [En.src] at h2 h3 h4
      exact ⟨h1, .inl ⟨h4, by simp [h2, h3]⟩⟩
    · simp [En.src] at h2 h3 h4
      exact ⟨h1, .inr ⟨h4, by simp [h2, h3]⟩⟩
theorem mem_all {n : Nat} {e : En} {ys : List Ar} : e ∈ enAll n ys ↔ ∃ x, ys[e.k]? = some x ∧ e.of x ∧ 0 ≤ e.src x ∧ e.src x < n := by
  unfold enAll
  rw [List.mem_flatMap]
  constructor
  · rintro ⟨v, hv, h⟩
    obtain ⟨x, hx, ho, hs⟩ := mem_row'.1 h
    have := List.mem_range.1 hv
    exact ⟨x, hx, ho, by omega, by omega⟩
  · rintro ⟨x, hx, ho, h0, h1⟩
    refine ⟨(e.src x).toNat, List.mem_range.2 (by omega), mem_row'.2 ⟨x, hx, ho, by omega⟩⟩
/-- No two of one row, or of unlike rows, are of one arc and one way. -/
def Apart2 (e e' : En) : Prop := ¬ (e.k = e'.k ∧ e.b = e'.b)
theorem row_apart (v : Int) : ∀ (ys : List Ar) (o : Nat), (enRow v o ys).Pairwise Apart2
  | [], o => by simp [enRow]
  | x :: ys, o => by
    rw [enRow, List.pairwise_append]
    refine ⟨?_, row_apart v ys (o + 1), ?_⟩
    · have := enStep_len v o x
      generalize enStep v o x = l at this
      match l, this with
      | [], _ => exact .nil
      | [a], _ => exact List.pairwise_singleton _ _
    · intro e he e' he' hh
      obtain ⟨i, x', hx, h⟩ := mem_row.1 he'
      have k1 : e.k = o := by obtain ⟨_, ⟨_, rfl⟩ | ⟨_, rfl⟩⟩ := mem_step.1 he <;> rfl
      have k2 : e'.k = o + 1 + i := by obtain ⟨_, ⟨_, rfl⟩ | ⟨_, rfl⟩⟩ := mem_step.1 h <;> rfl
      have := hh.1
      omega
theorem all_apart : ∀ (n : Nat) (ys : List Ar), (enAll n ys).Pairwise Apart2
  | 0, ys => by simp [enAll]
  | n + 1, ys => by
    rw [enAll_succ, List.pairwise_append]
    refine ⟨all_apart n ys, row_apart _ _ _, ?_⟩
    rintro e he e' he' ⟨hk, hb⟩
    obtain ⟨x, hx, _, _, h1⟩ := mem_all.1 he
    obtain ⟨x', hx', _, h2⟩ := mem_row'.1 he'
    rw [hk, hx'] at hx
    cases hx
    unfold En.src at h1 h2
    rw [hb] at h1
    omega
theorem filter_one (p : Nat → Bool) (j0 : Nat) : ∀ (m : Nat), j0 < m → p j0 = true → (∀ j, j < m → p j = true → j = j0) → (List.range m).filter p = [j0]
  | 0, h, _, _ => by omega
  | m + 1, h, hp, hu => by
    rw [List.range_succ, List.filter_append]
    by_cases hj : j0 = m
    · subst hj
      have : (List.range j0).filter p = [] := by
        rw [List.filter_eq_nil_iff]
        intro j hj hpj
        have := List.mem_range.1 hj
        have := hu j (by omega) hpj
        omega
      simp [this, hp]
    · have hpm : p m = false := by
        cases hh : p m with
        | false => rfl
        | true => exact absurd (hu m (by omega) hh).symm hj
      rw [filter_one p j0 m (by omega) hp (fun j h1 h2 => hu j (by omega) h2)]
      simp [hpm]
/-- Each has its mate. -/
theorem mate_of {n : Nat} {ys : List Ar} (hy : ∀ x ∈ ys, ArcOk n x) {i : Nat} (hi : i < (enAll n ys).length) :
    ∃ j, j < (enAll n ys).length ∧ (List.range (enAll n ys).length).filter (mate (enAll n ys) i) = [j] ∧ mate (enAll n ys) i j = true := by
  have hm : (enAll n ys)[i] ∈ enAll n ys := List.getElem_mem hi
  generalize he : (enAll n ys)[i] = e at hm
  obtain ⟨x, hx, ⟨h1, h2, h3⟩, h4, h5⟩ := mem_all.1 hm
  have hax := hy x (List.mem_of_getElem? hx)
  obtain ⟨a0, a1, a2, a3, _, _⟩ := hax
  have hm' : (⟨if e.b then x.t else x.f, if e.b then x.c else 0, e.k, !e.b⟩ : En) ∈ enAll n ys := by
    refine mem_all.2 ⟨x, hx, ⟨h1, by cases e.b <;> simp, by cases e.b <;> simp⟩, ?_, ?_⟩ <;> (unfold En.src; cases e.b <;> simp <;> assumption)
  obtain ⟨j, hj, hje⟩ := List.getElem_of_mem hm'
  have hij : i ≠ j := by
    rintro rfl
    rw [he] at hje
    have := congrArg En.b hje
    simp at this
  have hmt : mate (enAll n ys) i j = true := by
    unfold mate
    rw [List.getElem?_eq_getElem hi, List.getElem?_eq_getElem hj, he, hje]
    simp [hij]
  refine ⟨j, hj, filter_one _ j _ hj hmt fun j' hj' hp => ?_, hmt⟩
  unfold mate at hp
  rw [List.getElem?_eq_getElem hi, List.getElem?_eq_getElem hj', he] at hp
  simp at hp
  obtain ⟨hk, hne⟩ := hp
  have hP := List.pairwise_iff_getElem.1 (all_apart n ys)
  have key : ∀ p q (hp : p < (enAll n ys).length) (hq : q < (enAll n ys).length), p ≠ q → (enAll n ys)[p].k = (enAll n ys)[q].k → (enAll n ys)[p].b ≠ (enAll n ys)[q].b := by
    intro p q hp hq hpq hkk hbb
    rcases Nat.lt_or_gt_of_ne hpq with h | h
    · exact hP p q hp hq h ⟨hkk, hbb⟩
    · exact hP q p hq hp h ⟨hkk.symm, hbb.symm⟩
  rcases Nat.decEq j' j with hjj | hjj
  · exfalso
    have b1 := key i j' hi hj' hne (by rw [he]; exact hk)
    have b2 := key j j' hj hj' (fun e => hjj e.symm) (by rw [hje]; exact hk)
    rw [he] at b1
    rw [hje] at b2
    simp at b1 b2
    cases hb : e.b <;> cases hb' : (enAll n ys)[j'].b <;> simp_all
  · exact hjj
/-- .. the row of mates. -/
theorem revs_at {n : Nat} {ys : List Ar} (hy : ∀ x ∈ ys, ArcOk n x) : ∀ (i : Nat), i ≤ (enAll n ys).length → (revs (enAll n ys) i).length = i ∧ ∀ j, j < i → ∃ r, (revs (enAll n ys) i)[j]? = some r ∧ r < (enAll n ys).length ∧ mate (enAll n ys) j r = true
  | 0, _ => ⟨rfl, fun j h => by omega⟩
  | i + 1, hi => by
    obtain ⟨h1, h2⟩ := revs_at hy i (by omega)
    obtain ⟨r, hr, hf, hm⟩ := mate_of hy (i := i) (by omega)
    rw [revs_succ, hf]
    refine ⟨by simp [h1], fun j hj => ?_⟩
    by_cases hji : j < i
    · obtain ⟨r', hr', hlt, hmt⟩ := h2 j hji
      exact ⟨r', by rw [List.getElem?_append_left (by omega)]; exact hr', hlt, hmt⟩
    · have : j = i := by omega
      subst this
      exact ⟨r, by rw [List.getElem?_append_right (by omega)]; simp [h1], hr, hm⟩
/-- The capacities of an arc's two, together. -/
theorem most_of {n : Nat} {ys : List Ar} {i j : Nat} (h : mate (enAll n ys) i j = true) : ∃ e e' x, (enAll n ys)[i]? = some e ∧ (enAll n ys)[j]? = some e' ∧ ys[e.k]? = some x ∧ e.c + e'.c = x.c ∧ x.f ≠ x.t := by
  unfold mate at h
  split at h
  · rename_i e e' he he'
    simp at h
    obtain ⟨hk, hne⟩ := h
    obtain ⟨x, hx, ⟨h1, h2, h3⟩, h4, h5⟩ := mem_all.1 (List.mem_of_getElem? he)
    obtain ⟨x', hx', ⟨h1', h2', h3'⟩, h4', h5'⟩ := mem_all.1 (List.mem_of_getElem? he')
    rw [← hk, hx] at hx'
    cases hx'
    refine ⟨e, e', x, he, he', hx, ?_, h1⟩
    have hb : e.b ≠ e'.b := by
      intro hb
      obtain ⟨hi, hie⟩ := List.getElem?_eq_some_iff.1 he
      obtain ⟨hj, hje⟩ := List.getElem?_eq_some_iff.1 he'
      have hP := List.pairwise_iff_getElem.1 (all_apart n ys)
      rcases Nat.lt_or_gt_of_ne hne with h | h
      · exact hP i j hi hj h (by rw [hie, hje]; exact ⟨hk, hb⟩)
      · exact hP j i hj hi h (by rw [hie, hje]; exact ⟨hk.symm, hb.symm⟩)
    rw [h3, h3']
    cases hb1 : e.b <;> cases hb2 : e'.b <;> simp_all
  · cases h
theorem enAll_mono (n : Nat) (ys : List Ar) : ∀ d, (enAll n ys).length ≤ (enAll (n + d) ys).length
  | 0 => Nat.le_refl _
  | d + 1 => by
    rw [show n + (d + 1) = n + d + 1 from rfl, enAll_succ, List.length_append]
    have := enAll_mono n ys d
    omega
end Go.Proofs.Ytdhimfkmgcfohaa
