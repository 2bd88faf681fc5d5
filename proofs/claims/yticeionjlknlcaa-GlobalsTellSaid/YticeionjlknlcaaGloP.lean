/- Exact heights: level by level. Plain. -/
import Derived.Test.YticeionjlknlcaaLowP
namespace Go.Proofs.Yticeionjlknlcaa
set_option linter.unusedVariables false
set_option linter.unusedSimpArgs false
open Go.RowKit

/-- N everywhere but at T. -/
def allN (n : Nat) (N T : Int) : List Int := (List.replicate n N).set T.toNat 0
theorem allN_len (n : Nat) (N T : Int) : (allN n N T).length = n := by simp [allN]
theorem allN_get (n : Nat) (N T : Int) (v : Nat) (hv : v < n) (hT : T.toNat < n) : (allN n N T).getD v 0 = if v = T.toNat then 0 else N := by
  unfold allN
  rw [getD_set (by simpa using hT)]
  split
  · rfl
  · simp [hv]
/-- Who is met over arc x. -/
def gq (N S : Int) (n : Nat) (ys : List Ar) (rs h : List Int) (x : Nat) : Bool := decide ((hd n ys x : Int) ≠ S) && decide (0 < rs.getD (rv n ys x) 0) && decide (h.getD (hd n ys x) 0 = N)
def hitsTo (N S : Int) (n : Nat) (ys : List Ar) (rs h : List Int) (v a : Nat) : List Nat := ((List.range a).filter fun x => decide (fst ys v ≤ x) && gq N S n ys rs h x).map (hd n ys)
def partL (N S : Int) (n : Nat) (ys : List Ar) (rs h : List Int) (row : List Nat) : List Nat := row.flatMap fun v => hitsTo N S n ys rs h v (fst ys (v + 1))
section
variable {N S T : Int} {n m : Nat} {ys : List Ar} {rs h h' : List Int} {row found : List Nat} {d : Nat}
theorem hits_none (v : Nat) : hitsTo N S n ys rs h v (fst ys v) = [] := by
  unfold hitsTo
  rw [List.map_eq_nil_iff, List.filter_eq_nil_iff]
  intro x hx
  have := List.mem_range.1 hx
  rw [decide_eq_false (by omega)]
  simp
theorem hits_yes {v a : Nat} (ha : fst ys v ≤ a) (hq : gq N S n ys rs h a = true) : hitsTo N S n ys rs h v (a + 1) = hitsTo N S n ys rs h v a ++ [hd n ys a] := by
  unfold hitsTo
  rw [List.range_succ, List.filter_append, List.map_append]
  simp [hq, ha]
theorem hits_no {v a : Nat} (hq : gq N S n ys rs h a = false) : hitsTo N S n ys rs h v (a + 1) = hitsTo N S n ys rs h v a := by
  unfold hitsTo
  rw [List.range_succ, List.filter_append, List.map_append]
  simp [hq]
theorem hits_len (v a : Nat) : (hitsTo N S n ys rs h v a).length ≤ a := by
  unfold hitsTo
  rw [List.length_map]
  have := List.length_filter_le (fun x => decide (fst ys v ≤ x) && gq N S n ys rs h x) (List.range a)
  simpa using this
theorem mem_hits {v a u : Nat} : u ∈ hitsTo N S n ys rs h v a ↔ ∃ x, fst ys v ≤ x ∧ x < a ∧ gq N S n ys rs h x = true ∧ hd n ys x = u := by
  unfold hitsTo
  simp only [List.mem_map, List.mem_filter, List.mem_range, Bool.and_eq_true, decide_eq_true_eq]
  constructor
  · rintro ⟨x, ⟨h1, h2, h3⟩, h4⟩; exact ⟨x, h2, h1, h3, h4⟩
  · rintro ⟨x, h2, h1, h3, h4⟩; exact ⟨x, ⟨h1, h2, h3⟩, h4⟩
theorem mem_part {u : Nat} : u ∈ partL N S n ys rs h row ↔ ∃ v ∈ row, ∃ x, fst ys v ≤ x ∧ x < fst ys (v + 1) ∧ gq N S n ys rs h x = true ∧ hd n ys x = u := by
  unfold partL
  simp only [List.mem_flatMap, mem_hits]
theorem part_append (r1 r2 : List Nat) : partL N S n ys rs h (r1 ++ r2) = partL N S n ys rs h r1 ++ partL N S n ys rs h r2 := by
  simp [partL, List.flatMap_append]
theorem part_one (v : Nat) : partL N S n ys rs h [v] = hitsTo N S n ys rs h v (fst ys (v + 1)) := by simp [partL]
theorem part_len (hg : Gr N S T n m ys) (hr : ∀ v ∈ row, v < n) : (partL N S n ys rs h row).length ≤ row.length * m := by
  induction row with
  | nil => simp [partL]
  | cons v row ih =>
    have h1 := ih (fun x hx => hr x (List.mem_cons_of_mem _ hx))
    have h2 : partL N S n ys rs h (v :: row) = hitsTo N S n ys rs h v (fst ys (v + 1)) ++ partL N S n ys rs h row := by simp [partL]
    have h3 := hits_len (N := N) (S := S) (n := n) (ys := ys) (rs := rs) (h := h) v (fst ys (v + 1))
    have h4 : fst ys (v + 1) ≤ m := by
      have h5 := fst_mono ys (show v + 1 ≤ n from hr v List.mem_cons_self)
      have h6 := hg.hm
      unfold fst at *
      omega
    rw [h2, List.length_append, List.length_cons, Nat.add_mul]
    omega
theorem part_lt (hg : Gr N S T n m ys) (hr : ∀ v ∈ row, v < n) : ∀ u ∈ partL N S n ys rs h row, u < n := by
  intro u hu
  obtain ⟨v, hv, x, h1, h2, h3, rfl⟩ := mem_part.1 hu
  have hvn := hr v hv
  have hx : x < m := by
    have h5 := fst_mono ys (show v + 1 ≤ n from hvn)
    have h6 := hg.hm
    unfold fst at *
    omega
  exact (hd_get hg x hx).2
/-- How many have no height yet. -/
def noneYet (N : Int) (n : Nat) (h : List Int) : Nat := ((List.range n).filter fun v => decide (h.getD v 0 = N)).length
theorem filt_lt {p q : Nat → Bool} : ∀ (l : List Nat) (u : Nat), u ∈ l → (∀ v ∈ l, q v = true → p v = true) → p u = true → q u = false → (l.filter q).length < (l.filter p).length
  | [], u, hu, _, _, _ => by cases hu
  | x :: l, u, hu, hle, h1, h2 => by
    have hle' : ∀ v ∈ l, q v = true → p v = true := fun v hv => hle v (List.mem_cons_of_mem _ hv)
    have hmono : (l.filter q).length ≤ (l.filter p).length := by
      clear hu hle
      induction l with
      | nil => simp
      | cons y l ih =>
        have h3 := ih (fun v hv => hle' v (List.mem_cons_of_mem _ hv))
        have h4 := hle' y List.mem_cons_self
        cases hq : q y with
        | true => rw [List.filter_cons_of_pos hq, List.filter_cons_of_pos (h4 hq)]; simpa using h3
        | false =>
          rw [List.filter_cons_of_neg (by simp [hq])]
          cases hp : p y with
          | true => rw [List.filter_cons_of_pos hp, List.length_cons]; omega
          | false => rw [List.filter_cons_of_neg (by simp [hp])]; exact h3
    by_cases e : x = u
    · subst e
      rw [List.filter_cons_of_neg (by simp [h2]), List.filter_cons_of_pos h1, List.length_cons]
      omega
    · have hu' : u ∈ l := by
        rcases List.mem_cons.1 hu with h | h
        · exact absurd h.symm e
        · exact h
      have ih := filt_lt l u hu' hle' h1 h2
      cases hq : q x with
      | true => rw [List.filter_cons_of_pos hq, List.filter_cons_of_pos (hle x List.mem_cons_self hq), List.length_cons, List.length_cons]; omega
      | false =>
        rw [List.filter_cons_of_neg (by simp [hq])]
        cases hp : p x with
        | true => rw [List.filter_cons_of_pos hp, List.length_cons]; omega
        | false => rw [List.filter_cons_of_neg (by simp [hp])]; exact ih
/-- All those up to d - 1 have their heights; the row are the last ones. -/
structure Lvl (N S T : Int) (n m : Nat) (ys : List Ar) (rs : List Int) (d : Nat) (h : List Int) (row : List Nat) : Prop where
  len : h.length = n
  one : 1 ≤ d
  rowm : ∀ v, v ∈ row ↔ v < n ∧ h.getD v 0 = ((d - 1 : Nat) : Int)
  nod : row.Nodup
  val : ∀ v, v < n → h.getD v 0 = N ∨ (0 ≤ h.getD v 0 ∧ h.getD v 0 ≤ ((d - 1 : Nat) : Int))
  hi : ∀ v, v < n → h.getD v 0 ≤ N
  t0 : h.getD T.toNat 0 = 0
  s0 : h.getD S.toNat 0 = N
  top : ∀ gs, Vld S n m ys rs gs → LeV n gs (allN n N T) → LeV n gs h
  clo : ∀ b, b < m → (tl ys n b : Int) ≠ S → 0 < rs.getD b 0 → h.getD (hd n ys b) 0 < ((d - 1 : Nat) : Int) → h.getD (tl ys n b) 0 ≤ h.getD (hd n ys b) 0 + 1
  cnt : row ≠ [] → noneYet N n h + d ≤ n
theorem Lvl.small (hg : Gr N S T n m ys) (h : Lvl N S T n m ys rs d h' row) (hr : row ≠ []) : d + 1 ≤ n := by
  have h1 := h.cnt hr
  have hl := hg.len
  have h2 : 0 < noneYet N n h' := by
    unfold noneYet
    apply List.length_pos_of_mem (a := S.toNat)
    rw [List.mem_filter, List.mem_range]
    exact ⟨by omega, by simpa using h.s0⟩
  omega
theorem glo_nodup : ∀ (n : Nat) (l : List Nat), l.Nodup → (∀ x ∈ l, x < n) → l.length ≤ n
  | 0, l, _, h => by
    cases l with
    | nil => simp
    | cons x l => exact absurd (h x List.mem_cons_self) (by omega)
  | n + 1, l, hn, h => by
    have h1 := glo_nodup n (l.erase n) (hn.erase n) (fun x hx => by
      have h2 := (List.Nodup.mem_erase_iff hn).1 hx
      have := h x h2.2
      have := h2.1
      omega)
    have h2 := List.length_erase (a := n) (l := l)
    split at h2 <;> omega
theorem Lvl.room (h : Lvl N S T n m ys rs d h' row) : row.length ≤ n := by
  have h1 : ∀ x ∈ row, x < n := fun x hx => ((h.rowm x).1 hx).1
  have hn := h.nod
  clear h
  exact glo_nodup n row hn h1
theorem Lvl.start (hg : Gr N S T n m ys) : Lvl N S T n m ys rs 1 (allN n N T) [T.toNat] := by
  have hl := hg.len
  have hT : T.toNat < n := by omega
  refine ⟨allN_len _ _ _, Nat.le_refl _, fun v => ?_, by simp, fun v hv => ?_, fun v hv => ?_, ?_, ?_, fun gs _ h => h, fun b hb hS hr hlt => ?_, fun _ => ?_⟩
  · simp only [List.mem_singleton, Nat.sub_self]
    constructor
    · rintro rfl
      exact ⟨hT, by rw [allN_get _ _ _ _ hT hT, if_pos rfl]; rfl⟩
    · rintro ⟨hv, e⟩
      rw [allN_get _ _ _ _ hv hT] at e
      split at e
      · assumption
      · simp at e; omega
  · rw [allN_get _ _ _ _ hv hT]
    split
    · exact .inr ⟨by omega, by simp⟩
    · exact .inl rfl
  · rw [allN_get _ _ _ _ hv hT]
    split <;> omega
  · rw [allN_get _ _ _ _ hT hT, if_pos rfl]
  · rw [allN_get _ _ _ _ (by omega) hT, if_neg (by omega)]
  · have hh := (hd_get hg b hb).2
    rw [allN_get _ _ _ _ hh hT] at hlt
    simp only [Nat.sub_self] at hlt
    split at hlt <;> omega
  · unfold noneYet
    have h1 := filt_lt (p := fun _ => true) (q := fun v => decide ((allN n N T).getD v 0 = N)) (List.range n) T.toNat (List.mem_range.2 hT) (fun _ _ _ => rfl) rfl (by
      rw [allN_get _ _ _ _ hT hT, if_pos rfl]
      exact decide_eq_false (by omega))
    have h2 : ((List.range n).filter fun _ => true).length = n := by rw [List.filter_eq_self.2 (fun _ _ => rfl), List.length_range]
    omega
theorem arc_of (hg : Gr N S T n m ys) {v x : Nat} (hv : v < n) (h1 : fst ys v ≤ x) (h2 : x < fst ys (v + 1)) : x < m ∧ tl ys n x = v := by
  have hx : x < m := by
    have h5 := fst_mono ys (show v + 1 ≤ n from hv)
    have h6 := hg.hm
    unfold fst at *
    omega
  exact ⟨hx, tl_of ys x v h1 h2 n hv⟩
theorem Lvl.step (hg : Gr N S T n m ys) (hl : Lvl N S T n m ys rs d h row) (hr : row ≠ []) (hf : ∀ u, u ∈ found ↔ u ∈ partL N S n ys rs h row) (hn : found.Nodup) (hlen : h'.length = n)
    (hh : ∀ v, v < n → h'.getD v 0 = if v ∈ found then (d : Int) else h.getD v 0) : Lvl N S T n m ys rs (d + 1) h' found := by
  have hgl := hg.len
  have hd1 := hl.small hg hr
  have hone := hl.one
  have hrow : ∀ v ∈ row, v < n := fun v hv => ((hl.rowm v).1 hv).1
  -- who is found had no height
  have hfN : ∀ u, u ∈ found → u < n ∧ (u : Int) ≠ S ∧ h.getD u 0 = N ∧ ∃ b, b < m ∧ tl ys n b = u ∧ 0 < rs.getD b 0 ∧ h.getD (hd n ys b) 0 = ((d - 1 : Nat) : Int) := fun u hu => by
    have hu := (hf u).1 hu
    have hun := part_lt hg hrow u hu
    obtain ⟨v, hv, x, h1, h2, h3, h4⟩ := mem_part.1 hu
    obtain ⟨hx, ht⟩ := arc_of hg (hrow v hv) h1 h2
    simp only [gq, Bool.and_eq_true, decide_eq_true_eq] at h3
    obtain ⟨⟨g1, g2⟩, g3⟩ := h3
    rw [h4] at g1 g3
    obtain ⟨-, hb, r1, r2, -⟩ := rv_facts hg x hx
    refine ⟨hun, g1, g3, rv n ys x, hb, by rw [r1, h4], g2, ?_⟩
    rw [r2, ht]
    exact ((hl.rowm v).1 hv).2
  have hfM : ∀ b, b < m → (tl ys n b : Int) ≠ S → 0 < rs.getD b 0 → h.getD (hd n ys b) 0 = ((d - 1 : Nat) : Int) → h.getD (tl ys n b) 0 = N → tl ys n b ∈ found := fun b hb hS h0 h1 h2 => by
    rw [hf]
    have hhn := (hd_get hg b hb).2
    obtain ⟨-, hx, r1, r2, -⟩ := rv_facts hg b hb
    have hrr := rv_rv hg b hb
    have hm : rv n ys b < fst ys n := by have := hg.hm; unfold fst; omega
    obtain ⟨t1, t2, t3⟩ := tl_at ys (rv n ys b) n hm
    rw [r1] at t1 t2 t3
    refine mem_part.2 ⟨hd n ys b, (hl.rowm _).2 ⟨hhn, h1⟩, rv n ys b, t2, t3, ?_, r2⟩
    simp only [gq, Bool.and_eq_true, decide_eq_true_eq, r2, hrr]
    exact ⟨⟨hS, h0⟩, h2⟩
  have hTn : T.toNat < n := by omega
  have hSn : S.toNat < n := by omega
  have hTf : T.toNat ∉ found := fun e => by
    have := (hfN _ e).2.2.1
    rw [hl.t0] at this
    omega
  have hSf : S.toNat ∉ found := fun e => by
    have := (hfN _ e).2.1
    omega
  refine ⟨hlen, by omega, fun v => ?_, hn, fun v hv => ?_, fun v hv => ?_, by rw [hh _ hTn, if_neg hTf]; exact hl.t0, by rw [hh _ hSn, if_neg hSf]; exact hl.s0, fun gs hv hle v hvn => ?_, fun b hb hS h0 hlt => ?_, fun hne => ?_⟩
  · rw [Nat.add_sub_cancel]
    constructor
    · intro hv
      have := (hfN v hv).1
      exact ⟨this, by rw [hh v this, if_pos hv]⟩
    · rintro ⟨hv, e⟩
      rw [hh v hv] at e
      split at e
      · assumption
      · rcases hl.val v hv with h1 | ⟨-, h1⟩ <;> omega
  · rw [Nat.add_sub_cancel, hh v hv]
    split
    · exact .inr ⟨by omega, by omega⟩
    · rcases hl.val v hv with h1 | ⟨h1, h2⟩
      · exact .inl h1
      · exact .inr ⟨h1, by omega⟩
  · rw [hh v hv]
    split
    · omega
    · exact hl.hi v hv
  · have h1 := hl.top gs hv hle
    rw [hh v hvn]
    split
    · rename_i hvf
      obtain ⟨-, g1, -, b, hb, ht, g2, g3⟩ := hfN v hvf
      have h2 := hv b hb (by rw [ht]; exact g1) g2
      have h3 := h1 _ (hd_get hg b hb).2
      rw [ht] at h2
      omega
    · exact h1 v hvn
  · rw [Nat.add_sub_cancel] at hlt
    have htn : tl ys n b < n := (tl_at ys b n (by have := hg.hm; unfold fst; omega)).1
    have hhn := (hd_get hg b hb).2
    rw [hh _ hhn] at hlt ⊢
    by_cases hf1 : hd n ys b ∈ found
    · rw [if_pos hf1] at hlt; omega
    · rw [if_neg hf1] at hlt ⊢
      rw [hh _ htn]
      by_cases hf2 : tl ys n b ∈ found
      · rw [if_pos hf2]
        by_cases e : h.getD (hd n ys b) 0 = ((d - 1 : Nat) : Int)
        · omega
        · have h1 := (hfN _ hf2).2.2.1
          rcases hl.val _ hhn with h2 | ⟨-, h2⟩
          · omega
          · have := hl.clo b hb hS h0 (by omega)
            omega
      · rw [if_neg hf2]
        rcases hl.val _ hhn with h2 | ⟨-, h2⟩
        · omega
        · by_cases e : h.getD (hd n ys b) 0 = ((d - 1 : Nat) : Int)
          · rcases hl.val _ htn with h3 | ⟨-, h3⟩
            · exact absurd (hfM b hb hS h0 e h3) hf2
            · omega
          · exact hl.clo b hb hS h0 (by omega)
  · obtain ⟨u, hu⟩ : ∃ u, u ∈ found := List.exists_mem_of_ne_nil _ hne
    obtain ⟨hun, -, huN, -⟩ := hfN u hu
    have h1 := hl.cnt hr
    have h2 : noneYet N n h' < noneYet N n h := by
      unfold noneYet
      refine filt_lt (List.range n) u (List.mem_range.2 hun) (fun v hv hq => ?_) (by simpa using huN) ?_
      · have hv := List.mem_range.1 hv
        simp only [decide_eq_true_eq] at hq ⊢
        rw [hh v hv] at hq
        split at hq
        · omega
        · exact hq
      · rw [hh u hun, if_pos hu]
        exact decide_eq_false (by omega)
    omega
theorem Lvl.done (hg : Gr N S T n m ys) (hl : Lvl N S T n m ys rs d h []) : IsLow S n m ys rs (allN n N T) h := by
  have hgl := hg.len
  have hno : ∀ v, v < n → h.getD v 0 ≠ ((d - 1 : Nat) : Int) := fun v hv e => by
    have := (hl.rowm v).2 ⟨hv, e⟩
    cases this
  refine ⟨hl.len, fun b hb hS h0 => ?_, fun v hv => ?_, fun gs h1 h2 => hl.top gs h1 h2⟩
  · have htn : tl ys n b < n := (tl_at ys b n (by have := hg.hm; unfold fst; omega)).1
    have hhn := (hd_get hg b hb).2
    rcases hl.val _ hhn with h1 | ⟨-, h1⟩
    · have := hl.hi _ htn
      omega
    · exact hl.clo b hb hS h0 (by have := hno _ hhn; omega)
  · rw [allN_get _ _ _ _ hv (by omega)]
    split
    · rename_i e; rw [e, hl.t0]; exact Int.le_refl _
    · exact hl.hi v hv
end
end Go.Proofs.Yticeionjlknlcaa
