/- The highest valid heights that are nowhere higher: by a queue of spots. Plain. -/
import Derived.Test.YticeionjlknlcaaRev
import Derived.Test.YticeionjlknlcaaLess
namespace Go.Proofs.Yticeionjlknlcaa
set_option linter.unusedVariables false
set_option linter.unusedSimpArgs false

def Vld (S : Int) (n m : Nat) (ys : List Ar) (rs hs : List Int) : Prop := ∀ b, b < m → (tl ys n b : Int) ≠ S → 0 < rs.getD b 0 → hs.getD (tl ys n b) 0 ≤ hs.getD (hd n ys b) 0 + 1
def LeV (n : Nat) (f g : List Int) : Prop := ∀ v, v < n → f.getD v 0 ≤ g.getD v 0
/-- The highest valid ones below hs. -/
structure IsLow (S : Int) (n m : Nat) (ys : List Ar) (rs hs os : List Int) : Prop where
  len : os.length = n
  vld : Vld S n m ys rs os
  le : LeV n os hs
  top : ∀ gs, Vld S n m ys rs gs → LeV n gs hs → LeV n gs os
theorem list_ext_getD {xs zs : List Int} {n : Nat} (h1 : xs.length = n) (h2 : zs.length = n) (h : ∀ v, v < n → xs.getD v 0 = zs.getD v 0) : xs = zs := by
  refine List.ext_getElem (by omega) fun i hi hj => ?_
  have := h i (by omega)
  simpa [List.getD, List.getElem?_eq_getElem hi, List.getElem?_eq_getElem hj] using this
theorem IsLow.unique {S : Int} {n m : Nat} {ys : List Ar} {rs hs os os' : List Int} (h : IsLow S n m ys rs hs os) (h' : IsLow S n m ys rs hs os') : os = os' :=
  list_ext_getD h.len h'.len fun v hv => Int.le_antisymm (h'.top os h.vld h.le v hv) (h.top os' h'.vld h'.le v hv)
theorem getD_set {xs : List Int} {u : Nat} (hu : u < xs.length) (x : Int) (w : Nat) : (xs.set u x).getD w 0 = if w = u then x else xs.getD w 0 := by
  simp only [List.getD, List.getElem?_set]
  by_cases e : u = w
  · subst e; simp [hu]
  · have e' : ¬ w = u := fun h => e h.symm
    simp [e, e']
/-- What is so of heights and a queue, as long as spots are taken. -/
structure LC (N S : Int) (n m : Nat) (ys : List Ar) (rs hs os : List Int) (q : List (Int × Int)) : Prop where
  len : os.length = n
  bd : ∀ v, v < n → 0 ≤ os.getD v 0 ∧ os.getD v 0 ≤ N
  ent : ∀ x ∈ q, 0 ≤ x.2 ∧ x.2 < (n : Int) ∧ os.getD x.2.toNat 0 ≤ x.1 ∧ x.1 ≤ N
  low : LeV n os hs
  top : ∀ gs, Vld S n m ys rs gs → LeV n gs hs → LeV n gs os
  cnt : (q.length : Int) + os.sum ≤ n + hs.sum
/-- Whoever sees v over the arcs up to a is not too high. -/
def Stl (S : Int) (n : Nat) (ys : List Ar) (rs os : List Int) (v a : Nat) : Prop := ∀ a', fst ys v ≤ a' → a' < a → (tl ys n (rv n ys a') : Int) ≠ S → 0 < rs.getD (rv n ys a') 0 → os.getD (tl ys n (rv n ys a')) 0 ≤ os.getD v 0 + 1
def Ent (os : List Int) (q : List (Int × Int)) (v : Nat) : Prop := (os.getD v 0, (v : Int)) ∈ q
def LI (N S : Int) (n m : Nat) (ys : List Ar) (rs hs os : List Int) (q : List (Int × Int)) : Prop := LC N S n m ys rs hs os q ∧ ∀ v, v < n → Stl S n ys rs os v (fst ys (v + 1)) ∨ Ent os q v
def LJ (N S : Int) (n m : Nat) (ys : List Ar) (rs hs os : List Int) (q : List (Int × Int)) (v0 a : Nat) : Prop := LC N S n m ys rs hs os q ∧ (∀ v, v < n → v ≠ v0 → Stl S n ys rs os v (fst ys (v + 1)) ∨ Ent os q v) ∧ (Stl S n ys rs os v0 a ∨ Ent os q v0)
section
variable {N S T : Int} {n m : Nat} {ys : List Ar} {rs hs os : List Int} {q q' : List (Int × Int)} {v0 a : Nat} {k : Int}
theorem LC.perm (h : LC N S n m ys rs hs os q) (hp : q'.Perm q) : LC N S n m ys rs hs os q' :=
  ⟨h.len, h.bd, fun x hx => h.ent x (hp.mem_iff.1 hx), h.low, h.top, by rw [hp.length_eq]; exact h.cnt⟩
theorem LI.perm (h : LI N S n m ys rs hs os q) (hp : q'.Perm q) : LI N S n m ys rs hs os q' :=
  ⟨h.1.perm hp, fun v hv => (h.2 v hv).imp id (fun e => hp.mem_iff.2 e)⟩
theorem LC.tail (h : LC N S n m ys rs hs os ((k, (v0 : Int)) :: q)) : LC N S n m ys rs hs os q :=
  ⟨h.len, h.bd, fun x hx => h.ent x (List.mem_cons_of_mem _ hx), h.low, h.top, by have := h.cnt; rw [List.length_cons] at this; omega⟩
theorem LI.skip (h : LI N S n m ys rs hs os ((k, (v0 : Int)) :: q)) (hk : os.getD v0 0 < k) : LI N S n m ys rs hs os q :=
  ⟨h.1.tail, fun v hv => (h.2 v hv).imp id (fun e => by
    rcases List.mem_cons.1 e with e2 | e2
    · exfalso
      simp only [Prod.mk.injEq] at e2
      have : v = v0 := by omega
      subst this
      omega
    · exact e2)⟩
theorem LI.go (h : LI N S n m ys rs hs os ((k, (v0 : Int)) :: q)) : LJ N S n m ys rs hs os q v0 (fst ys v0) :=
  ⟨h.1.tail, fun v hv hne => (h.2 v hv).imp id (fun e => by
    rcases List.mem_cons.1 e with e2 | e2
    · exfalso
      simp only [Prod.mk.injEq] at e2
      exact hne (by omega)
    · exact e2), .inl fun a' h1 h2 => by omega⟩
theorem LJ.perm (h : LJ N S n m ys rs hs os q v0 a) (hp : q'.Perm q) : LJ N S n m ys rs hs os q' v0 a :=
  ⟨h.1.perm hp, fun v hv hne => (h.2.1 v hv hne).imp id (fun e => hp.mem_iff.2 e), h.2.2.imp id (fun e => hp.mem_iff.2 e)⟩
theorem LJ.done (h : LJ N S n m ys rs hs os q v0 (fst ys (v0 + 1))) : LI N S n m ys rs hs os q :=
  ⟨h.1, fun v hv => by
    by_cases e : v = v0
    · subst e; exact h.2.2
    · exact h.2.1 v hv e⟩
theorem LJ.same (h : LJ N S n m ys rs hs os q v0 a) (hc : (tl ys n (rv n ys a) : Int) ≠ S → 0 < rs.getD (rv n ys a) 0 → os.getD (tl ys n (rv n ys a)) 0 ≤ os.getD v0 0 + 1) : LJ N S n m ys rs hs os q v0 (a + 1) :=
  ⟨h.1, h.2.1, h.2.2.imp (fun e a' h1 h2 => by
    by_cases e2 : a' = a
    · subst e2; exact hc
    · exact e a' h1 (by omega)) id⟩
theorem LJ.down (hg : Gr N S T n m ys) (hrs : rs.length = m) (h : LJ N S n m ys rs hs os q v0 a) (hv : v0 < n) (ha1 : fst ys v0 ≤ a) (ha2 : a < fst ys (v0 + 1)) (u : Nat) (hu : hd n ys a = u)
    (hS : (u : Int) ≠ S) (hr : 0 < rs.getD (rv n ys a) 0) (hlt : os.getD v0 0 + 1 < os.getD u 0) (hp : q'.Perm ((os.getD v0 0 + 1, (u : Int)) :: q)) :
    LJ N S n m ys rs hs (os.set u (os.getD v0 0 + 1)) q' v0 (a + 1) ∧ (os.set u (os.getD v0 0 + 1)).getD v0 0 = os.getD v0 0 ∧ 2 * (os.set u (os.getD v0 0 + 1)).sum + q'.length < 2 * os.sum + q.length := by
  have ham : a < m := by
    have h1 := fst_mono ys (show v0 + 1 ≤ n by omega)
    have h2 := hg.hm
    unfold fst at h1 ha2
    omega
  obtain ⟨-, hb, ht, hh, -⟩ := rv_facts hg a ham
  have hun : u < n := by rw [← hu]; exact (hd_get hg a ham).2
  have hta : tl ys n a = v0 := tl_of ys a v0 ha1 ha2 n hv
  have hul : u < os.length := by rw [h.1.len]; exact hun
  have huv : v0 ≠ u := fun e => by subst e; omega
  have hv0 : (os.set u (os.getD v0 0 + 1)).getD v0 0 = os.getD v0 0 := by rw [getD_set hul, if_neg huv]
  have hle : ∀ w, (os.set u (os.getD v0 0 + 1)).getD w 0 ≤ os.getD w 0 := fun w => by
    rw [getD_set hul]
    split
    · rename_i e; subst e; omega
    · exact Int.le_refl _
  have hsum := sum_set os u (os.getD v0 0 + 1) hul
  have hb0 := h.1.bd v0 hv
  have hbu := h.1.bd u hun
  have hlen : q'.length = q.length + 1 := by rw [hp.length_eq, List.length_cons]
  have stl : ∀ w x, w ≠ u → Stl S n ys rs os w x → Stl S n ys rs (os.set u (os.getD v0 0 + 1)) w x := fun w x hw hs a' h1 h2 h3 h4 => by
    have := hs a' h1 h2 h3 h4
    have := hle (tl ys n (rv n ys a'))
    rw [getD_set hul _ w, if_neg hw]
    omega
  have ent : ∀ w, w ≠ u → Ent os q w → Ent (os.set u (os.getD v0 0 + 1)) q' w := fun w hw he => by
    unfold Ent
    rw [getD_set hul _ w, if_neg hw]
    exact hp.mem_iff.2 (List.mem_cons_of_mem _ he)
  have entu : Ent (os.set u (os.getD v0 0 + 1)) q' u := by
    unfold Ent
    rw [getD_set hul _ u, if_pos rfl]
    exact hp.mem_iff.2 List.mem_cons_self
  refine ⟨⟨⟨by rw [List.length_set]; exact h.1.len, fun v hv' => ?_, fun x hx => ?_, fun v hv' => Int.le_trans (hle v) (h.1.low v hv'), fun gs hgv hgl v hv' => ?_, ?_⟩, fun v hv' hne => ?_, ?_⟩, hv0, ?_⟩
  · rw [getD_set hul]
    split
    · omega
    · exact h.1.bd v hv'
  · rcases List.mem_cons.1 (hp.mem_iff.1 hx) with e | e
    · subst e
      refine ⟨by show (0 : Int) ≤ (u : Int); omega, by show (u : Int) < n; omega, ?_, by show os.getD v0 0 + 1 ≤ N; omega⟩
      show (os.set u (os.getD v0 0 + 1)).getD (Int.toNat (u : Int)) 0 ≤ os.getD v0 0 + 1
      rw [Int.toNat_natCast, getD_set hul, if_pos rfl]
      exact Int.le_refl _
    · obtain ⟨e1, e2, e3, e4⟩ := h.1.ent x e
      exact ⟨e1, e2, Int.le_trans (hle _) e3, e4⟩
  · rw [getD_set hul]
    split
    · rename_i e
      subst e
      have h1 := hgv (rv n ys a) hb (by rw [ht, hu]; exact hS) hr
      rw [ht, hh, hta, hu] at h1
      have h2 := h.1.top gs hgv hgl v0 hv
      omega
    · exact h.1.top gs hgv hgl v hv'
  · have := h.1.cnt
    omega
  · by_cases e : v = u
    · subst e; exact .inr entu
    · exact (h.2.1 v hv' hne).imp (stl v _ e) (ent v e)
  · refine h.2.2.imp (fun hs => ?_) (ent v0 huv)
    intro a' h1 h2 h3 h4
    by_cases e : a' = a
    · subst e
      rw [ht, hu, hv0, getD_set hul, if_pos rfl]
      exact Int.le_refl _
    · exact stl v0 a huv hs a' h1 (by omega) h3 h4
  · omega
theorem LI.fin (hg : Gr N S T n m ys) (h : LI N S n m ys rs hs os []) : IsLow S n m ys rs hs os := by
  refine ⟨h.1.len, fun b hb hS hr => ?_, h.1.low, h.1.top⟩
  obtain ⟨-, h1, h2, h3, -⟩ := rv_facts hg b hb
  have hv := (hd_get hg b hb).2
  have hr2 := rv_rv hg b hb
  have hm : rv n ys b < fst ys n := by have := hg.hm; unfold fst; omega
  obtain ⟨t1, t2, t3⟩ := tl_at ys (rv n ys b) n hm
  rw [h2] at t1 t2 t3
  rcases h.2 _ hv with e | e
  · have := e (rv n ys b) t2 t3 (by rw [hr2]; exact hS) (by rw [hr2]; exact hr)
    rw [hr2] at this
    exact this
  · cases e
/-- All of them, ahead of the first one taken. -/
def spots (hs : List Int) (k : Nat) : List (Int × Int) := (List.range k).map fun v => (hs.getD v 0, (v : Int))
theorem spots_succ (hs : List Int) (k : Nat) : spots hs (k + 1) = spots hs k ++ [(hs.getD k 0, (k : Int))] := by simp [spots, List.range_succ]
theorem spots_len (hs : List Int) (k : Nat) : (spots hs k).length = k := by simp [spots]
theorem LI.start (hr : rightB N S T hs = true) (hn : hs.length = n) : LI N S n m ys rs hs hs (spots hs n) := by
  obtain ⟨h1, h2, -, -⟩ := right_parts.1 hr
  have hb : ∀ v, v < n → 0 ≤ hs.getD v 0 ∧ hs.getD v 0 ≤ N := fun v hv => by
    have : hs.getD v 0 ∈ hs := by simp [List.getD, List.getElem?_eq_getElem (show v < hs.length by omega)]
    exact h2 _ this
  refine ⟨⟨hn, hb, fun x hx => ?_, fun v hv => Int.le_refl _, fun gs hgv hgl => hgl, by rw [spots_len]; exact Int.le_refl _⟩, fun v hv => .inr ?_⟩
  · obtain ⟨v, hv, rfl⟩ := List.mem_map.1 hx
    have hv := List.mem_range.1 hv
    refine ⟨by show (0 : Int) ≤ (v : Int); omega, by show (v : Int) < n; omega, ?_, (hb v hv).2⟩
    show hs.getD (Int.toNat (v : Int)) 0 ≤ hs.getD v 0
    rw [Int.toNat_natCast]
    exact Int.le_refl _
  · exact List.mem_map.2 ⟨v, List.mem_range.2 hv, rfl⟩
end
open Go.RowKit
section
variable {N S T : Int} {n m : Nat} {ys : List Ar} {rs hs gs os ps qs : List Int}
theorem IsLow.both (hx : IsLow S n m ys rs hs os) (hy : IsLow S n m ys rs gs ps) (hz : IsLow S n m ys rs (zipL min n hs gs) qs) (hg : Gr N S T n m ys) (v : Nat) (hv : v < n) : qs.getD v 0 = min (os.getD v 0) (ps.getD v 0) := by
  have hle : ∀ v, v < n → qs.getD v 0 ≤ min (hs.getD v 0) (gs.getD v 0) := fun v hv => by
    have := hz.le v hv
    rwa [zipL_get _ _ _ _ _ hv] at this
  have h1 := hx.top qs hz.vld (fun v hv => by have := hle v hv; omega) v hv
  have h2 := hy.top qs hz.vld (fun v hv => by have := hle v hv; omega) v hv
  have h3 := hz.top (zipL min n os ps) (fun b hb hS hr => by
    have ht : tl ys n b < n := (tl_at ys b n (by have := hg.hm; unfold fst; omega)).1
    have hh := (hd_get hg b hb).2
    rw [zipL_get _ _ _ _ _ ht, zipL_get _ _ _ _ _ hh]
    have := hx.vld b hb hS hr
    have := hy.vld b hb hS hr
    omega) (fun v hv => by
    rw [zipL_get _ _ _ _ _ hv, zipL_get _ _ _ _ _ hv]
    have := hx.le v hv
    have := hy.le v hv
    omega) v hv
  rw [zipL_get _ _ _ _ _ hv] at h3
  omega
theorem IsLow.shut {rs' : List Int} (hx : IsLow S n m ys rs hs os) (hw : IsLow S n m ys rs' hs ps) (hr : ∀ a, 0 < rs'.getD a 0 → 0 < rs.getD a 0) (v : Nat) (hv : v < n) : os.getD v 0 ≤ ps.getD v 0 :=
  hw.top os (fun b hb hS h => hx.vld b hb hS (hr b h)) hx.le v hv
theorem low_right (hg : Gr N S T n m ys) (hr : rightB N S T hs = true) (h : IsLow S n m ys rs hs os) : rightB N S T os = true := by
  obtain ⟨h1, h2, h3, h4⟩ := right_parts.1 hr
  have hl := hg.len
  have hb : ∀ v, v < n → 0 ≤ hs.getD v 0 ∧ hs.getD v 0 ≤ N := fun v hv => (rightB_in hr v (by omega)).2
  have gr : ∀ (f : Nat → Int) v, v < n → ((List.range n).map f).getD v 0 = f v := fun f v hv => by simp [hv]
  have h0 := h.top ((List.range n).map fun (_ : Nat) => (0 : Int)) (fun b hb hS hr => by
    have ht : tl ys n b < n := (tl_at ys b n (by have := hg.hm; unfold fst; omega)).1
    have hh := (hd_get hg b hb).2
    rw [gr _ _ ht, gr _ _ hh]
    omega) (fun v hv => by rw [gr _ _ hv]; exact (hb v hv).1)
  have hs0 := h.top ((List.range n).map fun (v : Nat) => if (v : Int) = S then N else 0) (fun b hb hS hr => by
    have ht : tl ys n b < n := (tl_at ys b n (by have := hg.hm; unfold fst; omega)).1
    have hh := (hd_get hg b hb).2
    rw [gr _ _ ht, gr _ _ hh, if_neg hS]
    split <;> omega) (fun v hv => by
    rw [gr _ _ hv]
    split
    · rename_i e; rw [show v = S.toNat by omega, h4]; exact Int.le_refl _
    · exact (hb v hv).1) S.toNat (by omega)
  rw [gr _ _ (by omega), if_pos (by omega)] at hs0
  have hln := h.len
  refine right_parts.2 ⟨by omega, fun x hx => ?_, ?_, ?_⟩
  · obtain ⟨v, hv, rfl⟩ := List.mem_iff_getElem.1 hx
    have e : os[v] = os.getD v 0 := by simp [hv]
    have a1 := h0 v (by omega)
    rw [gr _ _ (by omega)] at a1
    have a2 := h.le v (by omega)
    have a3 := hb v (by omega)
    rw [e]
    omega
  · have a1 := h0 T.toNat (by omega)
    rw [gr _ _ (by omega)] at a1
    have a2 := h.le T.toNat (by omega)
    omega
  · have a2 := h.le S.toNat (by omega)
    omega
theorem steep_iff {hs : List Int} {a : Nat} : dnQ S n ys rs hs (isP true) a = true ↔ (tl ys n a : Int) ≠ S ∧ 0 < rs.getD a 0 ∧ hs.getD (hd n ys a) 0 + 1 < hs.getD (tl ys n a) 0 := by
  simp only [dnQ, byOf, isP, if_true, Bool.and_eq_true, decide_eq_true_eq]
  constructor
  · rintro ⟨⟨h1, h2⟩, h3⟩
    exact ⟨h1, h2, by have := of_decide_eq_true h3; omega⟩
  · rintro ⟨h1, h2, h3⟩
    exact ⟨⟨h1, h2⟩, decide_eq_true (by omega)⟩
theorem flat_iff {hs : List Int} {a : Nat} : dnQ S n ys rs hs (isP false) a = true ↔ (tl ys n a : Int) ≠ S ∧ 0 < rs.getD a 0 ∧ hs.getD (tl ys n a) 0 = hs.getD (hd n ys a) 0 + 1 := by
  simp only [dnQ, byOf, isP, Bool.false_eq_true, if_false, Bool.and_eq_true, decide_eq_true_eq]
  constructor
  · rintro ⟨⟨h1, h2⟩, h3⟩
    exact ⟨h1, h2, by have := of_decide_eq_true h3; omega⟩
  · rintro ⟨h1, h2, h3⟩
    exact ⟨⟨h1, h2⟩, decide_eq_true (by omega)⟩
theorem valid_vld (hm : rs.length = m) (hr : rightB N S T hs = true) : validB N S T n m ys rs hs = true ↔ Vld S n m ys rs hs := by
  rw [validB_iff hm hr]
  constructor
  · intro h b hb hS hrs
    have h1 := h b hb
    by_cases q : hs.getD (tl ys n b) 0 ≤ hs.getD (hd n ys b) 0 + 1
    · exact q
    · rw [steep_iff.2 ⟨hS, hrs, by omega⟩] at h1
      cases h1
  · intro h a ha
    cases hq : dnQ S n ys rs hs (isP true) a with
    | false => rfl
    | true =>
      obtain ⟨h1, h2, h3⟩ := steep_iff.1 hq
      have := h a ha h1 h2
      omega
theorem low_valid (hg : Gr N S T n m ys) (hm : rs.length = m) (hr : rightB N S T hs = true) (h : IsLow S n m ys rs hs os) : validB N S T n m ys rs os = true :=
  (valid_vld hm (low_right hg hr h)).2 h.vld
theorem valid_steep (h : validB N S T n m ys rs hs = true) : dnL N S T n m ys rs hs (isP true) = [] := by
  unfold validB at h
  simp only [Bool.and_eq_true, decide_eq_true_eq] at h
  exact List.eq_nil_of_length_eq_zero h.2
/-- Valid heights stay as they are. -/
theorem low_same (hv : Vld S n m ys rs hs) (hl : hs.length = n) (h : IsLow S n m ys rs hs os) : os = hs :=
  list_ext_getD h.len hl fun v hv' => Int.le_antisymm (h.le v hv') (h.top hs hv (fun _ _ => Int.le_refl _) v hv')
/-- Whoever is lowered has a flat arc. -/
theorem low_flat (hg : Gr N S T n m ys) (hr : rightB N S T hs = true) (h : IsLow S n m ys rs hs os) (v : Nat) (hv : v < n) (hlt : os.getD v 0 < hs.getD v 0) : ∃ a, a < m ∧ dnQ S n ys rs os (isP false) a = true ∧ tl ys n a = v := by
  obtain ⟨h1, h2, h3, h4⟩ := right_parts.1 hr
  obtain ⟨-, -, -, g4⟩ := right_parts.1 (low_right hg hr h)
  have hl := hg.len
  have hvS : (v : Int) ≠ S := fun e => by
    rw [show v = S.toNat by omega] at hlt
    omega
  apply Classical.byContradiction
  intro hno
  have hno' : ∀ a, a < m → 0 < rs.getD a 0 → tl ys n a = v → os.getD v 0 ≠ os.getD (hd n ys a) 0 + 1 := fun a ha h0 ht e =>
    hno ⟨a, ha, flat_iff.2 ⟨by rw [ht]; exact hvS, h0, by rw [ht]; exact e⟩, ht⟩
  have hul : v < os.length := by rw [h.len]; exact hv
  have := h.top (os.set v (os.getD v 0 + 1)) (fun b hb hS h0 => by
    have h5 := h.vld b hb hS h0
    rw [getD_set hul, getD_set hul]
    by_cases e1 : tl ys n b = v
    · have := hno' b hb h0 e1
      rw [e1] at h5
      rw [if_pos e1]
      split
      · omega
      · omega
    · rw [if_neg e1]
      split
      · rename_i e2; rw [e2] at h5; omega
      · exact h5) (fun u hu => by
    rw [getD_set hul]
    split
    · rename_i e; subst e; omega
    · exact h.le u hu) v hv
  rw [getD_set hul, if_pos rfl] at this
  omega
end
end Go.Proofs.Yticeionjlknlcaa
