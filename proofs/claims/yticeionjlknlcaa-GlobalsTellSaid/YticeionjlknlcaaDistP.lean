/- How far from a vertex, by any steps: what makes it so, and going out row by row. Plain. -/
import Derived.Test.YticeionjlknlcaaBase
namespace Go.Proofs.Yticeionjlknlcaa
set_option linter.unusedVariables false
set_option linter.unusedSimpArgs false
open Go.RowKit
theorem wrap_upD (x : Nat) (h : x ≤ 1000) : wrap64 ((x : Int) + 1) = ((x + 1 : Nat) : Int) := by unfold wrap64; omega
theorem wrap_upD' (x : Nat) (h : x ≤ 1000) : IntKind.i64.wrap ((x : Int) + 1) = ((x + 1 : Nat) : Int) := by rw [IntKind.wrap_i64]; omega

/-- So far is each vertex from s, by steps E; n: there is no way. -/
structure IsD (n s : Nat) (E : Nat → Nat → Prop) (d : List Nat) : Prop where
  len : d.length = n
  lt : s < n
  src : d.getD s 0 = 0
  le : ∀ v, v < n → d.getD v 0 ≤ n
  step : ∀ u v, u < n → v < n → E u v → d.getD v 0 ≤ d.getD u 0 + 1
  par : ∀ v, v < n → v ≠ s → d.getD v 0 < n → ∃ u, u < n ∧ E u v ∧ d.getD v 0 = d.getD u 0 + 1
theorem IsD.less {n s : Nat} {E F : Nat → Nat → Prop} {d f : List Nat} (hd : IsD n s E d) (hf : IsD n s F f) (hEF : ∀ u v, u < n → v < n → F u v → E u v) : ∀ k v, v < n → f.getD v 0 = k → d.getD v 0 ≤ f.getD v 0 := by
  intro k
  induction k using Nat.strongRecOn with
  | _ k ih =>
    intro v hv hk
    by_cases h1 : f.getD v 0 < n
    · by_cases h2 : v = s
      · subst h2; rw [hd.src]; omega
      · obtain ⟨u, hu, he, h3⟩ := hf.par v hv h2 h1
        have h4 := ih (f.getD u 0) (by omega) u hu rfl
        have h5 := hd.step u v hu hv (hEF u v hu hv he)
        omega
    · have := hd.le v hv
      omega
theorem IsD.one {n s : Nat} {E : Nat → Nat → Prop} {d f : List Nat} (hd : IsD n s E d) (hf : IsD n s E f) : d = f := by
  refine List.ext_getElem (by rw [hd.len, hf.len]) fun i h1 h2 => ?_
  have hi : i < n := by rw [← hd.len]; exact h1
  have a := hd.less hf (fun _ _ _ _ h => h) _ i hi rfl
  have b := hf.less hd (fun _ _ _ _ h => h) _ i hi rfl
  have e1 : d.getD i 0 = d[i] := by simp [h1]
  have e2 : f.getD i 0 = f[i] := by simp [h2]
  omega
theorem IsD.congr {n s : Nat} {E F : Nat → Nat → Prop} {d : List Nat} (hd : IsD n s E d) (h : ∀ u v, u < n → v < n → (E u v ↔ F u v)) : IsD n s F d :=
  ⟨hd.len, hd.lt, hd.src, hd.le, fun u v hu hv hf => hd.step u v hu hv ((h u v hu hv).2 hf), fun v hv hs hl => by
    obtain ⟨u, hu, he, hk⟩ := hd.par v hv hs hl
    exact ⟨u, hu, (h u v hu hv).1 he, hk⟩⟩
/-- Over a third one: d from s, f to t by the same steps (E turned round). -/
theorem IsD.via {n s t : Nat} {E : Nat → Nat → Prop} {d f : List Nat} (hd : IsD n s E d) (hf : IsD n t (fun u v => E v u) f) : ∀ k u, u < n → f.getD u 0 = k → f.getD u 0 < n → d.getD t 0 ≤ d.getD u 0 + f.getD u 0 := by
  intro k
  induction k using Nat.strongRecOn with
  | _ k ih =>
    intro u hu hk hl
    by_cases h2 : u = t
    · subst h2; omega
    · obtain ⟨v, hv, he, h3⟩ := hf.par u hu h2 hl
      have h4 := ih (f.getD v 0) (by omega) v hv rfl (by omega)
      have h5 := hd.step u v hu hv he
      omega
theorem IsD.both {n s t : Nat} {E : Nat → Nat → Prop} {d f : List Nat} (hd : IsD n s E d) (hf : IsD n t (fun u v => E v u) f) : f.getD s 0 = d.getD t 0 := by
  have h1 : d.getD t 0 ≤ f.getD s 0 := by
    by_cases h : f.getD s 0 < n
    · have := hd.via hf _ s hd.lt rfl h
      rw [hd.src] at this
      omega
    · have := hd.le t hf.lt
      omega
  have h2 : f.getD s 0 ≤ d.getD t 0 := by
    by_cases h : d.getD t 0 < n
    · have := hf.via (s := t) (t := s) (E := fun u v => E v u) (d := f) (f := d) hd _ t hf.lt rfl h
      rw [hf.src] at this
      omega
    · have := hf.le s hd.lt
      omega
  omega
theorem nodup_le : ∀ (n : Nat) (l : List Nat), l.Nodup → (∀ x ∈ l, x < n) → l.length ≤ n
  | 0, l, _, h => by
    cases l with
    | nil => simp
    | cons x xs => have := h x List.mem_cons_self; omega
  | n + 1, l, hn, h => by
    by_cases hm : n ∈ l
    · have h1 := nodup_le n (l.erase n) (hn.erase n) (fun x hx => by
        have h2 := (hn.mem_erase_iff).1 hx
        have h3 := h x h2.2
        have h4 := h2.1
        omega)
      have := List.length_erase_of_mem hm
      omega
    · have h1 := nodup_le n l hn (fun x hx => by
        have h3 := h x hx
        have : x ≠ n := fun e => hm (e ▸ hx)
        omega)
      omega
/-- Going out, row by row: d as far as it is known, the row of those met; the first i of it are done, and of the next one (u) the steps P. -/
structure BF (n s : Nat) (E : Nat → Nat → Prop) (d row : List Nat) (i : Nat) (P : Nat → Prop) : Prop where
  len : d.length = n
  lt : s < n
  src : d.getD s 0 = 0
  le : ∀ v, v < n → d.getD v 0 ≤ n
  rlt : ∀ v ∈ row, v < n
  nod : row.Nodup
  mem : ∀ v, v < n → (v ∈ row ↔ d.getD v 0 < n)
  rank : ∀ j, j < row.length → d.getD (row.getD j 0) 0 ≤ j
  mono : ∀ j k, j ≤ k → k < row.length → d.getD (row.getD j 0) 0 ≤ d.getD (row.getD k 0) 0
  near : i < row.length → ∀ j, j < row.length → d.getD (row.getD j 0) 0 ≤ d.getD (row.getD i 0) 0 + 1
  dne : ∀ j, j < i → j < row.length → ∀ v, v < n → E (row.getD j 0) v → d.getD v 0 ≤ d.getD (row.getD j 0) 0 + 1
  cur : i < row.length → ∀ v, v < n → P v → d.getD v 0 ≤ d.getD (row.getD i 0) 0 + 1
  par : ∀ v, v < n → v ≠ s → d.getD v 0 < n → ∃ u, u < n ∧ E u v ∧ d.getD v 0 = d.getD u 0 + 1 ∧ d.getD u 0 < n
theorem getDn_set {l : List Nat} {i j x : Nat} (h : i < l.length) : (l.set i x).getD j 0 = if i = j then x else l.getD j 0 := by
  simp only [List.getD_eq_getElem?_getD, List.getElem?_set]
  split
  · simp [h]
  · rfl
theorem rep_get {n v x : Nat} (h : v < n) : (List.replicate n x).getD v 0 = x := by simp [h]
theorem BF.start {n s : Nat} (E : Nat → Nat → Prop) (hs : s < n) (P : Nat → Prop) (hP : ∀ v, ¬ P v) : BF n s E ((List.replicate n n).set s 0) [s] 0 P := by
  have g : ∀ v, v < n → ((List.replicate n n).set s 0).getD v 0 = if s = v then 0 else n := fun v hv => by
    rw [getDn_set (by simpa using hs)]
    split
    · rfl
    · exact rep_get hv
  have g0 : ((List.replicate n n).set s 0).getD s 0 = 0 := by rw [g s hs, if_pos rfl]
  refine ⟨by simp, hs, g0, fun v hv => by rw [g v hv]; split <;> omega, fun v hv => by simp at hv; omega, by simp, fun v hv => ?_, fun j hj => ?_, fun j k hj hk => ?_, fun _ j hj => ?_, fun j hj => by omega, fun _ v hv hp => absurd hp (hP v), fun v hv hne hl => ?_⟩
  · rw [g v hv]
    split
    · subst_vars; simp; omega
    · simp; omega
  · simp at hj; subst hj; simp only [List.getD_cons_zero]; omega
  · simp at hk; subst hk; obtain rfl : j = 0 := by omega
    omega
  · simp at hj; subst hj; omega
  · rw [g v hv, if_neg (fun e => hne e.symm)] at hl; omega
theorem BF.room {n s : Nat} {E : Nat → Nat → Prop} {d row : List Nat} {i : Nat} {P : Nat → Prop} (h : BF n s E d row i P) : row.length ≤ n := nodup_le n row h.nod h.rlt
/-- What has gone by, and turned nothing. -/
theorem BF.pass {n s : Nat} {E : Nat → Nat → Prop} {d row : List Nat} {i : Nat} {P Q : Nat → Prop} (h : BF n s E d row i P) (hQ : ∀ v, v < n → Q v → P v ∨ d.getD v 0 < n) : BF n s E d row i Q := by
  refine ⟨h.len, h.lt, h.src, h.le, h.rlt, h.nod, h.mem, h.rank, h.mono, h.near, h.dne, fun hi v hv hq => ?_, h.par⟩
  rcases hQ v hv hq with h1 | h1
  · exact h.cur hi v hv h1
  · obtain ⟨j, hj, e⟩ := List.getElem_of_mem ((h.mem v hv).2 h1)
    have := h.near hi j hj
    rw [show row.getD j 0 = v by simp [hj, e]] at this
    exact this
/-- Somebody new. -/
theorem BF.push {n s : Nat} {E : Nat → Nat → Prop} {d row : List Nat} {i : Nat} {P Q : Nat → Prop} (h : BF n s E d row i P) (hi : i < row.length) {w : Nat} (hw : w < n) (hn : ¬ d.getD w 0 < n) (he : E (row.getD i 0) w) (hQ : ∀ v, v < n → Q v → P v ∨ v = w) :
    BF n s E (d.set w (d.getD (row.getD i 0) 0 + 1)) (row ++ [w]) i Q ∧ d.getD (row.getD i 0) 0 + 1 < n := by
  have hwl : w < d.length := by rw [h.len]; exact hw
  have hwr : w ∉ row := fun hm => hn ((h.mem w hw).1 hm)
  have hroom : row.length + 1 ≤ n := by
    have := nodup_le n (w :: row) (List.nodup_cons.2 ⟨hwr, h.nod⟩) (fun x hx => by
      rcases List.mem_cons.1 hx with e | e
      · omega
      · exact h.rlt x e)
    simpa using this
  have hrk := h.rank i hi
  have hk : d.getD (row.getD i 0) 0 + 1 < n ∨ d.getD (row.getD i 0) 0 + 1 = n ∧ i + 1 = n := by omega
  have hlt : d.getD (row.getD i 0) 0 + 1 < n := by omega
  generalize hk0 : d.getD (row.getD i 0) 0 = k at *
  have g : ∀ v, (d.set w (k + 1)).getD v 0 = if w = v then k + 1 else d.getD v 0 := fun v => getDn_set hwl
  have gr : ∀ j, j < row.length → (row ++ [w]).getD j 0 = row.getD j 0 := fun j hj => by simp [List.getD_eq_getElem?_getD, List.getElem?_append, hj]
  have gw : (row ++ [w]).getD row.length 0 = w := by simp [List.getD_eq_getElem?_getD]
  have rm : ∀ j, j < row.length → row.getD j 0 ∈ row := fun j hj => by simp [hj]
  have gd : ∀ j, j < row.length → (d.set w (k + 1)).getD (row.getD j 0) 0 = d.getD (row.getD j 0) 0 := fun j hj => by
    rw [g, if_neg]
    intro e
    exact hwr (e ▸ rm j hj)
  have gww : (d.set w (k + 1)).getD w 0 = k + 1 := by rw [g, if_pos rfl]
  have dw : d.getD w 0 = n := by have := h.le w hw; omega
  have hws : w ≠ s := fun e => by
    have h1 := h.src
    rw [← e, dw] at h1
    omega
  refine ⟨⟨by simpa using h.len, h.lt, by rw [g, if_neg hws]; exact h.src, fun v hv => ?_, fun v hv => ?_, ?_, fun v hv => ?_, fun j hj => ?_, fun j l hjl hl => ?_, fun _ j hj => ?_, fun j hj hj2 v hv hE => ?_, fun _ v hv hq => ?_, fun v hv hne hl => ?_⟩, hlt⟩
  · rw [g]; split
    · omega
    · exact h.le v hv
  · rcases List.mem_append.1 hv with e | e
    · exact h.rlt v e
    · simp at e; omega
  · rw [List.nodup_append]
    refine ⟨h.nod, by simp, fun a ha b hb e => ?_⟩
    simp at hb
    subst e hb
    exact hwr ha
  · rw [g, List.mem_append, List.mem_singleton]
    split
    · rename_i e; subst e; simp; omega
    · rename_i e
      rw [← h.mem v hv]
      constructor
      · rintro (h1 | h1)
        · exact h1
        · exact absurd h1.symm e
      · exact .inl
  · simp at hj
    rcases Nat.lt_or_ge j row.length with h1 | h1
    · rw [gr j h1, gd j h1]; exact h.rank j h1
    · obtain rfl : j = row.length := by omega
      rw [gw, gww]; omega
  · simp at hl
    rcases Nat.lt_or_ge l row.length with h1 | h1
    · rw [gr l h1, gd l h1, gr j (by omega), gd j (by omega)]; exact h.mono j l hjl h1
    · obtain rfl : l = row.length := by omega
      rw [gw, gww]
      rcases Nat.lt_or_ge j row.length with h2 | h2
      · rw [gr j h2, gd j h2]
        have := h.near hi j h2
        omega
      · obtain rfl : j = row.length := by omega
        rw [gw, gww]; exact Nat.le_refl _
  · rw [gr i hi, gd i hi, hk0]
    simp at hj
    rcases Nat.lt_or_ge j row.length with h1 | h1
    · rw [gr j h1, gd j h1]
      have := h.near hi j h1
      omega
    · obtain rfl : j = row.length := by omega
      rw [gw, gww]; exact Nat.le_refl _
  · have h1 : j < row.length := by omega
    rw [gr j h1, gd j h1]
    rw [gr j h1] at hE
    have h2 := h.dne j hj h1 v hv hE
    rw [g]; split
    · rename_i e; subst e
      rw [dw] at h2
      omega
    · exact h2
  · rw [gr i hi, gd i hi, hk0, g]
    split
    · omega
    · rename_i e
      rcases hQ v hv hq with h1 | h1
      · have := h.cur hi v hv h1
        omega
      · exact absurd h1.symm e
  · rw [g] at hl ⊢
    split at hl
    · rename_i e
      subst e
      rw [if_pos rfl]
      refine ⟨row.getD i 0, h.rlt _ (rm i hi), he, by rw [gd i hi, hk0], by rw [gd i hi, hk0]; omega⟩
    · rename_i e
      rw [if_neg e]
      obtain ⟨u, hu, h1, h2, h3⟩ := h.par v hv hne hl
      refine ⟨u, hu, h1, ?_, ?_⟩
      · rw [g, if_neg (fun e => by subst e; omega)]; exact h2
      · rw [g, if_neg (fun e => by subst e; omega)]; exact h3
/-- All of one's steps. -/
theorem BF.next {n s : Nat} {E : Nat → Nat → Prop} {d row : List Nat} {i : Nat} {P Q : Nat → Prop} (h : BF n s E d row i P) (hi : i < row.length) (hP : ∀ v, v < n → E (row.getD i 0) v → P v) (hQ : ∀ v, ¬ Q v) : BF n s E d row (i + 1) Q := by
  refine ⟨h.len, h.lt, h.src, h.le, h.rlt, h.nod, h.mem, h.rank, h.mono, fun hi2 j hj => ?_, fun j hj hj2 v hv hE => ?_, fun _ v hv hq => absurd hq (hQ v), h.par⟩
  · have h1 := h.near hi j hj
    have h2 := h.mono i (i + 1) (by omega) hi2
    omega
  · rcases Nat.lt_or_ge j i with h1 | h1
    · exact h.dne j h1 hj2 v hv hE
    · obtain rfl : j = i := by omega
      exact h.cur hi v hv (hP v hv hE)
theorem BF.done {n s : Nat} {E : Nat → Nat → Prop} {d row : List Nat} {i : Nat} {P : Nat → Prop} (h : BF n s E d row i P) (hi : i = row.length) : IsD n s E d := by
  refine ⟨h.len, h.lt, h.src, h.le, fun u v hu hv hE => ?_, fun v hv hne hl => ?_⟩
  · by_cases h1 : d.getD u 0 < n
    · obtain ⟨j, hj, e⟩ := List.getElem_of_mem ((h.mem u hu).2 h1)
      have e2 : row.getD j 0 = u := by simp [hj, e]
      have := h.dne j (by omega) hj v hv (by rw [e2]; exact hE)
      rw [e2] at this
      exact this
    · have := h.le v hv
      omega
  · obtain ⟨u, hu, h1, h2, -⟩ := h.par v hv hne hl
    exact ⟨u, hu, h1, h2⟩
end Go.Proofs.Yticeionjlknlcaa
