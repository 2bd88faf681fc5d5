/- NetJoins: what a joined net is. No walk. -/
import Derived.Test.YtafabeehbifgaaaJoin
import Derived.Test.YtafabeehbifgaaaSums
namespace Go.Proofs.Ytafabeehbifgaaa
set_option linter.unusedVariables false
open Go.RowKit

/-- What of a row goes to k. -/
def partOf : List Ar → List Int → Int → Int
  | a :: ys, o :: os, k => (if o = k then a.c else 0) + partOf ys os k
  | _, _, _ => 0
theorem partOf_snoc : ∀ (ys : List Ar) (os : List Int), ys.length = os.length → ∀ (a : Ar) (o k : Int), partOf (ys ++ [a]) (os ++ [o]) k = partOf ys os k + (if o = k then a.c else 0)
  | [], [], _, a, o, k => by simp [partOf]
  | x :: ys, p :: os, h, a, o, k => by
    simp only [List.cons_append, partOf]
    rw [partOf_snoc ys os (by simpa using h)]
    omega
  | [], p :: os, h, _, _, _ => by simp at h
  | x :: ys, [], h, _, _, _ => by simp at h
theorem partOf_bounds : ∀ (ys : List Ar) (os : List Int) (k : Int), (∀ x ∈ ys, 0 ≤ x.c) → 0 ≤ partOf ys os k ∧ partOf ys os k ≤ capsOf ys
  | [], _, k, _ => by simp [partOf, capsOf]
  | x :: ys, [], k, h => by
    have := capsOf_nonneg (x :: ys) h
    simp [partOf]; exact this
  | x :: ys, p :: os, k, h => by
    have h1 := partOf_bounds ys os k (fun y hy => h y (List.mem_cons_of_mem _ hy))
    have h2 := h x (by simp)
    simp only [partOf, capsOf]
    split <;> omega
def lastOf (os : List Int) : Int := os.foldl (fun m o => if m < o then o else m) (-1)
theorem lastOf_snoc (os : List Int) (o : Int) : lastOf (os ++ [o]) = if lastOf os < o then o else lastOf os := by unfold lastOf; rw [List.foldl_append]; rfl
/-- Of arcs that were looked at (pre) the joined ones are out, and each is part of ofl's. -/
structure JI (N : Int) (pre out : List Ar) (ofl : List Int) : Prop where
  len : ofl.length = pre.length
  ole : out.length ≤ pre.length
  rng : ∀ x ∈ out, 0 ≤ x.f ∧ x.f < N ∧ 0 ≤ x.t ∧ x.t < N ∧ x.f ≠ x.t
  one : ∀ i j (hi : i < out.length) (hj : j < out.length), out[i].f = out[j].f → out[i].t = out[j].t → i = j
  pos : ∀ i (h1 : i < pre.length) (h2 : i < ofl.length), (pre[i].f = pre[i].t ∧ ofl[i] = -1) ∨ (pre[i].f ≠ pre[i].t ∧ ∃ k, ∃ hk : k < out.length, ofl[i] = (k : Int) ∧ out[k].f = pre[i].f ∧ out[k].t = pre[i].t)
  last : lastOf ofl = (out.length : Int) - 1
  rise : ∀ i (h : i < ofl.length), ofl[i] ≤ lastOf (ofl.take i) + 1
  sum : ∀ k (hk : k < out.length), out[k].c = partOf pre ofl k
theorem idx_none : ∀ {ys : List Ar} {f t : Int}, idx ys f t = none → ∀ x ∈ ys, ¬ (x.f = f ∧ x.t = t)
  | [], f, t, _, x, hx => by cases hx
  | a :: ys, f, t, h, x, hx => by
    unfold idx at h
    split at h
    · cases h
    · rename_i hn
      simp at h
      simp at hx
      rcases hx with rfl | hx
      · exact hn
      · exact idx_none h x hx
theorem lastOf_ge : ∀ (os : List Int) (m : Int), m ≤ os.foldl (fun m o => if m < o then o else m) m
  | [], m => Int.le_refl _
  | o :: os, m => by
    simp only [List.foldl_cons]
    split
    · have := lastOf_ge os o; omega
    · exact lastOf_ge os m
theorem rise_snoc {os : List Int} {o : Int} (h : ∀ i (h : i < os.length), os[i] ≤ lastOf (os.take i) + 1) (ho : o ≤ lastOf os + 1) : ∀ i (h : i < (os ++ [o]).length), (os ++ [o])[i] ≤ lastOf ((os ++ [o]).take i) + 1 := by
  intro i hi
  by_cases hl : i < os.length
  · rw [List.getElem_append_left hl, List.take_append_of_le_length (by omega)]
    exact h i hl
  · have : i = os.length := by simp at hi; omega
    subst this
    simp
    exact ho
theorem JI.step {N : Int} {pre out : List Ar} {ofl : List Int} {a : Ar} (h : JI N pre out ofl) (ha : 0 ≤ a.f ∧ a.f < N ∧ 0 ≤ a.t ∧ a.t < N) : JI N (pre ++ [a]) (joinStep out a).1 (ofl ++ [(joinStep out a).2]) := by
  have hlen := h.len
  unfold joinStep
  by_cases hft : a.f = a.t
  · rw [if_pos hft]
    refine ⟨by simp [hlen], by simp; have := h.ole; omega, h.rng, h.one, ?_, ?_, rise_snoc h.rise (by have := lastOf_ge ofl (-1); unfold lastOf; omega), ?_⟩
    · intro i h1 h2
      by_cases hi : i < pre.length
      · rw [List.getElem_append_left hi, List.getElem_append_left (by omega)]
        exact h.pos i hi (by omega)
      · have : i = pre.length := by simp at h1; omega
        subst this
        left
        rw [List.getElem_append_right (Nat.le_refl _), List.getElem_append_right (by omega)]
        simp [hft]
    · rw [lastOf_snoc, h.last]
      show (if (out.length : Int) - 1 < -1 then (-1 : Int) else (out.length : Int) - 1) = (out.length : Int) - 1
      rw [if_neg (by omega)]
    · intro k hk
      rw [partOf_snoc _ _ hlen.symm, h.sum k hk, if_neg (by omega)]
      omega
  · rw [if_neg hft]
    cases hix : idx out a.f a.t with
    | none =>
      have hno := idx_none hix
      simp only
      refine ⟨by simp [hlen], by simp; exact h.ole, ?_, ?_, ?_, ?_, rise_snoc h.rise (by rw [h.last]; omega), ?_⟩
      · intro x hx
        rw [List.mem_append] at hx
        rcases hx with hx | hx
        · exact h.rng x hx
        · simp at hx; subst hx; exact ⟨ha.1, ha.2.1, ha.2.2.1, ha.2.2.2, hft⟩
      · intro i j hi hj e1 e2
        by_cases hi' : i < out.length
        · by_cases hj' : j < out.length
          · rw [List.getElem_append_left hi', List.getElem_append_left hj'] at e1 e2
            exact h.one i j hi' hj' e1 e2
          · have : j = out.length := by simp at hj; omega
            subst this
            rw [List.getElem_append_left hi', List.getElem_append_right (Nat.le_refl _)] at e1 e2
            simp at e1 e2
            exact absurd ⟨e1, e2⟩ (hno _ (List.getElem_mem hi'))
        · have : i = out.length := by simp at hi; omega
          subst this
          by_cases hj' : j < out.length
          · rw [List.getElem_append_left hj', List.getElem_append_right (Nat.le_refl _)] at e1 e2
            simp at e1 e2
            exact absurd ⟨e1.symm, e2.symm⟩ (hno _ (List.getElem_mem hj'))
          · simp at hj; omega
      · intro i h1 h2
        by_cases hi : i < pre.length
        · rw [List.getElem_append_left hi, List.getElem_append_left (by omega)]
          rcases h.pos i hi (by omega) with hp | ⟨hp, k, hk, e1, e2, e3⟩
          · exact .inl hp
          · exact .inr ⟨hp, k, by simp; omega, e1, by rw [List.getElem_append_left hk]; exact e2, by rw [List.getElem_append_left hk]; exact e3⟩
        · have : i = pre.length := by simp at h1; omega
          subst this
          right
          rw [List.getElem_append_right (Nat.le_refl _), List.getElem_append_right (by omega)]
          refine ⟨by simpa using hft, out.length, by simp, by simp [hlen], ?_, ?_⟩
          · rw [List.getElem_append_right (Nat.le_refl _)]; simp
          · rw [List.getElem_append_right (Nat.le_refl _)]; simp
      · rw [lastOf_snoc, h.last, if_pos (by omega)]; simp
      · intro k hk
        rw [partOf_snoc _ _ hlen.symm]
        by_cases hk' : k < out.length
        · rw [List.getElem_append_left hk', h.sum k hk', if_neg (by omega)]; omega
        · have : k = out.length := by simp at hk; omega
          subst this
          rw [List.getElem_append_right (Nat.le_refl _), if_pos rfl]
          have hz : ∀ (ys : List Ar) (os : List Int) (kk : Int), (∀ o ∈ os, o < kk) → partOf ys os kk = 0 := by
            intro ys
            induction ys with
            | nil => intro os kk _; simp [partOf]
            | cons y ys ih =>
              intro os kk ho
              cases os with
              | nil => simp [partOf]
              | cons o os =>
                simp only [partOf]
                have := ho o (by simp)
                rw [if_neg (by omega), ih os kk (fun p hp => ho p (List.mem_cons_of_mem _ hp))]
                omega
          rw [hz pre ofl _ (fun o ho => ?_)]
          · simp
          · obtain ⟨i, hi, rfl⟩ := List.getElem_of_mem ho
            rcases h.pos i (by omega) hi with hp | ⟨_, k, hk2, e1, _⟩
            · rw [hp.2]; omega
            · rw [e1]; omega
    | some q =>
      obtain ⟨hq, hqf, hqt⟩ := idx_some hix
      simp only
      have hgd : (out.getD q ⟨0, 0, 0⟩).c = out[q].c := by simp [hq]
      rw [hgd]
      have hset : ∀ k (hk : k < (out.set q ⟨a.f, a.t, out[q].c + a.c⟩).length), (out.set q ⟨a.f, a.t, out[q].c + a.c⟩)[k].f = (out[k]'(by simpa using hk)).f ∧ (out.set q ⟨a.f, a.t, out[q].c + a.c⟩)[k].t = (out[k]'(by simpa using hk)).t := by
        intro k hk
        rw [List.getElem_set]
        split
        · rename_i e; subst e; exact ⟨hqf.symm, hqt.symm⟩
        · exact ⟨rfl, rfl⟩
      refine ⟨by simp [hlen], by simp; have := h.ole; omega, ?_, ?_, ?_, ?_, rise_snoc h.rise (by rw [h.last]; omega), ?_⟩
      · intro x hx
        rcases List.mem_or_eq_of_mem_set hx with hx | rfl
        · exact h.rng x hx
        · exact ⟨ha.1, ha.2.1, ha.2.2.1, ha.2.2.2, hft⟩
      · intro i j hi hj e1 e2
        rw [(hset i hi).1, (hset j hj).1] at e1
        rw [(hset i hi).2, (hset j hj).2] at e2
        exact h.one i j (by simpa using hi) (by simpa using hj) e1 e2
      · intro i h1 h2
        by_cases hi : i < pre.length
        · rw [List.getElem_append_left hi, List.getElem_append_left (by omega)]
          rcases h.pos i hi (by omega) with hp | ⟨hp, k, hk, e1, e2, e3⟩
          · exact .inl hp
          · exact .inr ⟨hp, k, by simpa using hk, e1, by rw [(hset k (by simpa using hk)).1]; exact e2, by rw [(hset k (by simpa using hk)).2]; exact e3⟩
        · have : i = pre.length := by simp at h1; omega
          subst this
          right
          rw [List.getElem_append_right (Nat.le_refl _), List.getElem_append_right (by omega)]
          refine ⟨by simpa using hft, q, by simpa using hq, by simp [hlen], ?_, ?_⟩
          · rw [(hset q (by simpa using hq)).1]; simpa using hqf
          · rw [(hset q (by simpa using hq)).2]; simpa using hqt
      · rw [lastOf_snoc, h.last, if_neg (by omega)]; simp
      · intro k hk
        have hk' : k < out.length := by simpa using hk
        rw [partOf_snoc _ _ hlen.symm, List.getElem_set]
        split
        · rename_i e; subst e
          rw [if_pos rfl, ← h.sum q hq]
        · rename_i e
          rw [if_neg (by omega), h.sum k hk']; omega
theorem JI.go {N : Int} : ∀ (rest pre out : List Ar) (ofl : List Int), JI N pre out ofl → (∀ x ∈ rest, 0 ≤ x.f ∧ x.f < N ∧ 0 ≤ x.t ∧ x.t < N) → JI N (pre ++ rest) (joinGo out ofl rest).1 (joinGo out ofl rest).2
  | [], pre, out, ofl, h, _ => by simpa [joinGo] using h
  | a :: rest, pre, out, ofl, h, hr => by
    have h1 := JI.go rest (pre ++ [a]) _ _ (h.step (hr a (by simp))) (fun x hx => hr x (List.mem_cons_of_mem _ hx))
    simpa [joinGo] using h1
theorem ji_of {N : Int} {ys : List Ar} (hv : ∀ x ∈ ys, 0 ≤ x.f ∧ x.f < N ∧ 0 ≤ x.t ∧ x.t < N) : JI N ys (joinGo [] [] ys).1 (joinGo [] [] ys).2 := by
  have h0 : JI N [] [] [] := ⟨rfl, Nat.le_refl _, by simp, by intro i j hi; simp at hi, by intro i h; simp at h, by simp [lastOf], by intro i h; simp at h, by intro k h; simp at h⟩
  simpa using JI.go ys [] [] [] h0 hv
theorem fine_go {N : Int} : ∀ (rest out : List Ar) (ofl : List Int), Fine N out rest → Fine N (joinGo out ofl rest).1 []
  | [], out, ofl, h => by simpa [joinGo] using h
  | a :: rest, out, ofl, h => by
    simp only [joinGo]
    refine fine_go rest _ _ ?_
    unfold joinStep
    by_cases hft : a.f = a.t
    · rw [if_pos hft]; exact h.skip
    · rw [if_neg hft]
      cases hix : idx out a.f a.t with
      | none => exact h.more
      | some q =>
        obtain ⟨hq, _, _⟩ := idx_some hix
        have := h.add q hq a.f a.t
        simpa [hq] using this
/-- Joined again it is the same. -/
theorem join_again : ∀ (rest out : List Ar) (ofl : List Int), (∀ i j (hi : i < (out ++ rest).length) (hj : j < (out ++ rest).length), (out ++ rest)[i].f = (out ++ rest)[j].f → (out ++ rest)[i].t = (out ++ rest)[j].t → i = j) → (∀ x ∈ rest, x.f ≠ x.t) → ofl = (List.range out.length).map (fun i : Nat => (i : Int)) →
    joinGo out ofl rest = (out ++ rest, (List.range (out ++ rest).length).map (fun i : Nat => (i : Int)))
  | [], out, ofl, _, _, ho => by simp [joinGo, ho]
  | a :: rest, out, ofl, h1, hne, ho => by
    have hft := hne a (by simp)
    have hix : idx out a.f a.t = none := by
      cases hix : idx out a.f a.t with
      | none => rfl
      | some q =>
        obtain ⟨hq, hqf, hqt⟩ := idx_some hix
        have := h1 q out.length (by simp; omega) (by simp) (by rw [List.getElem_append_left hq, List.getElem_append_right (Nat.le_refl _)]; simpa using hqf) (by rw [List.getElem_append_left hq, List.getElem_append_right (Nat.le_refl _)]; simpa using hqt)
        omega
    have hs : joinStep out a = (out ++ [a], (out.length : Int)) := by unfold joinStep; rw [if_neg hft, hix]
    simp only [joinGo, hs]
    have e : out ++ a :: rest = (out ++ [a]) ++ rest := by simp
    rw [e]
    refine join_again rest (out ++ [a]) _ ?_ (fun x hx => hne x (List.mem_cons_of_mem _ hx)) ?_
    · intro i j hi hj
      have := h1 i j (by rw [e]; exact hi) (by rw [e]; exact hj)
      simpa using this
    · rw [ho]; simp [List.range_succ]
theorem chk_join {N S T : Int} {ys : List Ar} (h : chkOf N S T ys = 0) (hl : ys.length ≤ 200) : chkOf N S T (joinGo [] [] ys).1 = 0 := by
  obtain ⟨hN0, hN1, hf, hS, hT, hST, _⟩ := chk_zero h
  have hj := ji_of hf.vy
  have hg := fine_go ys [] [] hf
  have r5 : sumB (joinGo [] [] ys).1 = true := (sum_ok ⟨hg.co, by have := hg.sum; simp only [capsOf] at this; omega⟩).2
  unfold chkOf
  have r0 : rule N S T (joinGo [] [] ys).1 0 = true := by simp [rule]; omega
  have r1 : rule N S T (joinGo [] [] ys).1 1 = true := by simp [rule]; have := hj.ole; omega
  have r2 : rule N S T (joinGo [] [] ys).1 2 = true := by simp [rule, hS, hT, hST]
  have r3 : rule N S T (joinGo [] [] ys).1 3 = true := by
    simp only [rule, List.all_eq_true]
    intro x hx
    have := hj.rng x hx
    simp [inN]; omega
  have r4 : rule N S T (joinGo [] [] ys).1 4 = true := by
    simp only [rule, List.all_eq_true]
    intro x hx
    have := hg.co x hx
    simp; exact this
  have r5' : rule N S T (joinGo [] [] ys).1 5 = true := r5
  rw [r0, r1, r2, r3, r4, r5']
  simp
end Go.Proofs.Ytafabeehbifgaaa
