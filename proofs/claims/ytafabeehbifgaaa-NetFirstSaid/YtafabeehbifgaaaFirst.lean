/- NetFirst: the errors rise. No walk. -/
import Derived.Test.YtafabeehbifgaaaNetState
namespace Go.Proofs.Ytafabeehbifgaaa
set_option linter.unusedVariables false
open Go.RowKit

theorem chk_cases (N S T : Int) (ys : List Ar) : chkOf N S T ys = 0 ∨ chkOf N S T ys = 10 ∨ chkOf N S T ys = 11 ∨ chkOf N S T ys = 12 ∨ chkOf N S T ys = 13 ∨ chkOf N S T ys = 14 ∨ chkOf N S T ys = 15 := by
  unfold chkOf
  generalize rule N S T ys 0 = r0
  generalize rule N S T ys 1 = r1
  generalize rule N S T ys 2 = r2
  generalize rule N S T ys 3 = r3
  generalize rule N S T ys 4 = r4
  generalize rule N S T ys 5 = r5
  cases r0 <;> cases r1 <;> cases r2 <;> cases r3 <;> cases r4 <;> cases r5 <;> simp
/-- What an error says of the rules ahead. -/
theorem chk_is {N S T : Int} {ys : List Ar} {m : Nat} (hm : m ≤ 5) (h : chkOf N S T ys = 10 + m) : ∀ j, j < m → rule N S T ys j = true := by
  revert h
  unfold chkOf
  generalize h0 : rule N S T ys 0 = r0
  generalize h1 : rule N S T ys 1 = r1
  generalize h2 : rule N S T ys 2 = r2
  generalize h3 : rule N S T ys 3 = r3
  generalize h4 : rule N S T ys 4 = r4
  generalize h5 : rule N S T ys 5 = r5
  intro h j hj
  have hj5 : j = 0 ∨ j = 1 ∨ j = 2 ∨ j = 3 ∨ j = 4 := by omega
  rcases hj5 with rfl | rfl | rfl | rfl | rfl
  · rw [h0]; cases r0 <;> simp at h ⊢; omega
  · rw [h1]; cases r0 <;> cases r1 <;> simp at h ⊢ <;> omega
  · rw [h2]; cases r0 <;> cases r1 <;> cases r2 <;> simp at h ⊢ <;> omega
  · rw [h3]; cases r0 <;> cases r1 <;> cases r2 <;> cases r3 <;> simp at h ⊢ <;> omega
  · rw [h4]; cases r0 <;> cases r1 <;> cases r2 <;> cases r3 <;> cases r4 <;> simp at h ⊢ <;> omega
/-- With so many rules met the error is a later one. -/
theorem chk_gt {N S T : Int} {ys : List Ar} (m : Nat) (hm : m ≤ 5) (h : ∀ j, j ≤ m → rule N S T ys j = true) : chkOf N S T ys = 0 ∨ 10 + (m : Int) < chkOf N S T ys := by
  unfold chkOf
  have h0 := h 0 (by omega)
  rw [h0]
  have hm5 : m = 0 ∨ m = 1 ∨ m = 2 ∨ m = 3 ∨ m = 4 ∨ m = 5 := by omega
  rcases hm5 with rfl | rfl | rfl | rfl | rfl | rfl
  · generalize rule N S T ys 1 = r1
    generalize rule N S T ys 2 = r2
    generalize rule N S T ys 3 = r3
    generalize rule N S T ys 4 = r4
    generalize rule N S T ys 5 = r5
    cases r1 <;> cases r2 <;> cases r3 <;> cases r4 <;> cases r5 <;> simp
  · rw [h 1 (by omega)]
    generalize rule N S T ys 2 = r2
    generalize rule N S T ys 3 = r3
    generalize rule N S T ys 4 = r4
    generalize rule N S T ys 5 = r5
    cases r2 <;> cases r3 <;> cases r4 <;> cases r5 <;> simp
  · rw [h 1 (by omega), h 2 (by omega)]
    generalize rule N S T ys 3 = r3
    generalize rule N S T ys 4 = r4
    generalize rule N S T ys 5 = r5
    cases r3 <;> cases r4 <;> cases r5 <;> simp
  · rw [h 1 (by omega), h 2 (by omega), h 3 (by omega)]
    generalize rule N S T ys 4 = r4
    generalize rule N S T ys 5 = r5
    cases r4 <;> cases r5 <;> simp
  · rw [h 1 (by omega), h 2 (by omega), h 3 (by omega), h 4 (by omega)]
    generalize rule N S T ys 5 = r5
    cases r5 <;> simp
  · rw [h 1 (by omega), h 2 (by omega), h 3 (by omega), h 4 (by omega), h 5 (by omega)]
    simp
def lvl (e : Int) : Nat := if e ≤ 9 then 0 else if e ≤ 11 then 1 else if e ≤ 12 then 2 else if e ≤ 13 then 3 else if e ≤ 14 then 4 else 5
theorem lvl_le (e : Int) : lvl e ≤ 5 := by
  unfold lvl
  repeat (split; omega)
  omega
theorem lvl_step {e e2 : Int} (h : e < e2) (h2 : e2 = 10 ∨ e2 = 12 ∨ e2 = 13 ∨ e2 = 14 ∨ e2 = 15) : lvl e + 1 ≤ lvl e2 := by
  rcases h2 with rfl | rfl | rfl | rfl | rfl <;> simp [lvl] <;> repeat (first | omega | split)
theorem capsOf_le (M : Int) (hM : 0 ≤ M) : ∀ ys : List Ar, (∀ x ∈ ys, x.c ≤ M) → capsOf ys ≤ ys.length * M
  | [], _ => by simp [capsOf]
  | x :: ys, h => by
    have h1 := capsOf_le M hM ys (fun y hy => h y (List.mem_cons_of_mem _ hy))
    have h2 := h x (by simp)
    simp only [capsOf, List.length_cons]
    have : ((ys.length + 1 : Nat) : Int) * M = ys.length * M + M := by rw [Int.natCast_add, Int.add_mul]; simp
    omega
theorem fix10 {S T : Int} {ys : List Ar} (hl : ys.length ≤ 300) {q : Int} (hq : 0 ≤ q ∧ q < 4000) : chkOf (2 + q) S T ys = 0 ∨ 10 < chkOf (2 + q) S T ys := by
  have := chk_gt (N := 2 + q) (S := S) (T := T) (ys := ys) 0 (by omega) (fun j hj => by
    obtain rfl : j = 0 := by omega
    simp [rule]; omega)
  simpa using this
theorem fix12 {N S T : Int} {ys : List Ar} (h : chkOf N S T ys = 12) : chkOf N 0 1 ys = 0 ∨ 12 < chkOf N 0 1 ys := by
  have hr := chk_is (m := 2) (by omega) (by simpa using h)
  have h0 := hr 0 (by omega)
  have h1 := hr 1 (by omega)
  have := chk_gt (N := N) (S := 0) (T := 1) (ys := ys) 2 (by omega) (fun j hj => by
    have hj3 : j = 0 ∨ j = 1 ∨ j = 2 := by omega
    rcases hj3 with rfl | rfl | rfl
    · exact h0
    · exact h1
    · simp [rule] at h0 ⊢; simp [inN]; omega)
  simpa using this
def fitA (N : Int) (am : Int → Int → Int) (x : Ar) : Ar := ⟨am x.f N, am x.t N, x.c⟩
theorem fix13 {N S T : Int} {ys : List Ar} (h : chkOf N S T ys = 13) {m : Int → Int → Int} (hm : ∀ x, 1 ≤ N → 0 ≤ m x N ∧ m x N < N) : chkOf N S T (ys.map (fitA N m)) = 0 ∨ 13 < chkOf N S T (ys.map (fitA N m)) := by
  have hr := chk_is (m := 3) (by omega) (by simpa using h)
  have h0 := hr 0 (by omega)
  have h1 := hr 1 (by omega)
  have h2 := hr 2 (by omega)
  have hN : 1 ≤ N := by simp [rule] at h0; omega
  have := chk_gt (N := N) (S := S) (T := T) (ys := ys.map (fitA N m)) 3 (by omega) (fun j hj => by
    have hj3 : j = 0 ∨ j = 1 ∨ j = 2 ∨ j = 3 := by omega
    rcases hj3 with rfl | rfl | rfl | rfl
    · exact h0
    · simpa [rule] using h1
    · exact h2
    · simp only [rule, List.all_map, List.all_eq_true]
      intro x hx
      simp [fitA, inN, hm x.f hN, hm x.t hN])
  simpa using this
def fitC (g : Int → Int) (x : Ar) : Ar := ⟨x.f, x.t, g x.c⟩
theorem fix14 {N S T : Int} {ys : List Ar} (h : chkOf N S T ys = 14) {g : Int → Int} (hg : ∀ x, 0 ≤ g x) : chkOf N S T (ys.map (fitC g)) = 0 ∨ 14 < chkOf N S T (ys.map (fitC g)) := by
  have hr := chk_is (m := 4) (by omega) (by simpa using h)
  have h0 := hr 0 (by omega)
  have h1 := hr 1 (by omega)
  have h2 := hr 2 (by omega)
  have h3 := hr 3 (by omega)
  have := chk_gt (N := N) (S := S) (T := T) (ys := ys.map (fitC g)) 4 (by omega) (fun j hj => by
    have hj3 : j = 0 ∨ j = 1 ∨ j = 2 ∨ j = 3 ∨ j = 4 := by omega
    rcases hj3 with rfl | rfl | rfl | rfl | rfl
    · exact h0
    · simpa [rule] using h1
    · exact h2
    · simp only [rule, List.all_map, List.all_eq_true] at h3 ⊢
      intro x hx
      exact h3 x hx
    · simp only [rule, List.all_map, List.all_eq_true]
      intro x hx
      simp [fitC, hg])
  simpa using this
theorem fix15 {N S T : Int} {ys : List Ar} (hl : ys.length ≤ 300) (h : chkOf N S T ys = 15) {g : Int → Int} (hg : ∀ x ∈ ys, 0 ≤ x.c → 0 ≤ g x.c ∧ g x.c ≤ 9007199254740992) : chkOf N S T (ys.map (fitC g)) = 0 ∨ 15 < chkOf N S T (ys.map (fitC g)) := by
  have hr := chk_is (m := 5) (by omega) (by simpa using h)
  have h0 := hr 0 (by omega)
  have h1 := hr 1 (by omega)
  have h2 := hr 2 (by omega)
  have h3 := hr 3 (by omega)
  have h4 := hr 4 (by omega)
  have hc : ∀ x ∈ ys, 0 ≤ x.c := by simpa [rule] using h4
  have := chk_gt (N := N) (S := S) (T := T) (ys := ys.map (fitC g)) 5 (by omega) (fun j hj => by
    have hj3 : j = 0 ∨ j = 1 ∨ j = 2 ∨ j = 3 ∨ j = 4 ∨ j = 5 := by omega
    rcases hj3 with rfl | rfl | rfl | rfl | rfl | rfl
    · exact h0
    · simpa [rule] using h1
    · exact h2
    · simp only [rule, List.all_map, List.all_eq_true] at h3 ⊢
      intro x hx
      exact h3 x hx
    · simp only [rule, List.all_map, List.all_eq_true]
      intro x hx
      simp [fitC, hg x hx (hc x hx)]
    · simp only [rule, sumB]
      have hall : ∀ x ∈ ys.map (fitC g), 0 ≤ x.c := by
        intro x hx
        obtain ⟨y, hy, rfl⟩ := List.mem_map.1 hx
        exact (hg y hy (hc y hy)).1
      have hle : ∀ x ∈ ys.map (fitC g), x.c ≤ 9007199254740992 := by
        intro x hx
        obtain ⟨y, hy, rfl⟩ := List.mem_map.1 hx
        exact (hg y hy (hc y hy)).2
      have h1 := capsOf_le 9007199254740992 (by omega) _ hle
      rw [List.length_map] at h1
      rw [leftOf_some _ _ (by omega) ⟨hall, by omega⟩]
      rfl)
  simpa using this
end Go.Proofs.Ytafabeehbifgaaa
