/- All sides and the log: the start, a new machine, the end. Plain. -/
import Derived.Test.YtdgkemadhooogaaOnceR
namespace Go.Proofs.Ytdgkemadhooogaa
set_option linter.unusedVariables false
set_option linter.unusedSimpArgs false
open Go.RowKit

theorem RowB.zero {tp r S : Nat} (h : tp + 2 + 2 ^ r ≤ S) : RowB tp r (List.replicate S 0) 0 [] false := by
  have g : ∀ i : Int, 0 ≤ i → bget (List.replicate S 0) i = 0 := fun i hi => by
    rw [bget_in hi]
    simp [List.getD, List.getElem?_replicate]
    split <;> rfl
  exact ⟨by rw [List.length_replicate]; exact h, by omega, by simp, g _ (by omega), by rw [g _ (by omega)]; simp [b2i], fun j hj => by simp at hj⟩
theorem DI.start {tp r S : Nat} (h : tp + 2 + 2 ^ r ≤ S) : DI 0 0 tp r [] [] [] 0 [] (List.replicate S 0) none (List.replicate 5 none) := by
  refine ⟨RowB.zero h, trivial, fun i x _ hx => ?_, rfl, rfl, ⟨by simp, by simp, fun v mb m lo e => (by cases e), by simp [ownPend], by simp, by simp⟩, by simp⟩
  have := List.mem_of_getElem? hx
  obtain rfl := (List.mem_replicate.1 this).2
  trivial
section
variable {nx n : Int} {tp r : Nat} {P G S : List Int} {T : Int} {L xs : List Int} {o : Option Sd} {sides : List (Option Sd)}
theorem DI.mono (h : DI nx n tp r P G S T L xs o sides) {m : Int} (hm : n ≤ m) : DI nx m tp r P G S T L xs o sides := ⟨h.row, h.own, h.th, h.len, h.ho, h.log, by have := h.bd; omega⟩
/-- A thief begins. -/
theorem DI.thief (h : DI nx n tp r P G S T L xs o sides) {i : Nat} (hi : 1 ≤ i) (hi5 : i < 5) (mb : Nat) : DI nx n tp r P G S T L xs o (sides.set i (some ⟨.steal, mb, ⟨0, 0, 0, 0, false, false⟩, false⟩)) := by
  refine ⟨h.row, h.own, fun j x hj hx => ?_, by rw [List.length_set]; exact h.len, by rw [List.getElem?_set_ne (by omega)]; exact h.ho, h.log, h.bd⟩
  rw [List.getElem?_set] at hx
  split at hx
  · split at hx
    · cases hx
      exact ⟨rfl, rfl, by simp, by simp, h.row.t0, rfl, rfl, by simp, by simp⟩
    · cases hx
  · exact h.th j x hj hx
/-- The owner begins a pop. -/
theorem DI.pop (h : DI nx n tp r P G S T L xs none sides) (mb : Nat) : DI nx n tp r P G S T L xs (some ⟨.pop, mb, ⟨0, 0, 0, 0, false, false⟩, false⟩) (sides.set 0 (some ⟨.pop, mb, ⟨0, 0, 0, 0, false, false⟩, false⟩)) := by
  have hl := h.len
  refine ⟨h.row, ⟨rfl, by simp, by simp, by simp, by simp, by simp, by simp, by simp, by simp, by simp⟩, fun j x hj hx => ?_, by rw [List.length_set]; exact hl, List.getElem?_set_self (by omega), ?_, h.bd⟩
  · rw [List.getElem?_set_ne (by omega)] at hx
    exact h.th j x hj hx
  · have := h.log
    exact ⟨this.srt, this.le, fun v mb m lo e => (by cases e), this.perm, this.ssrt, this.sub⟩
/-- The owner begins a push of the next number. -/
theorem DI.push (h : DI nx n tp r P G S T L xs none sides) (mb : Nat) : DI (nx + 1) (n + 1) tp r P G S T L xs (some ⟨.push (nx + 1), mb, ⟨0, 0, 0, 0, false, false⟩, false⟩) (sides.set 0 (some ⟨.push (nx + 1), mb, ⟨0, 0, 0, 0, false, false⟩, false⟩)) := by
  have hl := h.len
  have hb := h.bd
  refine ⟨h.row, ⟨rfl, by simp, by simp, by simp, by simp, by simp, rfl⟩, fun j x hj hx => ?_, by rw [List.length_set]; exact hl, List.getElem?_set_self (by omega), ?_, by omega⟩
  · rw [List.getElem?_set_ne (by omega)] at hx
    exact h.th j x hj hx
  · have q := h.log
    refine ⟨q.srt, fun x hx => by have := q.le x hx; omega, fun v mb' m lo e => ?_, q.perm, q.ssrt, q.sub⟩
    cases e
    exact ⟨rfl, by omega, fun x hx => by have := q.le x hx; omega⟩
/-- Nobody is within. -/
theorem DI.end_ (h : DI nx n tp r P G S T L xs none sides) (hn : n ≤ 1000) : Row tp r xs T L ∧ P.filter (fun v => !(G.contains v)) = L ∧ G.Nodup ∧ (∀ x ∈ G, x ∈ P ∧ 1 ≤ x ∧ x ≤ nx) ∧ S.Pairwise (· < ·) := by
  have hb := h.bd
  obtain ⟨h1, h2, h3, h4⟩ := LogI.left h.log
  exact ⟨h.row.row (by omega), h1, h2, fun x hx => ⟨h3 x hx, h.log.le x (h3 x hx)⟩, h4⟩
/-- How far a machine is: it ends within six steps. -/
theorem DI.far (h : DI nx n tp r P G S T L xs o sides) {i : Nat} {d : Sd} (hd : sides[i]? = some (some d)) : d.m.done = false ∧ 0 ≤ d.m.a ∧ d.m.a ≤ 5 := by
  by_cases hi : i = 0
  · subst hi
    have hho := h.ho
    rw [hd] at hho
    obtain rfl := Option.some.inj hho
    obtain ⟨q1, q2⟩ := h.own
    refine ⟨q1, ?_⟩
    obtain ⟨kd, mb, m, lo⟩ := d
    cases kd with
    | push v => have := q2.1; simp only at this ⊢; omega
    | pop => have := q2.1; simp only at this ⊢; omega
    | steal => exact q2.elim
  · have hT := h.th i _ (by omega) hd
    obtain ⟨q1, q2, q3, -⟩ := hT
    exact ⟨q1, by omega⟩
theorem step_up (tp r : Nat) (kd : Kd) (s : KS) (h : s.m.done = false) : (kstep tp r kd s).m.a = s.m.a + 1 := by
  cases kd with
  | push v =>
    simp only [kstep, pushS, h]
    split
    · contradiction
    split
    · rename_i e; simp only [e]; rfl
    split
    · rename_i e
      split <;> (simp only [e]; rfl)
    split
    · rename_i e; simp only [e]; rfl
    · rfl
  | pop =>
    simp only [kstep, popS, h]
    split
    · contradiction
    split
    · rename_i e; simp only [e]; rfl
    split
    · rename_i e; simp only [e]; rfl
    split
    · rename_i e; simp only [e]; rfl
    split
    · rename_i e
      split
      · simp only [e]; rfl
      · split <;> (simp only [e]; rfl)
    split
    · rename_i e; simp only [e]; rfl
    · rfl
  | steal =>
    simp only [kstep, stealS, h]
    split
    · contradiction
    split
    · rename_i e; simp only [e]; rfl
    split
    · rename_i e
      split <;> (simp only [e]; rfl)
    split
    · rename_i e; simp only [e]; rfl
    · rfl
end
end Go.Proofs.Ytdgkemadhooogaa
