/- Each step of a thief, and of the owner, keeps what is known (XOnceP). Plain. -/
import Derived.Test.YtdgkemadhooogaaOnceP
namespace Go.Proofs.Ytdgkemadhooogaa
set_option linter.unusedVariables false
set_option linter.unusedSimpArgs false
open Go.RowKit

section
variable {tp r : Nat} {xs : List Int} {T : Int} {L : List Int}
/-- The owner's view, when a thief took the first one. -/
theorem OwnS.stolen {o : Option Sd} (h : OwnS tp r xs T L o) (hl : 1 + b2i (ownSure o) ≤ L.length) (h0 : 0 ≤ T) (hfit : tp + 2 + 2 ^ r ≤ xs.length) : OwnS tp r (bput xs (tp : Int) (T + 1)) (T + 1) L.tail o := by
  have hl1 : (L.tail.length : Int) = L.length - 1 := by
    have : b2i (ownSure o) ≥ 0 := by unfold b2i; split <;> omega
    simp
    omega
  cases o with
  | none => trivial
  | some d =>
    obtain ⟨kd, mb, m, lo⟩ := d
    obtain ⟨hd, q⟩ := h
    refine ⟨hd, ?_⟩
    cases kd with
    | steal => exact q
    | push v =>
      obtain ⟨q1, q2, q3, q4, q5, q6⟩ := q
      simp only at q1 q2 q3 q4 q5 q6
      refine ⟨q1, q2, fun e => ?_, fun e => ?_, fun e => ?_, q6⟩
      · have := q3 e; simp only; omega
      · have := q4 e; exact ⟨by simp only; omega, this.2⟩
      · have hs := slot_in tp r m.b
        have hf : 0 < 2 ^ r := Nat.pow_pos (by omega)
        simp only
        rw [bput_two (by omega) (by omega) (by omega)]
        exact q5 e
    | pop =>
      obtain ⟨q1, q2, q3, q4, q5, q6, q7, q8, q9⟩ := q
      simp only at q1 q2 q3 q4 q5 q6 q7 q8 q9
      refine ⟨q1, q2, fun e => ?_, q4, fun e => ?_, fun e1 e2 => ?_, fun e => ?_, fun e => ?_, q9⟩
      · have := q3 e; simp only; omega
      · have := q5 e; exact ⟨this.1, by simp only; omega⟩
      · simp only at e1 e2
        have hs : ownSure (some ⟨.pop, mb, m, lo⟩) = true := by simp [ownSure, e1, e2]
        rw [hs] at hl
        simp [b2i] at hl
        simp
        omega
      · have h7 := q7 e
        simp only at e
        have h5 := q5 (by omega)
        exact ⟨h7.1, fun e2 => by simp only at e2; omega⟩
      · have := q8 e; subst this; rfl
theorem thf_once {o : Option Sd} (hR : RowB tp r xs T L (ownDn o)) (hO : OwnS tp r xs T L o) (hn : T + L.length ≤ 1000) (m : DM) (mb : Nat) (lo : Bool) (hT : ThfS T L (ownSure o) (some ⟨.steal, mb, m, lo⟩)) :
    KInv tp .steal ⟨m, lo, xs⟩ ∧ ∃ (T' : Int) (L' : List Int), RowB tp r (kstep tp r .steal ⟨m, lo, xs⟩).xs T' L' (ownDn o) ∧ OwnS tp r (kstep tp r .steal ⟨m, lo, xs⟩).xs T' L' o ∧
      ((kstep tp r .steal ⟨m, lo, xs⟩).m.done = false → ThfS T' L' (ownSure o) (some ⟨.steal, mb, (kstep tp r .steal ⟨m, lo, xs⟩).m, (kstep tp r .steal ⟨m, lo, xs⟩).lo⟩)) ∧ (∀ x, ThfS T L (ownSure o) x → ThfS T' L' (ownSure o) x) ∧
      ((T' = T ∧ L' = L ∧ ((kstep tp r .steal ⟨m, lo, xs⟩).m.done = true → (kstep tp r .steal ⟨m, lo, xs⟩).m.got = false)) ∨
        (T' = T + 1 ∧ L = (kstep tp r .steal ⟨m, lo, xs⟩).m.x :: L' ∧ (kstep tp r .steal ⟨m, lo, xs⟩).m.done = true ∧ (kstep tp r .steal ⟨m, lo, xs⟩).m.got = true)) := by
  obtain ⟨a, t, b, x, dn, gt⟩ := m
  obtain ⟨h1, -, h3, h4, h5, h6, h7, h8, h9⟩ := hT
  simp only at h1 h3 h4 h5 h6 h7 h8 h9
  subst h1 h6 h7
  have hf := hR.fit2
  have h0 := hR.t0
  have htop := hR.top
  have hbot := hR.bot
  have hdn : b2i (ownSure o) ≤ b2i (ownDn o) := by
    cases o with
    | none => simp [ownSure, ownDn, b2i]
    | some d =>
      obtain ⟨kd, mb2, m2, lo2⟩ := d
      cases kd with
      | push v => simp [ownSure, ownDn, b2i]
      | steal => simp [ownSure, ownDn, b2i]
      | pop =>
        by_cases q : m2.a = 3 ∧ m2.t < m2.b
        · have e1 : ownSure (some ⟨.pop, mb2, m2, lo2⟩) = true := decide_eq_true q
          have e2 : ownDn (some ⟨.pop, mb2, m2, lo2⟩) = true := decide_eq_true (show 2 ≤ m2.a by omega)
          rw [e1, e2]
          exact Int.le_refl _
        · have e1 : ownSure (some ⟨.pop, mb2, m2, lo2⟩) = false := decide_eq_false q
          rw [e1]
          unfold b2i
          split <;> split <;> simp_all
  refine ⟨⟨fun _ => h3, ⟨h4, by simp only; omega⟩, by simp only; omega⟩, ?_⟩
  have ha : a = 0 ∨ a = 1 ∨ a = 2 ∨ a = 3 := by omega
  rcases ha with rfl | rfl | rfl | rfl
  · have e : kstep tp r .steal ⟨⟨0, t, b, x, false, false⟩, false, xs⟩ = ⟨⟨1, T, b, x, false, false⟩, false, xs⟩ := by simp [kstep, stealS, lostS, htop]
    rw [e]
    exact ⟨T, L, hR, hO, fun _ => ⟨rfl, rfl, by simp, h0, by simp only; omega, rfl, rfl, by simp, by simp⟩, fun x hx => hx, .inl ⟨rfl, rfl, fun h => by cases h⟩⟩
  · by_cases z : bget xs ((tp : Int) + 1) ≤ t
    · have e : kstep tp r .steal ⟨⟨1, t, b, x, false, false⟩, false, xs⟩ = ⟨⟨2, t, bget xs ((tp : Int) + 1), x, true, false⟩, false, xs⟩ := by simp [kstep, stealS, lostS, z]
      rw [e]
      exact ⟨T, L, hR, hO, fun h => (by cases h), fun x hx => hx, .inl ⟨rfl, rfl, fun _ => rfl⟩⟩
    · have e : kstep tp r .steal ⟨⟨1, t, b, x, false, false⟩, false, xs⟩ = ⟨⟨2, t, bget xs ((tp : Int) + 1), x, false, false⟩, false, xs⟩ := by simp [kstep, stealS, lostS, z]
      rw [e]
      refine ⟨T, L, hR, hO, fun _ => ⟨rfl, rfl, by simp, h4, h5, rfl, rfl, fun _ e2 => ?_, by simp⟩, fun x hx => hx, .inl ⟨rfl, rfl, fun h => by cases h⟩⟩
      simp only at e2
      omega
  · have e : kstep tp r .steal ⟨⟨2, t, b, x, false, false⟩, false, xs⟩ = ⟨⟨3, t, b, bget xs (slot tp r t), false, false⟩, false, xs⟩ := by simp [kstep, stealS, lostS]
    rw [e]
    refine ⟨T, L, hR, hO, fun _ => ⟨rfl, rfl, by simp, h4, h5, rfl, rfl, fun _ e2 => h8 (by omega) e2, fun _ e2 => ?_⟩, fun x hx => hx, .inl ⟨rfl, rfl, fun h => by cases h⟩⟩
    simp only at e2
    subst e2
    have h10 := h8 (by omega) rfl
    have hb : 0 ≤ b2i (ownSure o) := by unfold b2i; split <;> omega
    have := hR.cell 0 (by omega)
    rw [show t + ((0 : Nat) : Int) = t by omega] at this
    exact this.symm
  · by_cases z : bget xs (tp : Int) = t
    · have e : kstep tp r .steal ⟨⟨3, t, b, x, false, false⟩, false, xs⟩ = ⟨⟨4, t, b, x, true, true⟩, false, bput xs (tp : Int) (t + 1)⟩ := by simp [kstep, stealS, lostS, z]
      rw [e]
      obtain rfl : t = T := by omega
      have h10 := h8 (by omega) rfl
      have h11 := h9 rfl rfl
      have hb : 0 ≤ b2i (ownSure o) := by unfold b2i; split <;> omega
      refine ⟨t + 1, L.tail, hR.tail (by omega), hO.stolen h10 h0 hR.fit, fun h => (by cases h), fun x hx => hx.on, .inr ⟨rfl, ?_, rfl, rfl⟩⟩
      cases L with
      | nil => simp at h10; omega
      | cons y L => simp at h11; simp [h11]
    · have e : kstep tp r .steal ⟨⟨3, t, b, x, false, false⟩, false, xs⟩ = ⟨⟨4, t, b, x, true, false⟩, true, xs⟩ := by simp [kstep, stealS, lostS, z]
      rw [e]
      exact ⟨T, L, hR, hO, fun h => (by cases h), fun x hx => hx, .inl ⟨rfl, rfl, fun _ => rfl⟩⟩
/-- The owner's step: what is held, what the owner has, what is told. -/
def OwnNew (kd : Kd) (mb : Nat) (s : KS) : Option Sd := if s.m.done = true then none else some ⟨kd, mb, s.m, s.lo⟩
/-- What the step made of what is held. pushed, or of those held (and had) one was told. -/
def OwnEv (kd : Kd) (s : KS) (L L' : List Int) (pend pend' : List Int) : Prop := match kd with
  | .push v => pend = [] ∧ pend' = [] ∧ ((s.m.done = true ∧ s.m.got = true ∧ L' = L ++ [v]) ∨ (L' = L ∧ (s.m.done = true → s.m.got = false)))
  | _ => L'.Sublist L ∧ ((s.m.done = true ∧ s.m.got = true ∧ (L ++ pend).Perm (L' ++ pend' ++ [s.m.x])) ∨ ((s.m.done = true → s.m.got = false) ∧ (L ++ pend).Perm (L' ++ pend')))
theorem own_once (hn : T + L.length ≤ 1000) (kd : Kd) (m : DM) (mb : Nat) (lo : Bool) (hR : RowB tp r xs T L (ownDn (some ⟨kd, mb, m, lo⟩))) (hO : OwnS tp r xs T L (some ⟨kd, mb, m, lo⟩)) :
    KInv tp kd ⟨m, lo, xs⟩ ∧ ∃ (T' : Int) (L' : List Int), RowB tp r (kstep tp r kd ⟨m, lo, xs⟩).xs T' L' (ownDn (OwnNew kd mb (kstep tp r kd ⟨m, lo, xs⟩))) ∧ OwnS tp r (kstep tp r kd ⟨m, lo, xs⟩).xs T' L' (OwnNew kd mb (kstep tp r kd ⟨m, lo, xs⟩)) ∧
      (∀ x, ThfS T L (ownSure (some ⟨kd, mb, m, lo⟩)) x → ThfS T' L' (ownSure (OwnNew kd mb (kstep tp r kd ⟨m, lo, xs⟩))) x) ∧ T ≤ T' ∧ T' + L'.length ≤ T + L.length + 1 ∧
      OwnEv kd (kstep tp r kd ⟨m, lo, xs⟩) L L' (ownPend (some ⟨kd, mb, m, lo⟩)) (ownPend (OwnNew kd mb (kstep tp r kd ⟨m, lo, xs⟩))) := by
  obtain ⟨a, t, b, x, dn, gt⟩ := m
  obtain ⟨hd, q⟩ := hO
  simp only at hd
  subst hd
  have hf := hR.fit2
  have h0 := hR.t0
  have htop := hR.top
  have hbot := hR.bot
  cases kd with
  | steal => exact q.elim
  | push v =>
    obtain ⟨q1, q2, q3, q4, q5, q6⟩ := q
    simp only at q1 q2 q3 q4 q5 q6
    subst q6
    have hR0 : RowB tp r xs T L false := hR
    have hbot0 : bget xs ((tp : Int) + 1) = T + L.length := by have := hR0.bot; simpa [b2i] using this
    have hbb : 0 ≤ b ∧ b ≤ 1000 := by
      by_cases h : 1 ≤ a
      · have := q3 h; omega
      · have := q2 (by omega); omega
    have hsn : ∀ s, ownSure (OwnNew (.push v) mb s) = false := fun s => by unfold OwnNew; split <;> rfl
    have hdn : ∀ s, ownDn (OwnNew (.push v) mb s) = false := fun s => by unfold OwnNew; split <;> rfl
    have hpn : ∀ s, ownPend (OwnNew (.push v) mb s) = [] := fun s => by unfold OwnNew; split <;> rfl
    refine ⟨⟨fun _ => q1, ⟨by simp only; omega, by simp only; omega⟩, fun _ => hbb.1, by simp only; omega⟩, ?_⟩
    rw [hdn, hsn, hpn]
    show ∃ T' L', _ ∧ _ ∧ (∀ x, ThfS T L false x → _) ∧ _ ∧ _ ∧ _
    have ha : a = 0 ∨ a = 1 ∨ a = 2 ∨ a = 3 := by omega
    rcases ha with rfl | rfl | rfl | rfl
    · have e : kstep tp r (.push v) ⟨⟨0, t, b, x, false, false⟩, lo, xs⟩ = ⟨⟨1, t, T + L.length, x, false, false⟩, lo, xs⟩ := by simp [kstep, pushS, hbot0]
      rw [e]
      exact ⟨T, L, hR0, ⟨rfl, by simp, by simp, fun _ => rfl, by simp, by simp, rfl⟩, fun x hx => hx, Int.le_refl _, by omega, rfl, rfl, .inr ⟨rfl, fun h => by cases h⟩⟩
    · by_cases z : ((2 ^ r : Nat) : Int) ≤ b - bget xs (tp : Int)
      · have e : kstep tp r (.push v) ⟨⟨1, t, b, x, false, false⟩, lo, xs⟩ = ⟨⟨2, bget xs (tp : Int), b, x, true, false⟩, lo, xs⟩ := by
          simp only [kstep, pushS]
          rw [if_pos z]
          rfl
        rw [e]
        exact ⟨T, L, hR0, trivial, fun x hx => hx, Int.le_refl _, by omega, rfl, rfl, .inr ⟨rfl, fun _ => rfl⟩⟩
      · have e : kstep tp r (.push v) ⟨⟨1, t, b, x, false, false⟩, lo, xs⟩ = ⟨⟨2, bget xs (tp : Int), b, x, false, false⟩, lo, xs⟩ := by
          simp only [kstep, pushS]
          rw [if_neg z]
          rfl
        rw [e]
        exact ⟨T, L, hR0, ⟨rfl, by simp, by simp, fun _ => q3 (by omega), fun _ => ⟨by simp only; omega, by simp only; omega⟩, by simp, rfl⟩, fun x hx => hx, Int.le_refl _, by omega, rfl, rfl, .inr ⟨rfl, fun h => by cases h⟩⟩
    · have e : kstep tp r (.push v) ⟨⟨2, t, b, x, false, false⟩, lo, xs⟩ = ⟨⟨3, t, b, x, false, false⟩, lo, bput xs (slot tp r b) v⟩ := by simp [kstep, pushS]
      rw [e]
      obtain rfl : b = T + L.length := q3 (by omega)
      have h4 := q4 (by omega)
      have hlr : L.length < 2 ^ r := by omega
      obtain ⟨h1, h2⟩ := hR0.setSlot hlr v
      exact ⟨T, L, h1, ⟨rfl, by simp, by simp, fun _ => rfl, fun _ => h4, fun _ => h2, rfl⟩, fun x hx => hx, Int.le_refl _, by omega, rfl, rfl, .inr ⟨rfl, fun h => by cases h⟩⟩
    · have e : kstep tp r (.push v) ⟨⟨3, t, b, x, false, false⟩, lo, xs⟩ = ⟨⟨4, t, b, x, true, true⟩, lo, bput xs ((tp : Int) + 1) (b + 1)⟩ := by simp [kstep, pushS]
      rw [e]
      obtain rfl : b = T + L.length := q3 (by omega)
      have h4 := q4 (by omega)
      have hlr : L.length < 2 ^ r := by omega
      refine ⟨T, L ++ [v], hR0.grow hlr v (q5 rfl), trivial, fun x hx => hx.own fun h => ?_, Int.le_refl _, by simp; omega, rfl, rfl, .inl ⟨rfl, rfl, rfl⟩⟩
      have h1 : 1 ≤ L.length := by simp [b2i] at h; omega
      exact ⟨by simp [b2i]; omega, by cases L with | nil => simp at h1 | cons y L => rfl⟩
  | pop =>
    obtain ⟨q1, q2, q3, q4, q5, q6, q7, q8, q9⟩ := q
    simp only at q1 q2 q3 q4 q5 q6 q7 q8 q9
    have hbb : -1 ≤ b ∧ b ≤ 1000 := by
      by_cases h : 1 ≤ a
      · have := q3 h; omega
      · have := q2 (by omega); omega
    have htt : 0 ≤ t ∧ t ≤ 1000 := by
      by_cases h : a ≤ 2
      · have := q4 h; omega
      · have := q5 (by omega); omega
    refine ⟨⟨fun _ => q1, ⟨by simp only; omega, by simp only; omega⟩, ⟨by simp only; omega, by simp only; omega⟩, fun e => ?_, by simp only; omega⟩, ?_⟩
    · simp only at e
      subst e
      have h := hR.bot
      simp [ownDn, b2i] at h
      simp only
      omega
    have ha : a = 0 ∨ a = 1 ∨ a = 2 ∨ a = 3 ∨ a = 4 ∨ a = 5 := by omega
    rcases ha with rfl | rfl | rfl | rfl | rfl | rfl
    · have hR0 : RowB tp r xs T L false := hR
      have hbot0 : bget xs ((tp : Int) + 1) = T + L.length := by have := hR0.bot; simpa [b2i] using this
      have e : kstep tp r .pop ⟨⟨0, t, b, x, false, gt⟩, lo, xs⟩ = ⟨⟨1, t, T + L.length - 1, x, false, gt⟩, lo, xs⟩ := by simp [kstep, popS, hbot0]
      rw [e]
      exact ⟨T, L, hR0, ⟨rfl, by simp, by simp, fun _ => rfl, fun _ => q4 (by omega), by simp, by simp, by simp, by simp, fun _ => q9 (by omega)⟩, fun y hy => hy, Int.le_refl _, by omega, List.Sublist.refl _, .inr ⟨fun h => (by cases h), List.Perm.refl _⟩⟩
    · have hR0 : RowB tp r xs T L false := hR
      have e : kstep tp r .pop ⟨⟨1, t, b, x, false, gt⟩, lo, xs⟩ = ⟨⟨2, t, b, x, false, gt⟩, lo, bput xs ((tp : Int) + 1) b⟩ := by simp [kstep, popS]
      rw [e]
      have h3 := q3 (by omega)
      exact ⟨T, L, hR0.setBot true b (by simp [b2i]; omega), ⟨rfl, by simp, by simp, fun _ => h3, fun _ => q4 (by omega), by simp, by simp, by simp, by simp, fun _ => q9 (by omega)⟩, fun y hy => hy, Int.le_refl _, by omega, List.Sublist.refl _, .inr ⟨fun h => (by cases h), List.Perm.refl _⟩⟩
    · have hR1 : RowB tp r xs T L true := hR
      have e : kstep tp r .pop ⟨⟨2, t, b, x, false, gt⟩, lo, xs⟩ = ⟨⟨3, T, b, x, false, gt⟩, lo, xs⟩ := by simp [kstep, popS, htop]
      rw [e]
      have h3 := q3 (by omega)
      refine ⟨T, L, hR1, ⟨rfl, by simp, by simp, fun _ => h3, by simp, fun _ => ⟨h0, Int.le_refl _⟩, fun _ h => by simp only at h; omega, by simp, by simp, fun _ => q9 (by omega)⟩, fun y hy => hy.own fun h => ⟨?_, rfl⟩, Int.le_refl _, by omega, List.Sublist.refl _, .inr ⟨fun h => (by cases h), List.Perm.refl _⟩⟩
      have hb : ownSure (some ⟨.pop, mb, ⟨2, t, b, x, false, gt⟩, lo⟩) = false := rfl
      rw [hb] at h
      simp [b2i] at h
      show 1 + b2i (decide ((3 : Int) = 3 ∧ T < b)) ≤ _
      by_cases z : T < b
      · rw [decide_eq_true ⟨rfl, z⟩]; simp [b2i]; omega
      · rw [decide_eq_false (fun h => z h.2)]; simp [b2i]; omega
    · have hR1 : RowB tp r xs T L true := hR
      have h3 := q3 (by omega)
      have h5 := q5 (by omega)
      obtain rfl := q9 (by omega)
      by_cases z : b < t
      · have e : kstep tp r .pop ⟨⟨3, t, b, x, false, false⟩, lo, xs⟩ = ⟨⟨4, t, b, x, true, false⟩, lo, bput xs ((tp : Int) + 1) (b + 1)⟩ := by simp [kstep, popS, z]
        rw [e]
        have hL : L.length = 0 := by omega
        refine ⟨T, L, hR1.setBot false (b + 1) (by simp [b2i]; omega), trivial, fun y hy => hy.own fun h => ?_, Int.le_refl _, by omega, List.Sublist.refl _, .inr ⟨fun _ => rfl, List.Perm.refl _⟩⟩
        have hb : 0 ≤ b2i (ownSure (some ⟨.pop, mb, ⟨3, t, b, x, false, false⟩, lo⟩)) := by unfold b2i; split <;> omega
        exact absurd h (by omega)
      · by_cases z2 : t < b
        · have e : kstep tp r .pop ⟨⟨3, t, b, x, false, false⟩, lo, xs⟩ = ⟨⟨4, t, b, bget xs (slot tp r b), true, true⟩, lo, xs⟩ := by simp [kstep, popS, z, z2]
          rw [e]
          have h6 := q6 rfl z2
          have hc := hR1.cell (L.length - 1) (by omega)
          rw [show T + ((L.length - 1 : Nat) : Int) = b by omega] at hc
          have hLe : L = L.dropLast ++ [L.getD (L.length - 1) 0] := by
            have hne : L ≠ [] := by intro e; rw [e] at h6; simp at h6
            have h7 := List.dropLast_concat_getLast hne
            rw [List.getLast_eq_getElem hne] at h7
            simp [List.getD, show L.length - 1 < L.length from by omega]
            exact h7.symm
          refine ⟨T, L.dropLast, hR1.dropLast h6, trivial, fun y hy => hy.own fun h => ?_, Int.le_refl _, by simp; omega, List.dropLast_sublist L, .inl ⟨rfl, rfl, ?_⟩⟩
          · have hb : ownSure (some ⟨.pop, mb, ⟨3, t, b, x, false, false⟩, lo⟩) = true := decide_eq_true ⟨rfl, z2⟩
            rw [hb] at h
            simp [b2i] at h
            refine ⟨by simp [b2i, OwnNew, ownSure]; omega, ?_⟩
            have hl1 : 0 < L.length - 1 := by omega
            rw [List.getD_eq_getElem?_getD, List.getD_eq_getElem?_getD, List.dropLast_eq_take, List.getElem?_take, if_pos hl1]
          · rw [hc]
            show (L ++ []).Perm (L.dropLast ++ [] ++ [L.getD (L.length - 1) 0])
            rw [List.append_nil, List.append_nil, ← hLe]
        · have e : kstep tp r .pop ⟨⟨3, t, b, x, false, false⟩, lo, xs⟩ = ⟨⟨4, t, b, bget xs (slot tp r b), false, false⟩, lo, xs⟩ := by simp [kstep, popS, z, z2]
          rw [e]
          refine ⟨T, L, hR1, ⟨rfl, by simp, by simp, fun _ => h3, by simp, fun _ => h5, by simp, fun _ => ⟨by simp only; omega, fun e2 => ?_⟩, by simp, fun _ => rfl⟩, fun y hy => hy.own fun h => ⟨?_, rfl⟩, Int.le_refl _, by omega, List.Sublist.refl _, .inr ⟨fun h => (by cases h), List.Perm.refl _⟩⟩
          · simp only at e2 ⊢
            have hl1 : L.length = 1 := by omega
            obtain ⟨y, rfl⟩ := List.length_eq_one_iff.1 hl1
            have hc := hR1.cell 0 (by simp)
            rw [show T + ((0 : Nat) : Int) = b by omega] at hc
            rw [hc]
            rfl
          · have hb : 0 ≤ b2i (ownSure (some ⟨.pop, mb, ⟨3, t, b, x, false, false⟩, lo⟩)) := by unfold b2i; split <;> omega
            have hb2 : ownSure (OwnNew .pop mb ⟨⟨4, t, b, bget xs (slot tp r b), false, false⟩, lo, xs⟩) = false := rfl
            rw [hb2]
            simp [b2i] at h ⊢
            omega
    · have hR1 : RowB tp r xs T L true := hR
      have h3 := q3 (by omega)
      have h5 := q5 (by omega)
      obtain ⟨rfl, h7⟩ := q7 rfl
      obtain rfl := q9 (by omega)
      by_cases z : T = t
      · have e : kstep tp r .pop ⟨⟨4, t, t, x, false, false⟩, lo, xs⟩ = ⟨⟨5, t, t, x, false, true⟩, lo, bput xs (tp : Int) (t + 1)⟩ := by simp [kstep, popS, htop, z]
        rw [e]
        have hL := h7 z
        subst hL
        subst z
        refine ⟨T + 1, [], hR1.tail (by simp), ⟨rfl, by simp, by simp, fun _ => by simp only [List.length_nil]; omega, by simp, fun _ => ⟨h0, by simp only; omega⟩, by simp, by simp, fun _ => rfl, by simp⟩, fun y hy => hy.on, by omega, by simp only [List.length_nil, List.length_singleton]; omega, List.nil_sublist _, .inr ⟨fun h => (by cases h), List.Perm.refl _⟩⟩
      · have e : kstep tp r .pop ⟨⟨4, t, t, x, false, false⟩, lo, xs⟩ = ⟨⟨5, t, t, x, false, false⟩, lo, xs⟩ := by simp [kstep, popS, htop, z]
        rw [e]
        have hL : L = [] := List.eq_nil_of_length_eq_zero (by omega)
        exact ⟨T, L, hR1, ⟨rfl, by simp, by simp, fun _ => h3, by simp, fun _ => h5, by simp, by simp, fun _ => hL, by simp⟩, fun y hy => hy, Int.le_refl _, by omega, List.Sublist.refl _, .inr ⟨fun h => (by cases h), List.Perm.refl _⟩⟩
    · have hR1 : RowB tp r xs T L true := hR
      have h3 := q3 (by omega)
      have hL := q8 rfl
      subst hL
      have e : kstep tp r .pop ⟨⟨5, t, b, x, false, gt⟩, lo, xs⟩ = ⟨⟨6, t, b, x, true, gt⟩, lo, bput xs ((tp : Int) + 1) (b + 1)⟩ := by simp [kstep, popS]
      rw [e]
      refine ⟨T, [], hR1.setBot false (b + 1) (by simp [b2i] at h3 ⊢; omega), trivial, fun y hy => hy, Int.le_refl _, by simp only [List.length_nil]; omega, List.Sublist.refl _, ?_⟩
      cases gt with
      | true => exact .inl ⟨rfl, rfl, List.Perm.refl _⟩
      | false => exact .inr ⟨fun _ => rfl, List.Perm.refl _⟩
end
end Go.Proofs.Ytdgkemadhooogaa
