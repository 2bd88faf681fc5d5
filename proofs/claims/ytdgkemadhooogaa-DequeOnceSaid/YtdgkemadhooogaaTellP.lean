/- An owner and thieves at one deque, their steps in any order: what holds all along. Plain. -/
import Derived.Test.YtdgkemadhooogaaRefStep11A
namespace Go.Proofs.Ytdgkemadhooogaa
set_option linter.unusedVariables false
set_option linter.unusedSimpArgs false
open Go.RowKit

/-- A machine: its kind, its box, where it is. -/
structure Sd where
  kd : Kd
  mb : Nat
  m : DM
  lo : Bool
/-- The owner's. -/
def OwnOk (n : Int) (bot : Int) : Option Sd → Prop
  | none => 0 ≤ bot
  | some d => (d.m.done = true → 0 ≤ bot) ∧ (d.m.done = false → match d.kd with
    | .push _ => (0 ≤ d.m.a ∧ d.m.a ≤ 3) ∧ 0 ≤ bot ∧ (1 ≤ d.m.a → d.m.b = bot) ∧ (d.m.a = 0 → d.m.b = 0) ∧ d.m.got = false
    | .pop => (0 ≤ d.m.a ∧ d.m.a ≤ 5) ∧ (d.m.a ≤ 1 → 0 ≤ bot) ∧ (d.m.a = 0 → d.m.b = 0) ∧ (d.m.a = 1 → d.m.b = bot - 1) ∧ (2 ≤ d.m.a → d.m.b = bot) ∧ (d.m.a ≤ 2 → d.m.t = 0) ∧ (3 ≤ d.m.a → 0 ≤ d.m.t ∧ d.m.t ≤ n) ∧ (4 ≤ d.m.a → d.m.t ≤ d.m.b) ∧ (d.m.a ≤ 4 → d.m.got = false)
    | .steal => False)
/-- A thief's. -/
def ThfOk (n : Int) : Option Sd → Prop
  | none => True
  | some d => d.kd = .steal ∧ (d.m.done = false → (0 ≤ d.m.a ∧ d.m.a ≤ 3) ∧ (0 ≤ d.m.t ∧ d.m.t ≤ n) ∧ d.m.got = false ∧ d.lo = false)
structure BankOk (n : Int) (tp r : Nat) (xs : List Int) : Prop where
  fit : tp + 2 + 2 ^ r ≤ xs.length
  top : 0 ≤ bget xs (tp : Int) ∧ bget xs (tp : Int) ≤ n
  bot : -1 ≤ bget xs ((tp : Int) + 1) ∧ bget xs ((tp : Int) + 1) ≤ n
theorem OwnOk.mono {n m bot : Int} {x : Option Sd} (h : OwnOk n bot x) (hm : n ≤ m) : OwnOk m bot x := by
  cases x with
  | none => exact h
  | some d =>
    refine ⟨h.1, fun hd => ?_⟩
    have h2 := h.2 hd
    obtain ⟨kd, mb, dm, lo⟩ := d
    cases kd with
    | push v => exact h2
    | pop =>
      obtain ⟨q1, q2, q3, q4, q5, q6, q7, q8, q9⟩ := h2
      exact ⟨q1, q2, q3, q4, q5, q6, fun e => ⟨(q7 e).1, by have := (q7 e).2; omega⟩, q8, q9⟩
    | steal => exact h2
theorem ThfOk.mono {n m : Int} {x : Option Sd} (h : ThfOk n x) (hm : n ≤ m) : ThfOk m x := by
  cases x with
  | none => trivial
  | some d => exact ⟨h.1, fun hd => by obtain ⟨q1, q2, q3⟩ := h.2 hd; exact ⟨q1, ⟨q2.1, by omega⟩, q3⟩⟩
section
variable {n : Int} {tp r : Nat} {xs : List Int}
theorem BankOk.mono {m : Int} (h : BankOk n tp r xs) (hm : n ≤ m) : BankOk m tp r xs := ⟨h.fit, ⟨h.top.1, by have := h.top.2; omega⟩, ⟨h.bot.1, by have := h.bot.2; omega⟩⟩
theorem BankOk.fit2 (h : BankOk n tp r xs) : tp + 2 < xs.length := by
  have := h.fit
  have : 0 < 2 ^ r := Nat.pow_pos (by omega)
  omega
theorem BankOk.slot (h : BankOk n tp r xs) (j v : Int) : BankOk n tp r (bput xs (slot tp r j) v) ∧ bget (bput xs (Go.Proofs.Ytdgkemadhooogaa.slot tp r j) v) ((tp : Int) + 1) = bget xs ((tp : Int) + 1) := by
  have hs := slot_in tp r j
  have e1 := bput_two (xs := xs) (i := Go.Proofs.Ytdgkemadhooogaa.slot tp r j) (j := (tp : Int)) (v := v) (by omega) (by omega) (by omega)
  have e2 := bput_two (xs := xs) (i := Go.Proofs.Ytdgkemadhooogaa.slot tp r j) (j := (tp : Int) + 1) (v := v) (by omega) (by omega) (by omega)
  exact ⟨⟨by rw [bput_len]; exact h.fit, by rw [e1]; exact h.top, by rw [e2]; exact h.bot⟩, e2⟩
theorem BankOk.setBot (h : BankOk n tp r xs) (b : Int) (hb : -1 ≤ b ∧ b ≤ n) : BankOk n tp r (bput xs ((tp : Int) + 1) b) ∧ bget (bput xs ((tp : Int) + 1) b) ((tp : Int) + 1) = b := by
  have hf := h.fit2
  have e1 := bput_two (xs := xs) (i := (tp : Int) + 1) (j := (tp : Int)) (v := b) (by omega) (by omega) (by omega)
  have e2 := bput_self (xs := xs) (i := (tp : Int) + 1) (v := b) (by omega) (by omega)
  exact ⟨⟨by rw [bput_len]; exact h.fit, by rw [e1]; exact h.top, by rw [e2]; exact hb⟩, e2⟩
theorem BankOk.setTop (h : BankOk n tp r xs) (t : Int) (ht : 0 ≤ t ∧ t ≤ n) : BankOk n tp r (bput xs (tp : Int) t) ∧ bget (bput xs (tp : Int) t) ((tp : Int) + 1) = bget xs ((tp : Int) + 1) := by
  have hf := h.fit2
  have e1 := bput_self (xs := xs) (i := (tp : Int)) (v := t) (by omega) (by omega)
  have e2 := bput_two (xs := xs) (i := (tp : Int)) (j := (tp : Int) + 1) (v := t) (by omega) (by omega) (by omega)
  exact ⟨⟨by rw [bput_len]; exact h.fit, by rw [e1]; exact ht, by rw [e2]; exact h.bot⟩, e2⟩
/-- A thief's step. -/
theorem thf_step (hB : BankOk n tp r xs) (hn : 0 ≤ n ∧ n ≤ 1000) (m : DM) (mb : Nat) (lo : Bool) (hT : ThfOk n (some ⟨.steal, mb, m, lo⟩)) (hd : m.done = false) :
    RInv tp .steal ⟨m, lo, xs⟩ ∧ BankOk (n + 1) tp r (kstep tp r .steal ⟨m, lo, xs⟩).xs ∧ ThfOk (n + 1) (some ⟨.steal, mb, (kstep tp r .steal ⟨m, lo, xs⟩).m, (kstep tp r .steal ⟨m, lo, xs⟩).lo⟩) ∧ bget (kstep tp r .steal ⟨m, lo, xs⟩).xs ((tp : Int) + 1) = bget xs ((tp : Int) + 1) := by
  obtain ⟨a, t, b, x, dn, gt⟩ := m
  obtain ⟨-, q⟩ := hT
  simp only at hd
  subst hd
  obtain ⟨q1, q2, q3, q4⟩ := q rfl
  simp only at q1 q2 q3 q4
  subst q3 q4
  have hf := hB.fit2
  have hB1 := hB.mono (m := n + 1) (by omega)
  have htp := hB.top
  refine ⟨⟨⟨fun _ => q1, ⟨by simp only; omega, by simp only; omega⟩, by simp only; omega⟩, fun _ => ⟨rfl, rfl⟩⟩, ?_⟩
  have ha : a = 0 ∨ a = 1 ∨ a = 2 ∨ a = 3 := by omega
  rcases ha with rfl | rfl | rfl | rfl
  · have e : kstep tp r .steal ⟨⟨0, t, b, x, false, false⟩, false, xs⟩ = ⟨⟨1, bget xs (tp : Int), b, x, false, false⟩, false, xs⟩ := by simp [kstep, stealS, lostS]
    rw [e]
    exact ⟨hB1, ⟨rfl, fun _ => ⟨by simp, ⟨by simp only; omega, by simp only; omega⟩, rfl, rfl⟩⟩, rfl⟩
  · by_cases z : bget xs ((tp : Int) + 1) ≤ t
    · have e : kstep tp r .steal ⟨⟨1, t, b, x, false, false⟩, false, xs⟩ = ⟨⟨2, t, bget xs ((tp : Int) + 1), x, true, false⟩, false, xs⟩ := by simp [kstep, stealS, lostS, z]
      rw [e]
      exact ⟨hB1, ⟨rfl, fun h => by cases h⟩, rfl⟩
    · have e : kstep tp r .steal ⟨⟨1, t, b, x, false, false⟩, false, xs⟩ = ⟨⟨2, t, bget xs ((tp : Int) + 1), x, false, false⟩, false, xs⟩ := by simp [kstep, stealS, lostS, z]
      rw [e]
      exact ⟨hB1, ⟨rfl, fun _ => ⟨by simp, ⟨by simp only; omega, by simp only; omega⟩, rfl, rfl⟩⟩, rfl⟩
  · have e : kstep tp r .steal ⟨⟨2, t, b, x, false, false⟩, false, xs⟩ = ⟨⟨3, t, b, bget xs (slot tp r t), false, false⟩, false, xs⟩ := by simp [kstep, stealS, lostS]
    rw [e]
    exact ⟨hB1, ⟨rfl, fun _ => ⟨by simp, ⟨by simp only; omega, by simp only; omega⟩, rfl, rfl⟩⟩, rfl⟩
  · by_cases z : bget xs (tp : Int) = t
    · have e : kstep tp r .steal ⟨⟨3, t, b, x, false, false⟩, false, xs⟩ = ⟨⟨4, t, b, x, true, true⟩, false, bput xs (tp : Int) (t + 1)⟩ := by simp [kstep, stealS, lostS, z]
      rw [e]
      obtain ⟨h1, h2⟩ := hB1.setTop (t + 1) (by omega)
      exact ⟨h1, ⟨rfl, fun h => by cases h⟩, h2⟩
    · have e : kstep tp r .steal ⟨⟨3, t, b, x, false, false⟩, false, xs⟩ = ⟨⟨4, t, b, x, true, false⟩, true, xs⟩ := by simp [kstep, stealS, lostS, z]
      rw [e]
      exact ⟨hB1, ⟨rfl, fun h => by cases h⟩, rfl⟩
/-- The owner's. -/
theorem own_step (hB : BankOk n tp r xs) (hn : 0 ≤ n ∧ n ≤ 1000) (kd : Kd) (m : DM) (mb : Nat) (lo : Bool) (hO : OwnOk n (bget xs ((tp : Int) + 1)) (some ⟨kd, mb, m, lo⟩)) (hd : m.done = false) :
    RInv tp kd ⟨m, lo, xs⟩ ∧ BankOk (n + 1) tp r (kstep tp r kd ⟨m, lo, xs⟩).xs ∧ OwnOk (n + 1) (bget (kstep tp r kd ⟨m, lo, xs⟩).xs ((tp : Int) + 1)) (some ⟨kd, mb, (kstep tp r kd ⟨m, lo, xs⟩).m, (kstep tp r kd ⟨m, lo, xs⟩).lo⟩) := by
  obtain ⟨a, t, b, x, dn, gt⟩ := m
  simp only at hd
  subst hd
  have q := hO.2 rfl
  have hf := hB.fit2
  have hB1 := hB.mono (m := n + 1) (by omega)
  have htp := hB.top
  have hbt := hB.bot
  cases kd with
  | steal => exact q.elim
  | push v =>
    obtain ⟨q1, q2, q3, q4, q5⟩ := q
    simp only at q1 q2 q3 q4 q5
    subst q5
    refine ⟨⟨⟨fun _ => q1, ⟨?_, ?_⟩, fun e => ?_, ?_⟩, fun _ => ⟨rfl, fun e => ?_⟩⟩, ?_⟩
    · by_cases h : 1 ≤ a
      · have := q3 h; simp only; omega
      · have := q4 (by omega); simp only; omega
    · by_cases h : 1 ≤ a
      · have := q3 h; simp only; omega
      · have := q4 (by omega); simp only; omega
    · simp only at e
      have := q3 (by omega)
      simp only
      omega
    · simp only; omega
    · simp only at e
      have := q3 (by omega)
      simp only
      omega
    have ha : a = 0 ∨ a = 1 ∨ a = 2 ∨ a = 3 := by omega
    rcases ha with rfl | rfl | rfl | rfl
    · have e : kstep tp r (.push v) ⟨⟨0, t, b, x, false, false⟩, lo, xs⟩ = ⟨⟨1, t, bget xs ((tp : Int) + 1), x, false, false⟩, lo, xs⟩ := by simp [kstep, pushS]
      rw [e]
      exact ⟨hB1, ⟨fun h => (by cases h), fun _ => ⟨by simp, q2, fun _ => rfl, by simp, rfl⟩⟩⟩
    · by_cases z : ((2 ^ r : Nat) : Int) ≤ b - bget xs (tp : Int)
      · have e : kstep tp r (.push v) ⟨⟨1, t, b, x, false, false⟩, lo, xs⟩ = ⟨⟨2, bget xs (tp : Int), b, x, true, false⟩, lo, xs⟩ := by
          simp only [kstep, pushS]
          rw [if_pos z]
          rfl
        rw [e]
        exact ⟨hB1, ⟨fun _ => (q2), fun h => (by cases h)⟩⟩
      · have e : kstep tp r (.push v) ⟨⟨1, t, b, x, false, false⟩, lo, xs⟩ = ⟨⟨2, bget xs (tp : Int), b, x, false, false⟩, lo, xs⟩ := by
          simp only [kstep, pushS]
          rw [if_neg z]
          rfl
        rw [e]
        exact ⟨hB1, ⟨fun h => (by cases h), fun _ => ⟨by simp, q2, fun _ => q3 (by omega), by simp, rfl⟩⟩⟩
    · have e : kstep tp r (.push v) ⟨⟨2, t, b, x, false, false⟩, lo, xs⟩ = ⟨⟨3, t, b, x, false, false⟩, lo, bput xs (slot tp r b) v⟩ := by simp [kstep, pushS]
      rw [e]
      obtain ⟨h1, h2⟩ := hB1.slot b v
      exact ⟨h1, ⟨fun h => (by cases h), fun _ => ⟨by simp, by simp only [h2]; exact q2, fun _ => by simp only [h2]; exact q3 (by omega), by simp, rfl⟩⟩⟩
    · have e : kstep tp r (.push v) ⟨⟨3, t, b, x, false, false⟩, lo, xs⟩ = ⟨⟨4, t, b, x, true, true⟩, lo, bput xs ((tp : Int) + 1) (b + 1)⟩ := by simp [kstep, pushS]
      rw [e]
      have := q3 (by omega)
      obtain ⟨h1, h2⟩ := hB1.setBot (b + 1) (by omega)
      exact ⟨h1, ⟨fun _ => (by simp only [h2]; omega), fun h => (by cases h)⟩⟩
  | pop =>
    obtain ⟨q1, q2, q3, q4, q5, q6, q7, q8, q9⟩ := q
    simp only at q1 q2 q3 q4 q5 q6 q7 q8 q9
    have hb : -1 ≤ b ∧ b ≤ 1000000 := by
      by_cases h0 : a = 0
      · have := q3 h0; omega
      · by_cases h1 : a = 1
        · have := q4 h1; have := q2 (by omega); omega
        · have := q5 (by omega); omega
    have ht : 0 ≤ t ∧ t ≤ 1000000 := by
      by_cases h0 : a ≤ 2
      · have := q6 h0; omega
      · have := q7 (by omega); omega
    refine ⟨⟨⟨fun _ => q1, hb, ht, fun e => ?_, by simp only; omega⟩, fun _ e => q9 e⟩, ?_⟩
    · simp only at e
      have := q2 (by omega)
      simp only
      omega
    have ha : a = 0 ∨ a = 1 ∨ a = 2 ∨ a = 3 ∨ a = 4 ∨ a = 5 := by omega
    rcases ha with rfl | rfl | rfl | rfl | rfl | rfl
    · have e : kstep tp r .pop ⟨⟨0, t, b, x, false, gt⟩, lo, xs⟩ = ⟨⟨1, t, bget xs ((tp : Int) + 1) - 1, x, false, gt⟩, lo, xs⟩ := by simp [kstep, popS]
      rw [e]
      exact ⟨hB1, ⟨fun h => (by cases h), fun _ => ⟨by simp, fun _ => q2 (by omega), by simp, fun _ => rfl, by simp, fun _ => q6 (by omega), by simp, by simp, fun _ => q9 (by omega)⟩⟩⟩
    · have e : kstep tp r .pop ⟨⟨1, t, b, x, false, gt⟩, lo, xs⟩ = ⟨⟨2, t, b, x, false, gt⟩, lo, bput xs ((tp : Int) + 1) b⟩ := by simp [kstep, popS]
      rw [e]
      have h4 := q4 rfl
      have h5 := q2 (by omega)
      obtain ⟨h1, h2⟩ := hB1.setBot b (by omega)
      exact ⟨h1, ⟨fun h => (by cases h), fun _ => ⟨by simp, by simp, by simp, by simp, fun _ => by simp only [h2], fun _ => q6 (by omega), by simp, by simp, fun _ => q9 (by omega)⟩⟩⟩
    · have e : kstep tp r .pop ⟨⟨2, t, b, x, false, gt⟩, lo, xs⟩ = ⟨⟨3, bget xs (tp : Int), b, x, false, gt⟩, lo, xs⟩ := by simp [kstep, popS]
      rw [e]
      exact ⟨hB1, ⟨fun h => (by cases h), fun _ => ⟨by simp, by simp, by simp, by simp, fun _ => q5 (by omega), by simp, fun _ => ⟨htp.1, by simp only; omega⟩, by simp, fun _ => q9 (by omega)⟩⟩⟩
    · have h5 := q5 (by omega)
      have h7 := q7 (by omega)
      by_cases z : b < t
      · have e : kstep tp r .pop ⟨⟨3, t, b, x, false, gt⟩, lo, xs⟩ = ⟨⟨4, t, b, x, true, gt⟩, lo, bput xs ((tp : Int) + 1) (b + 1)⟩ := by simp [kstep, popS, z]
        rw [e]
        obtain ⟨h1, h2⟩ := hB1.setBot (b + 1) (by omega)
        exact ⟨h1, ⟨fun _ => (by simp only [h2]; omega), fun h => (by cases h)⟩⟩
      · by_cases z2 : t < b
        · have e : kstep tp r .pop ⟨⟨3, t, b, x, false, gt⟩, lo, xs⟩ = ⟨⟨4, t, b, bget xs (slot tp r b), true, true⟩, lo, xs⟩ := by simp [kstep, popS, z, z2]
          rw [e]
          exact ⟨hB1, ⟨fun _ => (by simp only; omega), fun h => (by cases h)⟩⟩
        · have e : kstep tp r .pop ⟨⟨3, t, b, x, false, gt⟩, lo, xs⟩ = ⟨⟨4, t, b, bget xs (slot tp r b), false, gt⟩, lo, xs⟩ := by simp [kstep, popS, z, z2]
          rw [e]
          exact ⟨hB1, ⟨fun h => (by cases h), fun _ => ⟨by simp, by simp, by simp, by simp, fun _ => h5, by simp, fun _ => ⟨h7.1, by simp only; omega⟩, fun _ => by simp only; omega, fun _ => q9 (by omega)⟩⟩⟩
    · have h5 := q5 (by omega)
      have h7 := q7 (by omega)
      have h8 := q8 (by omega)
      obtain rfl := q9 (by omega)
      by_cases z : bget xs (tp : Int) = t
      · have e : kstep tp r .pop ⟨⟨4, t, b, x, false, false⟩, lo, xs⟩ = ⟨⟨5, t, b, x, false, true⟩, lo, bput xs (tp : Int) (t + 1)⟩ := by simp [kstep, popS, z]
        rw [e]
        obtain ⟨h1, h2⟩ := hB1.setTop (t + 1) (by omega)
        exact ⟨h1, ⟨fun h => (by cases h), fun _ => ⟨by simp, by simp, by simp, by simp, fun _ => by simp only [h2]; exact h5, by simp, fun _ => ⟨h7.1, by simp only; omega⟩, fun _ => h8, by simp⟩⟩⟩
      · have e : kstep tp r .pop ⟨⟨4, t, b, x, false, false⟩, lo, xs⟩ = ⟨⟨5, t, b, x, false, false⟩, lo, xs⟩ := by simp [kstep, popS, z]
        rw [e]
        exact ⟨hB1, ⟨fun h => (by cases h), fun _ => ⟨by simp, by simp, by simp, by simp, fun _ => h5, by simp, fun _ => ⟨h7.1, by simp only; omega⟩, fun _ => h8, by simp⟩⟩⟩
    · have h5 := q5 (by omega)
      have h7 := q7 (by omega)
      have h8 := q8 (by omega)
      have e : kstep tp r .pop ⟨⟨5, t, b, x, false, gt⟩, lo, xs⟩ = ⟨⟨6, t, b, x, true, gt⟩, lo, bput xs ((tp : Int) + 1) (b + 1)⟩ := by simp [kstep, popS]
      rw [e]
      obtain ⟨h1, h2⟩ := hB1.setBot (b + 1) (by omega)
      exact ⟨h1, ⟨fun _ => (by simp only [h2]; omega), fun h => (by cases h)⟩⟩
end
/-- All sides. -/
structure TI (n : Int) (tp r : Nat) (xs : List Int) (sides : List (Option Sd)) : Prop where
  b : BankOk n tp r xs
  len : sides.length = 5
  o : ∀ x, sides[0]? = some x → OwnOk n (bget xs ((tp : Int) + 1)) x
  t : ∀ i x, 1 ≤ i → sides[i]? = some x → ThfOk n x
theorem TI.start {tp r S : Nat} (h : tp + 2 + 2 ^ r ≤ S) : TI 0 tp r (List.replicate S 0) (List.replicate 5 none) := by
  have g : ∀ i : Int, 0 ≤ i → bget (List.replicate S 0) i = 0 := fun i hi => by
    rw [bget_in hi]
    simp [List.getD, List.getElem?_replicate]
    split <;> rfl
  refine ⟨⟨by rw [List.length_replicate]; exact h, by rw [g _ (by omega)]; omega, by rw [g _ (by omega)]; omega⟩, rfl, fun x hx => ?_, fun i x _ hx => ?_⟩
  · have := List.mem_of_getElem? hx
    obtain rfl := (List.mem_replicate.1 this).2
    show (0 : Int) ≤ _
    rw [g _ (by omega)]
    omega
  · have := List.mem_of_getElem? hx
    obtain rfl := (List.mem_replicate.1 this).2
    trivial
/-- A new machine begins, where there is none that goes on. -/
theorem TI.begin {n : Int} {tp r : Nat} {xs : List Int} {sides : List (Option Sd)} (h : TI n tp r xs sides) (hn : 0 ≤ n) {i : Nat} {x : Option Sd} (hx : sides[i]? = some x) (hd : ∀ d, x = some d → d.m.done = true) (kd : Kd) (mb : Nat) (ho : i = 0 → kd ≠ .steal) (ht : 1 ≤ i → kd = .steal) :
    TI n tp r xs (sides.set i (some ⟨kd, mb, ⟨0, 0, 0, 0, false, false⟩, false⟩)) := by
  have hl := (List.getElem?_eq_some_iff.1 hx).1
  refine ⟨h.b, by rw [List.length_set]; exact h.len, fun y hy => ?_, fun j y hj hy => ?_⟩
  · rw [List.getElem?_set] at hy
    split at hy
    · rename_i e
      subst e
      cases hy
      have h0 := h.o x hx
      have hb : 0 ≤ bget xs ((tp : Int) + 1) := by
        cases x with
        | none => exact h0
        | some d => exact h0.1 (hd d rfl)
      refine ⟨fun e => (by cases e), fun _ => ?_⟩
      cases kd with
      | push v => exact ⟨by simp, hb, by simp, by simp, rfl⟩
      | pop => exact ⟨by simp, fun _ => hb, by simp, by simp, by simp, by simp, by simp, by simp, by simp⟩
      | steal => exact (ho rfl rfl).elim
    · exact h.o y hy
  · rw [List.getElem?_set] at hy
    split at hy
    · rename_i e
      subst e
      cases hy
      exact ⟨ht hj, fun _ => ⟨by simp, by simp [hn], rfl, rfl⟩⟩
    · exact h.t j y hj hy
/-- A machine's step. -/
theorem TI.step {n : Int} {tp r : Nat} {xs : List Int} {sides : List (Option Sd)} (h : TI n tp r xs sides) (hn : 0 ≤ n ∧ n ≤ 1000) {i : Nat} {d : Sd} (hx : sides[i]? = some (some d)) (hd : d.m.done = false) :
    RInv tp d.kd ⟨d.m, d.lo, xs⟩ ∧ TI (n + 1) tp r (kstep tp r d.kd ⟨d.m, d.lo, xs⟩).xs (sides.set i (some ⟨d.kd, d.mb, (kstep tp r d.kd ⟨d.m, d.lo, xs⟩).m, (kstep tp r d.kd ⟨d.m, d.lo, xs⟩).lo⟩)) := by
  have hl := (List.getElem?_eq_some_iff.1 hx).1
  obtain ⟨kd, mb, m, lo⟩ := d
  by_cases hi : i = 0
  · subst hi
    obtain ⟨h1, h2, h3⟩ := own_step h.b hn kd m mb lo (h.o _ hx) hd
    refine ⟨h1, h2, by rw [List.length_set]; exact h.len, fun y hy => ?_, fun j y hj hy => ?_⟩
    · rw [List.getElem?_set_self hl] at hy
      cases hy
      exact h3
    · rw [List.getElem?_set_ne (by omega)] at hy
      exact (h.t j y hj hy).mono (by omega)
  · have hT := h.t i _ (by omega) hx
    obtain rfl : kd = .steal := hT.1
    obtain ⟨h1, h2, h3, h4⟩ := thf_step h.b hn m mb lo hT hd
    refine ⟨h1, h2, by rw [List.length_set]; exact h.len, fun y hy => ?_, fun j y hj hy => ?_⟩
    · rw [List.getElem?_set_ne hi] at hy
      simp only [h4]
      exact (h.o y hy).mono (by omega)
    · rw [List.getElem?_set] at hy
      split at hy
      · rename_i e
        subst e
        cases hy
        exact h3
      · exact (h.t j y hj hy).mono (by omega)
end Go.Proofs.Ytdgkemadhooogaa
