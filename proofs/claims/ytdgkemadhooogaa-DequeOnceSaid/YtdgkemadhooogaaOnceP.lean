/- An owner and thieves at one deque, their steps in any order: what is held, as a list; who may take what. Plain. -/
import Derived.Test.YtdgkemadhooogaaTellP
namespace Go.Proofs.Ytdgkemadhooogaa
set_option linter.unusedVariables false
set_option linter.unusedSimpArgs false
open Go.RowKit

def b2i (b : Bool) : Int := if b then 1 else 0
/-- The deque: L lies from T on; dn: the bottom is one too low. -/
structure RowB (tp r : Nat) (xs : List Int) (T : Int) (L : List Int) (dn : Bool) : Prop where
  fit : tp + 2 + 2 ^ r ≤ xs.length
  t0 : 0 ≤ T
  room : L.length ≤ 2 ^ r
  top : bget xs (tp : Int) = T
  bot : bget xs ((tp : Int) + 1) = T + L.length - b2i dn
  cell : ∀ j, j < L.length → bget xs (slot tp r (T + j)) = L.getD j 0
section
variable {tp r : Nat} {xs : List Int} {T : Int} {L : List Int} {dn : Bool}
theorem RowB.fit2 (h : RowB tp r xs T L dn) : tp + 2 < xs.length := by
  have := h.fit
  have : 0 < 2 ^ r := Nat.pow_pos (by omega)
  omega
theorem RowB.row (h : RowB tp r xs T L false) (hb : T + L.length ≤ 100000) : Row tp r xs T L := ⟨h.fit, h.t0, hb, h.room, h.top, by have := h.bot; simpa [b2i] using this, h.cell⟩
/-- The bottom is written. -/
theorem RowB.setBot (h : RowB tp r xs T L dn) (d : Bool) (b : Int) (hb : b = T + L.length - b2i d) : RowB tp r (bput xs ((tp : Int) + 1) b) T L d := by
  have hf := h.fit2
  refine ⟨by rw [bput_len]; exact h.fit, h.t0, h.room, ?_, ?_, fun j hj => ?_⟩
  · rw [bput_two (by omega) (by omega) (by omega)]; exact h.top
  · rw [bput_self (by omega) (by omega)]; exact hb
  · have hs := slot_in tp r (T + j)
    rw [bput_two (by omega) (by omega) (by omega)]; exact h.cell j hj
/-- A cell behind what is held is written. -/
theorem RowB.setSlot (h : RowB tp r xs T L dn) (hr : L.length < 2 ^ r) (v : Int) : RowB tp r (bput xs (slot tp r (T + L.length)) v) T L dn ∧ bget (bput xs (slot tp r (T + L.length)) v) (slot tp r (T + L.length)) = v := by
  have hs := slot_in tp r (T + L.length)
  have hf := h.fit
  have h0 := h.t0
  refine ⟨⟨by rw [bput_len]; exact hf, h0, h.room, ?_, ?_, fun j hj => ?_⟩, bput_self (by omega) (by omega)⟩
  · rw [bput_two (by omega) (by omega) (by omega)]; exact h.top
  · rw [bput_two (by omega) (by omega) (by omega)]; exact h.bot
  · have hs2 := slot_in tp r (T + j)
    have hne := slot_ne (tp := tp) (r := r) (i := T + j) (j := T + L.length) (by omega) (by omega) (by omega)
    rw [bput_two (fun e => hne e.symm) (by omega) (by omega)]; exact h.cell j hj
/-- One more: its cell holds it, the bottom is written. -/
theorem RowB.grow (h : RowB tp r xs T L false) (hr : L.length < 2 ^ r) (v : Int) (hv : bget xs (slot tp r (T + L.length)) = v) : RowB tp r (bput xs ((tp : Int) + 1) (T + L.length + 1)) T (L ++ [v]) false := by
  have hf := h.fit2
  refine ⟨by rw [bput_len]; exact h.fit, h.t0, by simp; omega, ?_, ?_, fun j hj => ?_⟩
  · rw [bput_two (by omega) (by omega) (by omega)]; exact h.top
  · rw [bput_self (by omega) (by omega)]; simp [b2i]; omega
  · have hs := slot_in tp r (T + j)
    rw [bput_two (by omega) (by omega) (by omega)]
    have hj2 : j < L.length + 1 := by simpa using hj
    by_cases e : j = L.length
    · subst e
      rw [hv]
      simp [List.getD]
    · rw [h.cell j (by omega)]
      simp [List.getD, List.getElem?_append_left (show j < L.length by omega)]
/-- The first one is taken. -/
theorem RowB.tail (h : RowB tp r xs T L dn) (hl : 1 ≤ L.length) : RowB tp r (bput xs (tp : Int) (T + 1)) (T + 1) L.tail dn := by
  have hf := h.fit2
  have h0 := h.t0
  have hr := h.room
  refine ⟨by rw [bput_len]; exact h.fit, by omega, by simp; omega, ?_, ?_, fun j hj => ?_⟩
  · rw [bput_self (by omega) (by omega)]
  · rw [bput_two (by omega) (by omega) (by omega), h.bot]; simp; omega
  · have hs := slot_in tp r (T + 1 + j)
    rw [bput_two (by omega) (by omega) (by omega)]
    have hj2 : j < L.length - 1 := by simpa using hj
    have := h.cell (j + 1) (by omega)
    rw [show T + 1 + (j : Int) = T + ((j + 1 : Nat) : Int) by omega, this]
    simp [List.getD, List.getElem?_tail]
/-- The last one is taken: the bottom is there already. -/
theorem RowB.dropLast (h : RowB tp r xs T L true) (hl : 1 ≤ L.length) : RowB tp r xs T L.dropLast false := by
  refine ⟨h.fit, h.t0, by have := h.room; simp; omega, h.top, ?_, fun j hj => ?_⟩
  · rw [h.bot]; simp [b2i]; omega
  · have hj2 : j < L.length - 1 := by simpa using hj
    rw [h.cell j (by omega)]
    simp [List.getD, List.dropLast_eq_take, List.getElem?_take, hj2, show j < L.length from by omega]
end
/-- Whether the bottom is one too low; whether the owner will have the last one without a race. -/
def ownDn : Option Sd → Bool
  | some ⟨.pop, _, m, _⟩ => decide (2 ≤ m.a)
  | _ => false
def ownSure : Option Sd → Bool
  | some ⟨.pop, _, m, _⟩ => decide (m.a = 3 ∧ m.t < m.b)
  | _ => false
/-- What the owner has, that is told at his next step. -/
def ownPend : Option Sd → List Int
  | some ⟨.pop, _, m, _⟩ => if m.a = 5 ∧ m.got = true then [m.x] else []
  | _ => []
def OwnS (tp r : Nat) (xs : List Int) (T : Int) (L : List Int) : Option Sd → Prop
  | none => True
  | some d => d.m.done = false ∧ match d.kd with
    | .push v => (0 ≤ d.m.a ∧ d.m.a ≤ 3) ∧ (d.m.a = 0 → d.m.b = 0) ∧ (1 ≤ d.m.a → d.m.b = T + L.length) ∧ (2 ≤ d.m.a → d.m.t ≤ T ∧ d.m.b - d.m.t < ((2 ^ r : Nat) : Int)) ∧ (d.m.a = 3 → bget xs (slot tp r d.m.b) = v) ∧ d.m.got = false
    | .pop => (0 ≤ d.m.a ∧ d.m.a ≤ 5) ∧ (d.m.a = 0 → d.m.b = 0) ∧ (1 ≤ d.m.a → d.m.b = T + L.length - 1) ∧ (d.m.a ≤ 2 → d.m.t = 0) ∧ (3 ≤ d.m.a → 0 ≤ d.m.t ∧ d.m.t ≤ T) ∧ (d.m.a = 3 → d.m.t < d.m.b → 1 ≤ L.length) ∧ (d.m.a = 4 → d.m.t = d.m.b ∧ (T = d.m.b → L = [d.m.x])) ∧ (d.m.a = 5 → L = []) ∧ (d.m.a ≤ 4 → d.m.got = false)
    | .steal => False
def ThfS (T : Int) (L : List Int) (sure : Bool) : Option Sd → Prop
  | none => True
  | some d => d.m.done = false ∧ d.kd = .steal ∧ (0 ≤ d.m.a ∧ d.m.a ≤ 3) ∧ 0 ≤ d.m.t ∧ d.m.t ≤ T ∧ d.m.got = false ∧ d.lo = false ∧ (2 ≤ d.m.a → d.m.t = T → 1 + b2i sure ≤ L.length) ∧ (d.m.a = 3 → d.m.t = T → L.getD 0 0 = d.m.x)
/-- A thief's view, when T went on. -/
theorem ThfS.on {T : Int} {L L' : List Int} {s s' : Bool} {x : Option Sd} (h : ThfS T L s x) : ThfS (T + 1) L' s' x := by
  cases x with
  | none => trivial
  | some d =>
    obtain ⟨h1, h2, h3, h4, h5, h6, h7, h8, h9⟩ := h
    exact ⟨h1, h2, h3, h4, by omega, h6, h7, fun _ e => by omega, fun _ e => by omega⟩
/-- A thief's view, when the owner has gone on. -/
theorem ThfS.own {T : Int} {L L' : List Int} {s s' : Bool} {x : Option Sd} (h : ThfS T L s x) (hl : 1 + b2i s ≤ L.length → 1 + b2i s' ≤ L'.length ∧ L'.getD 0 0 = L.getD 0 0) : ThfS T L' s' x := by
  cases x with
  | none => trivial
  | some d =>
    obtain ⟨h1, h2, h3, h4, h5, h6, h7, h8, h9⟩ := h
    exact ⟨h1, h2, h3, h4, h5, h6, h7, fun e1 e2 => (hl (h8 e1 e2)).1, fun e1 e2 => by rw [(hl (h8 (by omega) e2)).2]; exact h9 e1 e2⟩
end Go.Proofs.Ytdgkemadhooogaa
