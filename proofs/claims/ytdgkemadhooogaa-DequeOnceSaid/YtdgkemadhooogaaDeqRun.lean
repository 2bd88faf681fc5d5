/- Machines of package deque of any kind: their steps, and runs of one by itself on a deque that is a row. -/
import Derived.Test.YtdgkemadhooogaaDeqPop
import Derived.Test.YtdgkemadhooogaaDeqSteal
import Derived.Test.YtdgkemadhooogaaDeqHeld
namespace Go.Proofs.Ytdgkemadhooogaa
set_option linter.unusedVariables false
set_option linter.unusedSimpArgs false
open Go.RowKit

inductive Kd where
  | push (v : Int)
  | pop
  | steal
def Kd.ex : Kd → Bool → List Value
  | .push v, _ => [.int .i64 v]
  | .pop, _ => []
  | .steal, lo => [.bool lo]
def Kd.T : Kd → TypeId
  | .push _ => 48
  | .pop => 51
  | .steal => 45
def Kd.F : Kd → FuncId
  | .push _ => 45
  | .pop => 42
  | .steal => 41
/-- A machine, whether it lost, and the bank. -/
structure KS where
  m : DM
  lo : Bool
  xs : List Int
def kstep (tp r : Nat) : Kd → KS → KS
  | .push v, s => ⟨(pushS tp r v s.m s.xs).1, s.lo, (pushS tp r v s.m s.xs).2⟩
  | .pop, s => ⟨(popS tp r s.m s.xs).1, s.lo, (popS tp r s.m s.xs).2⟩
  | .steal, s => ⟨(stealS tp r s.m s.xs).1, lostS tp s.lo s.m s.xs, (stealS tp r s.m s.xs).2⟩
/-- What a step asks. -/
def KInv (tp : Nat) : Kd → KS → Prop
  | .push _, s => (s.m.done = false → 0 ≤ s.m.a ∧ s.m.a ≤ 3) ∧ (-1 ≤ s.m.b ∧ s.m.b ≤ 1000000) ∧ (s.m.a = 2 → 0 ≤ s.m.b) ∧ (0 ≤ bget s.xs (tp : Int) ∧ bget s.xs (tp : Int) ≤ 1000000)
  | .pop, s => (s.m.done = false → 0 ≤ s.m.a ∧ s.m.a ≤ 5) ∧ (-1 ≤ s.m.b ∧ s.m.b ≤ 1000000) ∧ (0 ≤ s.m.t ∧ s.m.t ≤ 1000000) ∧ (s.m.a = 0 → 0 ≤ bget s.xs ((tp : Int) + 1) ∧ bget s.xs ((tp : Int) + 1) ≤ 1000000) ∧ tp < s.xs.length
  | .steal, s => (s.m.done = false → 0 ≤ s.m.a ∧ s.m.a ≤ 3) ∧ (0 ≤ s.m.t ∧ s.m.t ≤ 1000000) ∧ tp < s.xs.length
/-- A machine and the bank in memory. -/
def KSt (kd : Kd) (l : Lay) (k : Int) (mb bb g : Nat) (s : KS) (w w' : World) : Prop := DSt kd.T l k mb bb g s.m (kd.ex s.lo) s.xs w w'
theorem KSt.refl {kd : Kd} {l : Lay} {k : Int} {mb bb g : Nat} {s : KS} {w : World} (h : PB w mb kd.T l k s.m (kd.ex s.lo)) (hb : Bnk w bb g s.xs) : KSt kd l k mb bb g s w w := ⟨h, hb, Upd.refl _ _⟩
theorem KSt.trans {kd : Kd} {l : Lay} {k : Int} {mb bb g : Nat} {s s' : KS} {w w1 w2 : World} (h : KSt kd l k mb bb g s w w1) (h2 : KSt kd l k mb bb g s' w1 w2) : KSt kd l k mb bb g s' w w2 := DSt.trans h h2
theorem kstep_any {w : World} {mb bb g : Nat} {l : Lay} {k : Int} {tp r : Nat} (kd : Kd) (s : KS) (hG : Geo l k tp r) (h : PB w mb kd.T l k s.m (kd.ex s.lo)) (hb : Bnk w bb g s.xs) (hne : ¬ mb = g ∧ ¬ mb = bb) (hi : KInv tp kd s) :
    Calls Try.prog kd.F #[.pointer (some ⟨mb, 0, none⟩), .pointer (some ⟨bb, 0, none⟩)] w fun e w' => e = .returned (.bool (kstep tp r kd s).m.done) ∧ KSt kd l k mb bb g (kstep tp r kd s) w w' := by
  cases kd with
  | push v => exact push_step s.m hG h hb hne hi.1 hi.2.1 hi.2.2.1 hi.2.2.2
  | pop => exact pop_step s.m hG h hb hne hi.1 hi.2.1 hi.2.2.1 hi.2.2.2.1 hi.2.2.2.2
  | steal => exact steal_step s.m hG h hb hne hi.1 hi.2.1 hi.2.2
def krun (tp r : Nat) (kd : Kd) (s : KS) : Nat → KS
  | 0 => s
  | i + 1 => kstep tp r kd (krun tp r kd s i)
theorem krun_shift (tp r : Nat) (kd : Kd) (s : KS) : ∀ i, krun tp r kd s (i + 1) = krun tp r kd (kstep tp r kd s) i
  | 0 => rfl
  | i + 1 => by
    show kstep tp r kd (krun tp r kd s (i + 1)) = kstep tp r kd (krun tp r kd (kstep tp r kd s) i)
    rw [krun_shift tp r kd s i]
/-- By itself a machine comes to its end in N steps. -/
structure Alone (tp r : Nat) (kd : Kd) (s : KS) (N : Nat) (s' : KS) : Prop where
  one : 1 ≤ N
  inv : ∀ i, i < N → KInv tp kd (krun tp r kd s i)
  don : ∀ i, i < N → (krun tp r kd s (i + 1)).m.done = decide (i + 1 = N)
  fin : krun tp r kd s N = s'
theorem Alone.last {tp r : Nat} {kd : Kd} {s s' : KS} (hi : KInv tp kd s) (e : kstep tp r kd s = s') (hd : s'.m.done = true) : Alone tp r kd s 1 s' := by
  refine ⟨Nat.le_refl _, fun i h => ?_, fun i h => ?_, e⟩
  · obtain rfl : i = 0 := by omega
    exact hi
  · obtain rfl : i = 0 := by omega
    show (kstep tp r kd s).m.done = _
    rw [e, hd]
    simp
theorem Alone.more {tp r : Nat} {kd : Kd} {s s1 s' : KS} {N : Nat} (hi : KInv tp kd s) (e : kstep tp r kd s = s1) (hd : s1.m.done = false) (h : Alone tp r kd s1 N s') : Alone tp r kd s (N + 1) s' := by
  refine ⟨by omega, fun i hiN => ?_, fun i hiN => ?_, ?_⟩
  · cases i with
    | zero => exact hi
    | succ i =>
      rw [krun_shift, e]
      exact h.inv i (by omega)
  · cases i with
    | zero =>
      show (kstep tp r kd s).m.done = _
      rw [e, hd]
      have := h.one
      simp
      omega
    | succ i =>
      rw [krun_shift, e, h.don i (by omega)]
      simp
  · rw [krun_shift, e]
    exact h.fin
/-- A deque by itself is a row. -/
structure Row (tp r : Nat) (xs : List Int) (T : Int) (L : List Int) : Prop where
  fit : tp + 2 + 2 ^ r ≤ xs.length
  t0 : 0 ≤ T
  big : T + L.length ≤ 100000
  room : L.length ≤ 2 ^ r
  top : bget xs (tp : Int) = T
  bot : bget xs ((tp : Int) + 1) = T + L.length
  cell : ∀ j, j < L.length → bget xs (slot tp r (T + j)) = L.getD j 0
theorem slot_in (tp r : Nat) (j : Int) : (tp : Int) + 2 ≤ slot tp r j ∧ slot tp r j < (tp : Int) + 2 + ((2 ^ r : Nat) : Int) := by
  unfold slot
  have := Nat.mod_lt j.toNat (show 0 < 2 ^ r from Nat.pow_pos (by omega))
  omega
theorem slot_ne {tp r : Nat} {i j : Int} (hi : 0 ≤ i) (h : i < j) (hj : j < i + ((2 ^ r : Nat) : Int)) : slot tp r i ≠ slot tp r j := by
  unfold slot
  intro e
  have e2 : i.toNat % 2 ^ r = j.toNat % 2 ^ r := by omega
  generalize 2 ^ r = R at hj e2
  have h3 : (j.toNat - i.toNat) % R = 0 := Nat.sub_mod_eq_zero_of_mod_eq e2.symm
  rw [Nat.mod_eq_of_lt (by omega)] at h3
  omega
theorem bput_put {xs : List Int} {i v u : Int} (hi : 0 ≤ i) : bput (bput xs i v) i u = bput xs i u := by
  rw [bput_in v hi, bput_in u hi, bput_in u hi, List.set_set]
theorem bput_same {xs : List Int} {i v : Int} (hi : 0 ≤ i) (h : bget xs i = v) (hl : i.toNat < xs.length) : bput xs i v = xs := by
  rw [bput_in v hi]
  rw [bget_in hi] at h
  subst h
  refine List.ext_getElem (by simp) fun n h1 h2 => ?_
  rw [List.getElem_set]
  split
  · rename_i e
    subst e
    simp [List.getD, hl]
  · rfl
section
variable {tp r : Nat} {xs : List Int} {T : Int} {L : List Int}
theorem Row.fit2 (h : Row tp r xs T L) : tp + 2 < xs.length := by
  have := h.fit
  have : 0 < 2 ^ r := Nat.pow_pos (by omega)
  omega
theorem Row.held (h : Row tp r xs T L) : heldL tp r xs = L := by
  unfold heldL heldN
  rw [h.top, h.bot, show (T + (L.length : Int) - T).toNat = L.length by omega, Nat.min_eq_left h.room]
  unfold heldTo
  rw [h.top]
  refine List.ext_getElem (by simp) fun n h1 h2 => ?_
  simp only [List.getElem_map, List.getElem_range]
  rw [h.cell n h2]
  simp [List.getD, h2]
/-- One more. -/
theorem Row.push (h : Row tp r xs T L) (hr : L.length < 2 ^ r) (hb : T + L.length + 1 ≤ 100000) (v : Int) : Row tp r (bput (bput xs (slot tp r (T + L.length)) v) ((tp : Int) + 1) (T + L.length + 1)) T (L ++ [v]) := by
  have hs := slot_in tp r (T + L.length)
  have h0 := h.t0
  have hf := h.fit
  have hf2 := h.fit2
  refine ⟨by rw [bput_len, bput_len]; exact hf, h0, by simp; omega, by simp; omega, ?_, ?_, fun j hj => ?_⟩
  · rw [bput_two (by omega) (by omega) (by omega), bput_two (by omega) (by omega) (by omega), h.top]
  · rw [bput_self (by omega) (by rw [bput_len]; omega)]
    simp
    omega
  · have hs2 := slot_in tp r (T + j)
    rw [bput_two (by omega) (by omega) (by omega)]
    have hj2 : j < L.length + 1 := by simpa using hj
    by_cases e : j = L.length
    · subst e
      rw [bput_self (by omega) (by omega)]
      simp [List.getD]
    · have hne := slot_ne (tp := tp) (r := r) (i := T + j) (j := T + L.length) (by omega) (by omega) (by omega)
      rw [bput_two (fun e => hne e.symm) (by omega) (by omega), h.cell j (by omega)]
      simp [List.getD, List.getElem?_append_left (show j < L.length by omega)]
/-- The last one is taken. -/
theorem Row.pop (h : Row tp r xs T L) (hl : 0 < L.length) : Row tp r (bput xs ((tp : Int) + 1) (T + L.length - 1)) T L.dropLast := by
  have h0 := h.t0
  have hf := h.fit
  have hf2 := h.fit2
  have hb := h.big
  have hr := h.room
  refine ⟨by rw [bput_len]; exact hf, h0, by simp; omega, by simp; omega, ?_, ?_, fun j hj => ?_⟩
  · rw [bput_two (by omega) (by omega) (by omega), h.top]
  · rw [bput_self (by omega) (by omega)]
    simp
    omega
  · have hs2 := slot_in tp r (T + j)
    rw [bput_two (by omega) (by omega) (by omega)]
    have hj2 : j < L.length - 1 := by simpa using hj
    rw [h.cell j (by omega)]
    simp [List.getD, List.dropLast_eq_take, List.getElem?_take, hj2, show j < L.length from by omega]
/-- The first one is taken. -/
theorem Row.steal (h : Row tp r xs T L) (hl : 0 < L.length) : Row tp r (bput xs (tp : Int) (T + 1)) (T + 1) L.tail := by
  have h0 := h.t0
  have hf := h.fit
  have hf2 := h.fit2
  have hb := h.big
  have hr := h.room
  refine ⟨by rw [bput_len]; exact hf, by omega, by simp; omega, by simp; omega, ?_, ?_, fun j hj => ?_⟩
  · rw [bput_self (by omega) (by omega)]
  · rw [bput_two (by omega) (by omega) (by omega), h.bot]
    simp
    omega
  · have hs2 := slot_in tp r (T + 1 + j)
    rw [bput_two (by omega) (by omega) (by omega)]
    have hj2 : j < L.length - 1 := by simpa using hj
    have := h.cell (j + 1) (by omega)
    rw [show T + 1 + (j : Int) = T + ((j + 1 : Nat) : Int) by omega, this]
    simp [List.getD, List.getElem?_tail]
theorem KInv.push {v : Int} {m : DM} {lo : Bool} (h : Row tp r xs T L) (ha : m.done = false → 0 ≤ m.a ∧ m.a ≤ 3) (hb : 0 ≤ m.b ∧ m.b ≤ 1000000) {ys : List Int} (ht : bget ys (tp : Int) = T) : KInv tp (.push v) ⟨m, lo, ys⟩ := by
  have := h.t0
  have := h.big
  exact ⟨ha, ⟨by simp only; omega, hb.2⟩, fun _ => hb.1, by simp only; omega⟩
/-- A push by itself, where there is room. -/
theorem push_alone (h : Row tp r xs T L) (hr : L.length < 2 ^ r) (hbg : T + L.length + 1 ≤ 100000) (v : Int) (lo : Bool) :
    Alone tp r (.push v) ⟨⟨0, 0, 0, 0, false, false⟩, lo, xs⟩ 4 ⟨⟨4, T, T + L.length, 0, true, true⟩, lo, bput (bput xs (slot tp r (T + L.length)) v) ((tp : Int) + 1) (T + L.length + 1)⟩ := by
  have h0 := h.t0
  have hs := slot_in tp r (T + L.length)
  refine Alone.more (s1 := ⟨⟨1, 0, T + L.length, 0, false, false⟩, lo, xs⟩) (KInv.push h (by simp) (by simp) h.top) ?_ rfl ?_
  · simp [kstep, pushS, h.bot]
  refine Alone.more (s1 := ⟨⟨2, T, T + L.length, 0, false, false⟩, lo, xs⟩) (KInv.push h (by simp) (by simp only; omega) h.top) ?_ rfl ?_
  · have hn : ¬ ((2 ^ r : Nat) : Int) ≤ T + L.length - T := by omega
    simp only [kstep, pushS, h.top]
    rw [if_neg hn]
    rfl
  refine Alone.more (s1 := ⟨⟨3, T, T + L.length, 0, false, false⟩, lo, bput xs (slot tp r (T + L.length)) v⟩) (KInv.push h (by simp) (by simp only; omega) h.top) ?_ rfl ?_
  · simp [kstep, pushS]
  refine Alone.last (KInv.push h (by simp) (by simp only; omega) ?_) ?_ rfl
  · rw [bput_two (by omega) (by omega) (by omega), h.top]
  · simp [kstep, pushS]
/-- A push by itself, where there is no room. -/
theorem push_full (h : Row tp r xs T L) (hr : L.length = 2 ^ r) (v : Int) (lo : Bool) :
    Alone tp r (.push v) ⟨⟨0, 0, 0, 0, false, false⟩, lo, xs⟩ 2 ⟨⟨2, T, T + L.length, 0, true, false⟩, lo, xs⟩ := by
  have h0 := h.t0
  have hb := h.big
  refine Alone.more (s1 := ⟨⟨1, 0, T + L.length, 0, false, false⟩, lo, xs⟩) (KInv.push h (by simp) (by simp) h.top) ?_ rfl ?_
  · simp [kstep, pushS, h.bot]
  refine Alone.last (KInv.push h (by simp) (by simp only; omega) h.top) ?_ rfl
  have hn : ((2 ^ r : Nat) : Int) ≤ T + L.length - T := by omega
  simp only [kstep, pushS, h.top]
  rw [if_pos hn]
  rfl
theorem KInv.pop {m : DM} {lo : Bool} (h : Row tp r xs T L) (ha : m.done = false → 0 ≤ m.a ∧ m.a ≤ 5) (hb : -1 ≤ m.b ∧ m.b ≤ 1000000) (ht : 0 ≤ m.t ∧ m.t ≤ 1000000) {ys : List Int} (hB : m.a = 0 → bget ys ((tp : Int) + 1) = T + L.length) (hl : ys.length = xs.length) : KInv tp .pop ⟨m, lo, ys⟩ := by
  have := h.t0
  have := h.big
  have := h.fit2
  refine ⟨ha, hb, ht, fun e => ?_, by simp only; omega⟩
  have := hB e
  simp only
  omega
/-- A pop by itself of none. -/
theorem pop_none (h : Row tp r xs T []) (lo : Bool) :
    Alone tp r .pop ⟨⟨0, 0, 0, 0, false, false⟩, lo, xs⟩ 4 ⟨⟨4, T, T - 1, 0, true, false⟩, lo, xs⟩ := by
  have h0 := h.t0
  have hb := h.big
  have hf := h.fit
  have hf2 := h.fit2
  have hB : bget xs ((tp : Int) + 1) = T := by have := h.bot; simpa using this
  simp only [List.length_nil] at hb
  refine Alone.more (s1 := ⟨⟨1, 0, T - 1, 0, false, false⟩, lo, xs⟩) (KInv.pop h (by simp) (by simp) (by simp) (fun _ => h.bot) rfl) ?_ rfl ?_
  · simp [kstep, popS, hB]
  refine Alone.more (s1 := ⟨⟨2, 0, T - 1, 0, false, false⟩, lo, bput xs ((tp : Int) + 1) (T - 1)⟩) (KInv.pop h (by simp) (by simp only; omega) (by simp) (by simp) rfl) ?_ rfl ?_
  · simp [kstep, popS]
  refine Alone.more (s1 := ⟨⟨3, T, T - 1, 0, false, false⟩, lo, bput xs ((tp : Int) + 1) (T - 1)⟩) (KInv.pop h (by simp) (by simp only; omega) (by simp) (by simp) (bput_len _ _ _)) ?_ rfl ?_
  · have : bget (bput xs ((tp : Int) + 1) (T - 1)) (tp : Int) = T := by rw [bput_two (by omega) (by omega) (by omega), h.top]
    simp [kstep, popS, this]
  refine Alone.last (KInv.pop h (by simp) (by simp only; omega) (by simp only; omega) (by simp) (bput_len _ _ _)) ?_ rfl
  have e1 : bput (bput xs ((tp : Int) + 1) (T - 1)) ((tp : Int) + 1) (T - 1 + 1) = xs := by
    rw [bput_put (by omega), show T - 1 + 1 = T by omega]
    exact bput_same (by omega) hB (by omega)
  have e2 : T - 1 < T := by omega
  simp only [kstep, popS]
  rw [if_pos e2, e1]
  rfl
/-- A pop by itself of more than one. -/
theorem pop_many (h : Row tp r xs T L) (hl : 2 ≤ L.length) (lo : Bool) :
    Alone tp r .pop ⟨⟨0, 0, 0, 0, false, false⟩, lo, xs⟩ 4 ⟨⟨4, T, T + L.length - 1, L.getD (L.length - 1) 0, true, true⟩, lo, bput xs ((tp : Int) + 1) (T + L.length - 1)⟩ := by
  have h0 := h.t0
  have hb := h.big
  have hf := h.fit
  have hf2 := h.fit2
  refine Alone.more (s1 := ⟨⟨1, 0, T + L.length - 1, 0, false, false⟩, lo, xs⟩) (KInv.pop h (by simp) (by simp) (by simp) (fun _ => h.bot) rfl) ?_ rfl ?_
  · simp [kstep, popS, h.bot]
  refine Alone.more (s1 := ⟨⟨2, 0, T + L.length - 1, 0, false, false⟩, lo, bput xs ((tp : Int) + 1) (T + L.length - 1)⟩) (KInv.pop h (by simp) (by simp only; omega) (by simp) (by simp) rfl) ?_ rfl ?_
  · simp [kstep, popS]
  refine Alone.more (s1 := ⟨⟨3, T, T + L.length - 1, 0, false, false⟩, lo, bput xs ((tp : Int) + 1) (T + L.length - 1)⟩) (KInv.pop h (by simp) (by simp only; omega) (by simp) (by simp) (bput_len _ _ _)) ?_ rfl ?_
  · have : bget (bput xs ((tp : Int) + 1) (T + L.length - 1)) (tp : Int) = T := by rw [bput_two (by omega) (by omega) (by omega), h.top]
    simp [kstep, popS, this]
  refine Alone.last (KInv.pop h (by simp) (by simp only; omega) (by simp only; omega) (by simp) (bput_len _ _ _)) ?_ rfl
  have hs := slot_in tp r (T + L.length - 1)
  have e1 : bget (bput xs ((tp : Int) + 1) (T + L.length - 1)) (slot tp r (T + L.length - 1)) = L.getD (L.length - 1) 0 := by
    rw [bput_two (by omega) (by omega) (by omega)]
    have := h.cell (L.length - 1) (by omega)
    rw [show T + ((L.length - 1 : Nat) : Int) = T + L.length - 1 by omega] at this
    exact this
  have e2 : ¬ T + (L.length : Int) - 1 < T := by omega
  have e3 : T < T + (L.length : Int) - 1 := by omega
  simp only [kstep, popS]
  rw [if_neg e2, if_pos e3, e1]
  rfl
/-- A pop by itself of the only one. -/
theorem pop_one {x : Int} (h : Row tp r xs T [x]) (lo : Bool) :
    Alone tp r .pop ⟨⟨0, 0, 0, 0, false, false⟩, lo, xs⟩ 6 ⟨⟨6, T, T, x, true, true⟩, lo, bput xs (tp : Int) (T + 1)⟩ := by
  have h0 := h.t0
  have hb := h.big
  have hf := h.fit
  have hf2 := h.fit2
  have hB : bget xs ((tp : Int) + 1) = T + 1 := by have := h.bot; simpa using this
  have hX : bget xs (slot tp r T) = x := by have := h.cell 0 (by simp); simpa using this
  simp only [List.length_singleton] at hb
  have hs := slot_in tp r T
  have t1 : bget (bput xs ((tp : Int) + 1) T) (tp : Int) = T := by rw [bput_two (by omega) (by omega) (by omega), h.top]
  refine Alone.more (s1 := ⟨⟨1, 0, T, 0, false, false⟩, lo, xs⟩) (KInv.pop h (by simp) (by simp) (by simp) (fun _ => h.bot) rfl) ?_ rfl ?_
  · simp [kstep, popS, hB]
  refine Alone.more (s1 := ⟨⟨2, 0, T, 0, false, false⟩, lo, bput xs ((tp : Int) + 1) T⟩) (KInv.pop h (by simp) (by simp only; omega) (by simp) (by simp) rfl) ?_ rfl ?_
  · simp [kstep, popS]
  refine Alone.more (s1 := ⟨⟨3, T, T, 0, false, false⟩, lo, bput xs ((tp : Int) + 1) T⟩) (KInv.pop h (by simp) (by simp only; omega) (by simp) (by simp) (bput_len _ _ _)) ?_ rfl ?_
  · simp [kstep, popS, t1]
  refine Alone.more (s1 := ⟨⟨4, T, T, x, false, false⟩, lo, bput xs ((tp : Int) + 1) T⟩) (KInv.pop h (by simp) (by simp only; omega) (by simp only; omega) (by simp) (bput_len _ _ _)) ?_ rfl ?_
  · have e1 : bget (bput xs ((tp : Int) + 1) T) (slot tp r T) = x := by rw [bput_two (by omega) (by omega) (by omega), hX]
    simp [kstep, popS, e1]
  refine Alone.more (s1 := ⟨⟨5, T, T, x, false, true⟩, lo, bput (bput xs ((tp : Int) + 1) T) (tp : Int) (T + 1)⟩) (KInv.pop h (by simp) (by simp only; omega) (by simp only; omega) (by simp) (bput_len _ _ _)) ?_ rfl ?_
  · simp [kstep, popS, t1]
  refine Alone.last (KInv.pop h (by simp) (by simp only; omega) (by simp only; omega) (by simp) (by rw [bput_len, bput_len])) ?_ rfl
  have e1 : bput (bput (bput xs ((tp : Int) + 1) T) (tp : Int) (T + 1)) ((tp : Int) + 1) (T + 1) = bput xs (tp : Int) (T + 1) := by
    rw [bput_in (xs := bput (bput xs ((tp : Int) + 1) T) (tp : Int) (T + 1)) _ (by omega), bput_in (xs := bput xs ((tp : Int) + 1) T) _ (by omega), bput_in (xs := xs) T (by omega), bput_in (xs := xs) (T + 1) (by omega)]
    rw [List.set_comm _ _ (by omega), List.set_set]
    have := bput_same (i := (tp : Int) + 1) (by omega) hB (by omega)
    rw [bput_in (T + 1) (by omega)] at this
    rw [this]
  simp only [kstep, popS]
  rw [e1]
  rfl
theorem KInv.steal {m : DM} {lo : Bool} (h : Row tp r xs T L) (ha : m.done = false → 0 ≤ m.a ∧ m.a ≤ 3) (ht : 0 ≤ m.t ∧ m.t ≤ 1000000) : KInv tp .steal ⟨m, lo, xs⟩ := by
  have := h.fit2
  exact ⟨ha, ht, by simp only; omega⟩
/-- A steal by itself of none. -/
theorem steal_none (h : Row tp r xs T []) :
    Alone tp r .steal ⟨⟨0, 0, 0, 0, false, false⟩, false, xs⟩ 2 ⟨⟨2, T, T, 0, true, false⟩, false, xs⟩ := by
  have h0 := h.t0
  have hb := h.big
  have hB : bget xs ((tp : Int) + 1) = T := by have := h.bot; simpa using this
  simp only [List.length_nil] at hb
  refine Alone.more (s1 := ⟨⟨1, T, 0, 0, false, false⟩, false, xs⟩) (KInv.steal h (by simp) (by simp)) ?_ rfl ?_
  · simp [kstep, stealS, lostS, h.top]
  refine Alone.last (KInv.steal h (by simp) (by simp only; omega)) ?_ rfl
  simp [kstep, stealS, lostS, hB]
/-- A steal by itself of some. -/
theorem steal_some (h : Row tp r xs T L) (hl : 0 < L.length) :
    Alone tp r .steal ⟨⟨0, 0, 0, 0, false, false⟩, false, xs⟩ 4 ⟨⟨4, T, T + L.length, L.getD 0 0, true, true⟩, false, bput xs (tp : Int) (T + 1)⟩ := by
  have h0 := h.t0
  have hb := h.big
  refine Alone.more (s1 := ⟨⟨1, T, 0, 0, false, false⟩, false, xs⟩) (KInv.steal h (by simp) (by simp)) ?_ rfl ?_
  · simp [kstep, stealS, lostS, h.top]
  refine Alone.more (s1 := ⟨⟨2, T, T + L.length, 0, false, false⟩, false, xs⟩) (KInv.steal h (by simp) (by simp only; omega)) ?_ rfl ?_
  · have hn : ¬ T + (L.length : Int) ≤ T := by omega
    simp only [kstep, stealS, lostS, h.bot]
    rw [if_neg hn]
    rfl
  have hX := h.cell 0 hl
  rw [show T + ((0 : Nat) : Int) = T by omega] at hX
  refine Alone.more (s1 := ⟨⟨3, T, T + L.length, L.getD 0 0, false, false⟩, false, xs⟩) (KInv.steal h (by simp) (by simp only; omega)) ?_ rfl ?_
  · simp [kstep, stealS, lostS, hX]
  refine Alone.last (KInv.steal h (by simp) (by simp only; omega)) ?_ rfl
  simp [kstep, stealS, lostS, h.top]
end
end Go.Proofs.Ytdgkemadhooogaa
