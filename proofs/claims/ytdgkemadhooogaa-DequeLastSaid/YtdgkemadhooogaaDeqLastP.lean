/- Of one number that a deque holds, a pop and steals: just one gets it. Plain. -/
import Derived.Test.YtdgkemadhooogaaDeqTo
namespace Go.Proofs.Ytdgkemadhooogaa
set_option linter.unusedVariables false
set_option linter.unusedSimpArgs false
open Go.RowKit

/-- What of the pop is known. top: whether the top went on. -/
structure PopI (T v : Int) (top : Bool) (m : DM) : Prop where
  lo : 0 ≤ m.a
  fin : m.done = true → top = true ∧ (m.got = true → m.x = v) ∧ 4 ≤ m.a
  hi : m.done = false → m.a ≤ 5
  b : 1 ≤ m.a → m.b = T
  b0 : m.a = 0 → m.b = 0
  t : 3 ≤ m.a → m.t = T ∨ (m.t = T + 1 ∧ top = true)
  t0 : m.a ≤ 2 → m.t = 0
  x : m.done = false → 4 ≤ m.a → m.t = T ∧ m.x = v
  g : m.a ≤ 4 → m.done = false → m.got = false
  five : m.a = 5 → top = true
/-- What of a steal is known. -/
structure StI (T v : Int) (top : Bool) (m : DM) (lo : Bool) : Prop where
  lo0 : 0 ≤ m.a
  fin : m.done = true → m.got = true → m.x = v ∧ lo = false
  hi : m.done = false → m.a ≤ 3
  t0 : m.a = 0 → m.t = 0
  t : 1 ≤ m.a → m.t = T ∨ (m.t = T + 1 ∧ top = true)
  t2 : m.done = false → 2 ≤ m.a → m.t = T
  x : m.done = false → 3 ≤ m.a → m.x = v
  g : m.done = false → m.got = false ∧ lo = false
theorem PopI.start (T v : Int) (top : Bool) : PopI T v top ⟨0, 0, 0, 0, false, false⟩ := ⟨by simp, by simp, by simp, by simp, by simp, by simp, by simp, by simp, by simp, by simp⟩
theorem StI.start (T v : Int) (top : Bool) : StI T v top ⟨0, 0, 0, 0, false, false⟩ false := ⟨by simp, by simp, by simp, by simp, by simp, by simp, by simp, by simp⟩
theorem PopI.on {T v : Int} {top : Bool} {m : DM} (h : PopI T v top m) : PopI T v true m := by
  refine ⟨h.lo, fun e => ⟨rfl, (h.fin e).2⟩, h.hi, h.b, h.b0, fun e => (h.t e).imp id fun q => ⟨q.1, rfl⟩, h.t0, h.x, h.g, fun _ => rfl⟩
theorem StI.on {T v : Int} {top : Bool} {m : DM} {lo : Bool} (h : StI T v top m lo) : StI T v true m lo :=
  ⟨h.lo0, h.fin, h.hi, h.t0, fun e => (h.t e).imp id fun q => ⟨q.1, rfl⟩, h.t2, h.x, h.g⟩
/-- The bank: whether the top went on, whether the pop has the bottom down. -/
structure OneB (tp r : Nat) (T v : Int) (top dn : Bool) (xs : List Int) : Prop where
  fit : tp + 2 + 2 ^ r ≤ xs.length
  t0 : 0 ≤ T ∧ T ≤ 1000
  top : bget xs (tp : Int) = if top then T + 1 else T
  bot : bget xs ((tp : Int) + 1) = if dn then T else T + 1
  cell : bget xs (slot tp r T) = v
def popDn (m : DM) : Bool := decide (2 ≤ m.a) && !m.done
section
variable {tp r : Nat} {T v : Int} {top dn : Bool} {xs : List Int}
theorem OneB.fit2 (h : OneB tp r T v top dn xs) : tp + 2 < xs.length := by
  have := h.fit
  have : 0 < 2 ^ r := Nat.pow_pos (by omega)
  omega
theorem OneB.bot_put (h : OneB tp r T v top dn xs) (d : Bool) (b : Int) (hb : b = if d then T else T + 1) : OneB tp r T v top d (bput xs ((tp : Int) + 1) b) := by
  have hs := slot_in tp r T
  have h2 := h.fit2
  refine ⟨by rw [bput_len]; exact h.fit, h.t0, ?_, ?_, ?_⟩
  · rw [bput_two (by omega) (by omega) (by omega)]; exact h.top
  · rw [bput_self (by omega) (by omega)]; exact hb
  · rw [bput_two (by omega) (by omega) (by omega)]; exact h.cell
theorem OneB.top_put (h : OneB tp r T v top dn xs) : OneB tp r T v true dn (bput xs (tp : Int) (T + 1)) := by
  have hs := slot_in tp r T
  have h2 := h.fit2
  refine ⟨by rw [bput_len]; exact h.fit, h.t0, ?_, ?_, ?_⟩
  · rw [bput_self (by omega) (by omega)]; rfl
  · rw [bput_two (by omega) (by omega) (by omega)]; exact h.bot
  · rw [bput_two (by omega) (by omega) (by omega)]; exact h.cell
def cnt1 (b : Bool) : Nat := if b then 1 else 0
/-- A step of the pop. -/
theorem pop_last_step {m : DM} (hB : OneB tp r T v top (popDn m) xs) (hP : PopI T v top m) :
    ∃ top' : Bool, OneB tp r T v top' (popDn (popS tp r m xs).1) (popS tp r m xs).2 ∧ PopI T v top' (popS tp r m xs).1 ∧ (top = true → top' = true) ∧ cnt1 (popS tp r m xs).1.got + cnt1 top = cnt1 m.got + cnt1 top' := by
  obtain ⟨a, t, b, x, done, got⟩ := m
  have hT := hB.t0
  cases done with
  | true =>
    refine ⟨top, ?_⟩
    rw [show popS tp r ⟨a, t, b, x, true, got⟩ xs = (⟨a, t, b, x, true, got⟩, xs) by simp [popS]]
    exact ⟨hB, hP, id, rfl⟩
  | false =>
    have h1 := hP.lo
    have h2 := hP.hi rfl
    simp only at h1 h2
    have h6 : a = 0 ∨ a = 1 ∨ a = 2 ∨ a = 3 ∨ a = 4 ∨ a = 5 := by omega
    rcases h6 with rfl | rfl | rfl | rfl | rfl | rfl
    · have hb := hB.bot
      have hg := hP.g (by simp) rfl
      have ht := hP.t0 (by simp)
      simp only at hg ht
      refine ⟨top, ?_⟩
      have e : popS tp r ⟨0, t, b, x, false, got⟩ xs = (⟨1, t, T, x, false, got⟩, xs) := by
        simp [popS, hb, popDn]
      rw [e]
      refine ⟨by simpa [popDn] using hB, ⟨by simp, by simp, by simp, by simp, by simp, by simp, fun _ => ht, by simp, fun _ _ => hg, by simp⟩, id, rfl⟩
    · have hb := hP.b (by simp)
      have hg := hP.g (by simp) rfl
      have ht := hP.t0 (by simp)
      simp only at hb hg ht
      refine ⟨top, ?_⟩
      have e : popS tp r ⟨1, t, b, x, false, got⟩ xs = (⟨2, t, b, x, false, got⟩, bput xs ((tp : Int) + 1) b) := by simp [popS]
      rw [e]
      refine ⟨?_, ⟨by simp, by simp, by simp, fun _ => hb, by simp, by simp, fun _ => ht, by simp, fun _ _ => hg, by simp⟩, id, rfl⟩
      exact hB.bot_put _ _ (by simp [popDn, hb])
    · have hb := hP.b (by simp)
      have hg := hP.g (by simp) rfl
      have ht := hB.top
      simp only at hb hg
      refine ⟨top, ?_⟩
      have e : popS tp r ⟨2, t, b, x, false, got⟩ xs = (⟨3, bget xs (tp : Int), b, x, false, got⟩, xs) := by simp [popS]
      rw [e]
      refine ⟨by simpa [popDn] using hB, ⟨by simp, by simp, by simp, fun _ => hb, by simp, fun _ => ?_, by simp, by simp, fun _ _ => hg, by simp⟩, id, rfl⟩
      rw [ht]
      cases top <;> simp
    · have hb := hP.b (by simp)
      have hg := hP.g (by simp) rfl
      have ht := hP.t (by simp)
      simp only at hb hg ht
      refine ⟨top, ?_⟩
      by_cases q : b < t
      · have ht2 : t = T + 1 ∧ top = true := by
          rcases ht with ht | ht
          · omega
          · exact ht
        have e : popS tp r ⟨3, t, b, x, false, got⟩ xs = (⟨4, t, b, x, true, got⟩, bput xs ((tp : Int) + 1) (b + 1)) := by simp only [popS]; rw [if_pos q]; rfl
        rw [e]
        refine ⟨hB.bot_put _ _ (by simp [popDn, hb]), ⟨by simp, fun _ => ⟨ht2.2, by simp [hg], by simp⟩, by simp, fun _ => hb, by simp, fun _ => .inr ht2, by simp, by simp, by simp, by simp⟩, id, rfl⟩
      · have ht2 : t = T := by rcases ht with ht | ht <;> omega
        have e : popS tp r ⟨3, t, b, x, false, got⟩ xs = (⟨4, t, b, v, false, got⟩, xs) := by
          have q2 : ¬ t < b := by omega
          simp only [popS]
          rw [if_neg q, if_neg q2, hb, hB.cell]
          rfl
        rw [e]
        refine ⟨by simpa [popDn] using hB, ⟨by simp, by simp, by simp, fun _ => hb, by simp, fun _ => .inl ht2, by simp, fun _ _ => ⟨ht2, rfl⟩, fun _ _ => hg, by simp⟩, id, rfl⟩
    · have hb := hP.b (by simp)
      have hg := hP.g (by simp) rfl
      have hx := hP.x rfl (by simp)
      have htop := hB.top
      simp only at hb hg hx
      obtain ⟨rfl, rfl⟩ := hx
      subst hg
      cases top with
      | true =>
        simp only [if_true] at htop
        refine ⟨true, ?_⟩
        have e : popS tp r ⟨4, t, b, x, false, false⟩ xs = (⟨5, t, b, x, false, false⟩, xs) := by
          have : ¬ bget xs (tp : Int) = t := by omega
          simp [popS, this]
        rw [e]
        refine ⟨by simpa [popDn] using hB, ⟨by simp, by simp, by simp, fun _ => hb, by simp, fun _ => .inl rfl, by simp, fun _ _ => ⟨rfl, rfl⟩, by simp, by simp⟩, id, rfl⟩
      | false =>
        simp only [if_false, Bool.false_eq_true] at htop
        refine ⟨true, ?_⟩
        have e : popS tp r ⟨4, t, b, x, false, false⟩ xs = (⟨5, t, b, x, false, true⟩, bput xs (tp : Int) (t + 1)) := by simp [popS, htop]
        rw [e]
        refine ⟨by simpa [popDn] using hB.top_put, ⟨by simp, by simp, by simp, fun _ => hb, by simp, fun _ => .inl rfl, by simp, fun _ _ => ⟨rfl, rfl⟩, by simp, by simp⟩, fun _ => rfl, rfl⟩
    · have hb := hP.b (by simp)
      have hx := hP.x rfl (by simp)
      have h5 := hP.five rfl
      simp only at hb hx
      subst h5
      refine ⟨true, ?_⟩
      have e : popS tp r ⟨5, t, b, x, false, got⟩ xs = (⟨6, t, b, x, true, got⟩, bput xs ((tp : Int) + 1) (b + 1)) := by simp [popS]
      rw [e]
      refine ⟨hB.bot_put _ _ (by simp [popDn, hb]), ⟨by simp, fun _ => ⟨rfl, fun _ => hx.2, by simp⟩, by simp, fun _ => hb, by simp, fun _ => .inl hx.1, by simp, by simp, by simp, by simp⟩, id, rfl⟩
/-- A step of a steal. -/
theorem steal_last_step {m : DM} {lo : Bool} (hB : OneB tp r T v top dn xs) (hS : StI T v top m lo) :
    ∃ top' : Bool, OneB tp r T v top' dn (stealS tp r m xs).2 ∧ StI T v top' (stealS tp r m xs).1 (lostS tp lo m xs) ∧ (top = true → top' = true) ∧ cnt1 (stealS tp r m xs).1.got + cnt1 top = cnt1 m.got + cnt1 top' := by
  obtain ⟨a, t, b, x, done, got⟩ := m
  have hT := hB.t0
  cases done with
  | true =>
    refine ⟨top, ?_⟩
    rw [show stealS tp r ⟨a, t, b, x, true, got⟩ xs = (⟨a, t, b, x, true, got⟩, xs) by simp [stealS], show lostS tp lo ⟨a, t, b, x, true, got⟩ xs = lo by simp [lostS]]
    exact ⟨hB, hS, id, rfl⟩
  | false =>
    have h1 := hS.lo0
    have h2 := hS.hi rfl
    obtain ⟨hg, hl⟩ := hS.g rfl
    simp only at h1 h2 hg
    subst hg hl
    have h6 : a = 0 ∨ a = 1 ∨ a = 2 ∨ a = 3 := by omega
    rcases h6 with rfl | rfl | rfl | rfl
    · have ht := hB.top
      refine ⟨top, ?_⟩
      rw [show stealS tp r ⟨0, t, b, x, false, false⟩ xs = (⟨1, bget xs (tp : Int), b, x, false, false⟩, xs) by simp [stealS], show lostS tp false ⟨0, t, b, x, false, false⟩ xs = false by simp [lostS]]
      refine ⟨hB, ⟨by simp, by simp, by simp, by simp, fun _ => ?_, by simp, by simp, by simp⟩, id, rfl⟩
      rw [ht]
      cases top <;> simp
    · have ht := hS.t (by simp)
      have hb := hB.bot
      simp only at ht
      refine ⟨top, ?_⟩
      rw [show lostS tp false ⟨1, t, b, x, false, false⟩ xs = false by simp [lostS]]
      by_cases q : bget xs ((tp : Int) + 1) ≤ t
      · rw [show stealS tp r ⟨1, t, b, x, false, false⟩ xs = (⟨2, t, bget xs ((tp : Int) + 1), x, true, false⟩, xs) by simp only [stealS]; rw [if_pos q]; rfl]
        exact ⟨hB, ⟨by simp, by simp, by simp, by simp, fun _ => ht, by simp, by simp, by simp⟩, id, rfl⟩
      · rw [show stealS tp r ⟨1, t, b, x, false, false⟩ xs = (⟨2, t, bget xs ((tp : Int) + 1), x, false, false⟩, xs) by simp only [stealS]; rw [if_neg q]; rfl]
        have ht2 : t = T := by
          rcases ht with ht | ht
          · exact ht
          · rw [hb] at q
            split at q <;> omega
        exact ⟨hB, ⟨by simp, by simp, by simp, by simp, fun _ => .inl ht2, fun _ _ => ht2, by simp, by simp⟩, id, rfl⟩
    · have ht := hS.t2 rfl (by simp)
      simp only at ht
      subst ht
      refine ⟨top, ?_⟩
      rw [show stealS tp r ⟨2, t, b, x, false, false⟩ xs = (⟨3, t, b, v, false, false⟩, xs) by simp [stealS, hB.cell], show lostS tp false ⟨2, t, b, x, false, false⟩ xs = false by simp [lostS]]
      exact ⟨hB, ⟨by simp, by simp, by simp, by simp, fun _ => .inl rfl, fun _ _ => rfl, fun _ _ => rfl, by simp⟩, id, rfl⟩
    · have ht := hS.t2 rfl (by simp)
      have hx := hS.x rfl (by simp)
      have htop := hB.top
      simp only at ht hx
      subst ht hx
      cases top with
      | true =>
        simp only [if_true] at htop
        have q : ¬ bget xs (tp : Int) = t := by omega
        refine ⟨true, ?_⟩
        rw [show stealS tp r ⟨3, t, b, x, false, false⟩ xs = (⟨4, t, b, x, true, false⟩, xs) by simp [stealS, q], show lostS tp false ⟨3, t, b, x, false, false⟩ xs = true by simp [lostS, q]]
        exact ⟨hB, ⟨by simp, by simp, by simp, by simp, fun _ => .inl rfl, by simp, by simp, by simp⟩, id, rfl⟩
      | false =>
        simp only [if_false, Bool.false_eq_true] at htop
        refine ⟨true, ?_⟩
        rw [show stealS tp r ⟨3, t, b, x, false, false⟩ xs = (⟨4, t, b, x, true, true⟩, bput xs (tp : Int) (t + 1)) by simp [stealS, htop], show lostS tp false ⟨3, t, b, x, false, false⟩ xs = false by simp [lostS, htop]]
        exact ⟨hB.top_put, ⟨by simp, fun _ _ => ⟨rfl, rfl⟩, by simp, by simp, fun _ => .inl rfl, by simp, by simp, by simp⟩, fun _ => rfl, rfl⟩
end
end Go.Proofs.Ytdgkemadhooogaa
