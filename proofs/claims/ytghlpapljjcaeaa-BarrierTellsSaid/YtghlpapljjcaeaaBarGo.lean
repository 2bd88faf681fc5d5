/- A machine's step, upon a bank of which two cells count. -/
import Derived.Test.YtghlpapljjcaeaaBarBank
namespace Go.Proofs.Ytghlpapljjcaeaa
set_option linter.unusedVariables false
open Go.RowKit

/-- A bank with c in the counter's cell, q in the sense's. -/
def bq (L : List Int) (c q : Int) : List Int := bput (bput L 9 c) 10 q
theorem bput9 (L : List Int) (v : Int) : bput L 9 v = L.set 9 v := bput_in v (by omega)
theorem bput10 (L : List Int) (v : Int) : bput L 10 v = L.set 10 v := bput_in v (by omega)
theorem bq_9 (L : List Int) (c q r : Int) : bput (bq L c q) 9 r = bq L r q := by
  unfold bq
  simp only [bput9, bput10]
  rw [List.set_comm _ _ (by omega), List.set_set]
theorem bq_10 (L : List Int) (c q r : Int) : bput (bq L c q) 10 r = bq L c r := by
  unfold bq
  simp only [bput9, bput10]
  rw [List.set_set]
theorem bq_len (L : List Int) (c q : Int) : (bq L c q).length = L.length := by simp [bq]
theorem bq_at9 (L : List Int) (c q : Int) (h : 10 < L.length) : bget (bq L c q) 9 = c := by
  rw [bget_in (by omega)]
  unfold bq
  simp only [bput9, bput10]
  simp [List.getD, show 9 < L.length by omega]
theorem bq_at10 (L : List Int) (c q : Int) (h : 10 < L.length) : bget (bq L c q) 10 = q := by
  rw [bget_in (by omega)]
  unfold bq
  simp only [bput9, bput10]
  simp [List.getD, h]
/-- What a step makes of a machine, the counter and the sense. -/
def bgo (n : Int) (m : MS) (c q : Int) : MS × Int × Int :=
  if m.nx = 0 then (⟨1, if q = 0 then 1 else 0, m.last⟩, c, q)
  else if m.nx = 1 then (⟨if wrap64 (c + -1) = 0 then 2 else 4, m.own, wrap64 (c + -1) == 0⟩, wrap64 (c + -1), q)
  else if m.nx = 2 then (⟨3, m.own, m.last⟩, n, q)
  else if m.nx = 3 then (⟨5, m.own, m.last⟩, c, m.own)
  else if m.nx = 4 then (⟨if q = m.own then 5 else 4, m.own, m.last⟩, c, q)
  else (m, c, q)
theorem step_bq {w : World} {mb bb g : Nat} {n s : Int} {ms : List MS} {L : List Int} {m m' : MS} {c q c' q' : Int} {z : Bool} (hg : bgo n m c q = (m', c', q')) (hz : (m'.nx == 5) = z) (h0 : 0 ≤ m.nx) (h5 : m.nx ≤ 5)
    (i o : Nat) (ho : o = i * 17) (hi : ms[i]? = some m) (hm : Mach w mb n s ms) (hb : Bnk w bb g (bq L c q)) (hl : 10 < L.length) (hne : ¬ mb = g ∧ ¬ mb = bb) :
    Calls Try.prog 15 #[.pointer (some ⟨mb, o, none⟩), .pointer (some ⟨bb, 0, none⟩)] w (Stp mb bb g n s (ms.set i m') (bq L c' q') z w) := by
  obtain ⟨nx, own, last⟩ := m
  simp only at h0 h5
  have hc : nx = 0 ∨ nx = 1 ∨ nx = 2 ∨ nx = 3 ∨ nx = 4 ∨ nx = 5 := by omega
  rcases hc with rfl | rfl | rfl | rfl | rfl | rfl
  · obtain ⟨rfl, rfl, rfl⟩ : (⟨1, if q = 0 then 1 else 0, last⟩ : MS) = m' ∧ c = c' ∧ q = q' := by simpa [bgo] using hg
    subst hz
    exact step_0 i o ho hi hm hb hne _ (by rw [bq_at10 L c q hl])
  · obtain ⟨rfl, rfl, rfl⟩ : (⟨if wrap64 (c + -1) = 0 then 2 else 4, own, wrap64 (c + -1) == 0⟩ : MS) = m' ∧ wrap64 (c + -1) = c' ∧ q = q' := by simpa [bgo] using hg
    subst hz
    have e : wrap64 (bget (bq L c q) 9 + -1) = wrap64 (c + -1) := by rw [bq_at9 L c q hl]
    generalize wrap64 (c + -1) = r at e
    by_cases hr : r = 0
    · subst hr
      have := step_1t i o ho hi hm hb hne (by rw [bq_len]; omega) 0 e rfl
      rw [bq_9] at this
      simpa using this
    · have hb0 : (r == 0) = false := by simpa using hr
      have := step_1f i o ho hi hm hb hne (by rw [bq_len]; omega) r e hb0
      rw [bq_9] at this
      simpa [hr, hb0] using this
  · obtain ⟨rfl, rfl, rfl⟩ : (⟨3, own, last⟩ : MS) = m' ∧ n = c' ∧ q = q' := by simpa [bgo] using hg
    subst hz
    have := step_2 i o ho hi hm hb hne
    rw [bq_9] at this
    exact this
  · obtain ⟨rfl, rfl, rfl⟩ : (⟨5, own, last⟩ : MS) = m' ∧ c = c' ∧ own = q' := by simpa [bgo] using hg
    subst hz
    have := step_3 i o ho hi hm hb hne
    rw [bq_10] at this
    exact this
  · obtain ⟨rfl, rfl, rfl⟩ : (⟨if q = own then 5 else 4, own, last⟩ : MS) = m' ∧ c = c' ∧ q = q' := by simpa [bgo] using hg
    subst hz
    by_cases hx : q = own
    · have := step_4t i o ho hi hm hb hne (by rw [bq_at10 L c q hl]; exact hx)
      simpa [hx] using this
    · have := step_4f i o ho hi hm hb hne (by rw [bq_at10 L c q hl]; exact hx)
      simpa [hx] using this
  · obtain ⟨rfl, rfl, rfl⟩ : (⟨5, own, last⟩ : MS) = m' ∧ c = c' ∧ q = q' := by simpa [bgo] using hg
    subst hz
    have := step_5 i o ho hi hm hb
    have e : ms.set i ⟨5, own, last⟩ = ms := by
      obtain ⟨h1, h2⟩ := List.getElem?_eq_some_iff.1 hi
      rw [← h2]; exact List.set_getElem_self h1
    rw [e]
    exact this
theorem load_9 {w : World} {bb g : Nat} {L : List Int} {c q : Int} (h : Bnk w bb g (bq L c q)) (hl : 10 < L.length) :
    Calls Try.prog 10 #[.pointer (some ⟨bb, 0, none⟩), .int .i64 9] w fun e w' => e = .returned (.int .i64 c) ∧ w = w' := Load_is h 9 c (bq_at9 L c q hl)
theorem load_10 {w : World} {bb g : Nat} {L : List Int} {c q : Int} (h : Bnk w bb g (bq L c q)) (hl : 10 < L.length) :
    Calls Try.prog 10 #[.pointer (some ⟨bb, 0, none⟩), .int .i64 10] w fun e w' => e = .returned (.int .i64 q) ∧ w = w' := Load_is h 10 q (bq_at10 L c q hl)
/-- One machine by itself. -/
theorem Mach.one {w : World} {mb : Nat} {n s : Int} {m : MS} (h : Blk w mb (mcell n s m).toArray 46) : Mach w mb n s [m] := by
  exact ⟨[], by simpa using h, fun l hl => by simp at hl; subst hl; rfl⟩
theorem one_bq {w : World} {mb bb g : Nat} {n s : Int} {L : List Int} {m m' : MS} {c q c' q' : Int} {z : Bool} (hg : bgo n m c q = (m', c', q')) (hz : (m'.nx == 5) = z) (h0 : 0 ≤ m.nx) (h5 : m.nx ≤ 5)
    (hm : Mach w mb n s [m]) (hb : Bnk w bb g (bq L c q)) (hl : 10 < L.length) (hne : ¬ mb = g ∧ ¬ mb = bb) :
    Calls Try.prog 15 #[.pointer (some ⟨mb, 0, none⟩), .pointer (some ⟨bb, 0, none⟩)] w (Stp mb bb g n s [m'] (bq L c' q') z w) :=
  step_bq hg hz h0 h5 0 0 rfl rfl hm hb hl hne
theorem one_last {w : World} {mb : Nat} {n s : Int} {m : MS} {z : Bool} (hm : Mach w mb n s [m]) (hz : m.last = z) :
    Calls Try.prog 16 #[.pointer (some ⟨mb, 0, none⟩)] w fun e w' => e = .returned (.bool z) ∧ w = w' := by
  subst hz
  obtain ⟨nx, own, last⟩ := m
  exact last_any 0 0 rfl rfl hm
end Go.Proofs.Ytghlpapljjcaeaa
