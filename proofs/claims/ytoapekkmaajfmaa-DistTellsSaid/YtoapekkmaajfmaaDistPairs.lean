/- Of each pair of answers of chapter 5 that they are one (printed by gen_disttells.py). -/
import Derived.Test.YtoapekkmaajfmaaRefRows
import Derived.Test.YtoapekkmaajfmaaRefWay
import Derived.Test.YtoapekkmaajfmaaDistFr
namespace Go.Proofs.Ytoapekkmaajfmaa
set_option linter.unusedVariables false
set_option linter.unusedSimpArgs false
open Go.RowKit

theorem isD_ex (n s : Nat) (E : Nat → Nat → Prop) : ∃ D : List Nat, D.length ≤ n ∧ ∀ d, IsD n s E d → d = D := by
  by_cases h : ∃ d, IsD n s E d
  · obtain ⟨D, hD⟩ := h
    exact ⟨D, by rw [hD.len]; exact Nat.le_refl _, fun d hd => hd.one hD⟩
  · exact ⟨[], by simp, fun d hd => absurd ⟨d, hd⟩ h⟩
def SlN (D : List Nat) (w : World) (e : Ending) (w' : World) : Prop := ∃ a c, e = .returned (.slice a D.length c) ∧ Rd w' a (nv D) ∧ Kept w w'
def SlZ (D : List Nat) (z : Bool) (w : World) (e : Ending) (w' : World) : Prop := ∃ a c, e = .returned (.tuple #[.slice a D.length c, .bool z]) ∧ Rd w' a (nv D) ∧ Kept w w'
def SlR (L : Nat) (R : Nat → List Nat) (w : World) (e : Ending) (w' : World) : Prop := ∃ a c, e = .returned (.slice a L c) ∧ RowsV w' a L R ∧ Kept w w'
theorem to_pair (N S T : Int) (n m : Nat) (a3 a4 a5 a6 a7 a8 : Option Addr) (c3 c4 c5 c6 c7 c8 : Nat) (ys : List Ar) (ra : Option Addr) (rl rc : Nat) (rs : List Int) (t : Int) (hg : Gr N S T n m ys) (hrl : rs.length = rl) : ∃ D : List Nat, D.length ≤ 16 ∧ ∀ w, CsrR w n ys a3 a4 a5 a6 a7 a8 → Rd w ra (lv rs) →
    Calls Try.prog 11 #[.agg #[.int .i64 N, .int .i64 S, .int .i64 T, .slice a3 (n + 1) c3, .slice a4 m c4, .slice a5 m c5, .slice a6 m c6, .slice a7 m c7, .slice a8 m c8], .slice ra rl rc, .int .i64 t] w (SlN D w) ∧ Calls Try.prog 18 #[.agg #[.int .i64 N, .int .i64 S, .int .i64 T, .slice a3 (n + 1) c3, .slice a4 m c4, .slice a5 m c5, .slice a6 m c6, .slice a7 m c7, .slice a8 m c8], .slice ra rl rc, .int .i64 t] w (SlN D w) := by
  cases hz : (decide (rl = m) && decide (0 ≤ t) && decide (t < N)) with
  | true =>
    simp only [Bool.and_eq_true, decide_eq_true_eq] at hz
    obtain ⟨⟨h1, h2⟩, h3⟩ := hz
    subst h1
    obtain ⟨hnN, -, h16, -⟩ := hg.len
    obtain ⟨v, rfl⟩ : ∃ v : Nat, t = (v : Int) := ⟨t.toNat, by omega⟩
    obtain ⟨D, h5, h6⟩ := isD_ex n v (fun u x => OpenA n rl ys rs x u)
    refine ⟨D, by omega, fun w hc hr => ⟨?_, ?_⟩⟩
    · refine (to_ok N S T n rl a3 a4 a5 a6 a7 a8 c3 c4 c5 c6 c7 c8 ys ra rc rs v w hg hc hr hrl (by omega)).mono ?_
      rintro e w' ⟨db, d, rfl, hb, -, hd, hk⟩
      rw [← h6 d hd]
      exact ⟨_, n, by rw [hd.len], Rd.blk hb, hk⟩
    · refine (refTo_ok N S T n rl a3 a4 a5 a6 a7 a8 c3 c4 c5 c6 c7 c8 ys ra rc rs v w hg hc hr hrl (by omega)).mono ?_
      rintro e w' ⟨db, c, d, rfl, hb, hd, hk⟩
      rw [← h6 d hd]
      exact ⟨_, c, by rw [hd.len], hb, hk⟩
  | false =>
    refine ⟨[], by simp, fun w hc hr => ⟨?_, ?_⟩⟩
    · exact (to_no N S T n m a3 a4 a5 a6 a7 a8 c3 c4 c5 c6 c7 c8 ra rl rc t w hz).mono fun e w' ⟨h1, h2⟩ => ⟨none, 0, h1, .inl rfl, h2⟩
    · exact (refTo_no N S T n m a3 a4 a5 a6 a7 a8 c3 c4 c5 c6 c7 c8 ra rl rc t w hz).mono fun e w' ⟨h1, h2⟩ => ⟨none, 0, h1, .inl rfl, h2⟩
theorem from_pair (N S T : Int) (n m : Nat) (a3 a4 a5 a6 a7 a8 : Option Addr) (c3 c4 c5 c6 c7 c8 : Nat) (ys : List Ar) (ra : Option Addr) (rl rc : Nat) (rs : List Int) (t : Int) (hg : Gr N S T n m ys) (hrl : rs.length = rl) : ∃ D : List Nat, D.length ≤ 16 ∧ ∀ w, CsrR w n ys a3 a4 a5 a6 a7 a8 → Rd w ra (lv rs) →
    Calls Try.prog 12 #[.agg #[.int .i64 N, .int .i64 S, .int .i64 T, .slice a3 (n + 1) c3, .slice a4 m c4, .slice a5 m c5, .slice a6 m c6, .slice a7 m c7, .slice a8 m c8], .slice ra rl rc, .int .i64 t] w (SlN D w) ∧ Calls Try.prog 19 #[.agg #[.int .i64 N, .int .i64 S, .int .i64 T, .slice a3 (n + 1) c3, .slice a4 m c4, .slice a5 m c5, .slice a6 m c6, .slice a7 m c7, .slice a8 m c8], .slice ra rl rc, .int .i64 t] w (SlN D w) := by
  cases hz : (decide (rl = m) && decide (0 ≤ t) && decide (t < N)) with
  | true =>
    simp only [Bool.and_eq_true, decide_eq_true_eq] at hz
    obtain ⟨⟨h1, h2⟩, h3⟩ := hz
    subst h1
    obtain ⟨hnN, -, h16, -⟩ := hg.len
    obtain ⟨v, rfl⟩ : ∃ v : Nat, t = (v : Int) := ⟨t.toNat, by omega⟩
    obtain ⟨D, h5, h6⟩ := isD_ex n v (OpenA n rl ys rs)
    refine ⟨D, by omega, fun w hc hr => ⟨?_, ?_⟩⟩
    · refine (from_ok N S T n rl a3 a4 a5 a6 a7 a8 c3 c4 c5 c6 c7 c8 ys ra rc rs v w hg hc hr hrl (by omega)).mono ?_
      rintro e w' ⟨db, d, rfl, hb, -, hd, hk⟩
      rw [← h6 d hd]
      exact ⟨_, n, by rw [hd.len], Rd.blk hb, hk⟩
    · refine (refFrom_ok N S T n rl a3 a4 a5 a6 a7 a8 c3 c4 c5 c6 c7 c8 ys ra rc rs v w hg hc hr hrl (by omega)).mono ?_
      rintro e w' ⟨db, c, d, rfl, hb, hd, hk⟩
      rw [← h6 d hd]
      exact ⟨_, c, by rw [hd.len], hb, hk⟩
  | false =>
    refine ⟨[], by simp, fun w hc hr => ⟨?_, ?_⟩⟩
    · exact (from_no N S T n m a3 a4 a5 a6 a7 a8 c3 c4 c5 c6 c7 c8 ra rl rc t w hz).mono fun e w' ⟨h1, h2⟩ => ⟨none, 0, h1, .inl rfl, h2⟩
    · exact (refFrom_no N S T n m a3 a4 a5 a6 a7 a8 c3 c4 c5 c6 c7 c8 ra rl rc t w hz).mono fun e w' ⟨h1, h2⟩ => ⟨none, 0, h1, .inl rfl, h2⟩
theorem rows_pair (N S T : Int) (n m : Nat) (a3 a4 a5 a6 a7 a8 : Option Addr) (c3 c4 c5 c6 c7 c8 : Nat) (ys : List Ar) (ra : Option Addr) (rl rc : Nat) (rs : List Int) (t : Int) (hg : Gr N S T n m ys) (hrl : rs.length = rl) : ∃ (L : Nat) (R : Nat → List Nat), L ≤ 16 ∧ (∀ j, j < L → (R j).length ≤ 16) ∧ ∀ w, CsrR w n ys a3 a4 a5 a6 a7 a8 → Rd w ra (lv rs) →
    Calls Try.prog 15 #[.agg #[.int .i64 N, .int .i64 S, .int .i64 T, .slice a3 (n + 1) c3, .slice a4 m c4, .slice a5 m c5, .slice a6 m c6, .slice a7 m c7, .slice a8 m c8], .slice ra rl rc, .int .i64 t] w (SlR L R w) ∧ Calls Try.prog 21 #[.agg #[.int .i64 N, .int .i64 S, .int .i64 T, .slice a3 (n + 1) c3, .slice a4 m c4, .slice a5 m c5, .slice a6 m c6, .slice a7 m c7, .slice a8 m c8], .slice ra rl rc, .int .i64 t] w (SlR L R w) := by
  cases hz : (decide (rl = m) && decide (0 ≤ t) && decide (t < N)) with
  | true =>
    simp only [Bool.and_eq_true, decide_eq_true_eq] at hz
    obtain ⟨⟨h1, h2⟩, h3⟩ := hz
    subst h1
    obtain ⟨hnN, -, h16, -⟩ := hg.len
    obtain ⟨v, rfl⟩ : ∃ v : Nat, t = (v : Int) := ⟨t.toNat, by omega⟩
    obtain ⟨D, h5, h6⟩ := isD_ex n v (fun u x => OpenA n rl ys rs x u)
    obtain ⟨L, h7, h8⟩ : ∃ L, L ≤ 16 ∧ ∀ L', Many n D n L' → L' = L := by
      by_cases h : ∃ L, Many n D n L
      · obtain ⟨L, hL⟩ := h
        exact ⟨L, by have := hL.2.2; omega, fun L' h' => h'.one hL (Nat.le_refl _)⟩
      · exact ⟨0, by omega, fun L' h' => absurd ⟨L', h'⟩ h⟩
    refine ⟨L, lvl D n, h7, fun j _ => ?_, fun w hc hr => ⟨?_, ?_⟩⟩
    · have := List.length_filter_le (fun x => D.getD x 0 == j) (List.range n)
      rw [List.length_range] at this
      unfold lvl
      omega
    · refine (rows_ok N S T n rl a3 a4 a5 a6 a7 a8 c3 c4 c5 c6 c7 c8 ys ra rc rs v w hg hc hr hrl (by omega)).mono ?_
      rintro e w' ⟨d, a, L', c, rfl, hd, hm, hv, hk⟩
      obtain rfl := h6 d hd
      obtain rfl := h8 L' hm
      exact ⟨a, c, rfl, hv, hk⟩
    · refine (refRows_ok N S T n rl a3 a4 a5 a6 a7 a8 c3 c4 c5 c6 c7 c8 ys ra rc rs v w hg hc hr hrl (by omega)).mono ?_
      rintro e w' ⟨d, a, L', c, rfl, hd, hm, hv, hk⟩
      obtain rfl := h6 d hd
      obtain rfl := h8 L' hm
      exact ⟨a, c, rfl, hv, hk⟩
  | false =>
    refine ⟨0, fun _ => [], by omega, fun j h => by omega, fun w hc hr => ⟨?_, ?_⟩⟩
    · exact (rows_no N S T n m a3 a4 a5 a6 a7 a8 c3 c4 c5 c6 c7 c8 ra rl rc t w hz).mono fun e w' ⟨h1, h2⟩ => ⟨none, 0, h1, ⟨[], .inl rfl, rfl, fun j h => by omega⟩, h2⟩
    · exact (refRows_no N S T n m a3 a4 a5 a6 a7 a8 c3 c4 c5 c6 c7 c8 ra rl rc t w hz).mono fun e w' ⟨h1, h2⟩ => ⟨none, 0, h1, ⟨[], .inl rfl, rfl, fun j h => by omega⟩, h2⟩
theorem way_pair (N S T : Int) (n m : Nat) (a3 a4 a5 a6 a7 a8 : Option Addr) (c3 c4 c5 c6 c7 c8 : Nat) (ys : List Ar) (ra : Option Addr) (rl rc : Nat) (rs : List Int) (s t : Int) (hg : Gr N S T n m ys) (hrl : rs.length = rl) : ∃ (D : List Nat) (z : Bool), D.length ≤ 16 ∧ ∀ w, CsrR w n ys a3 a4 a5 a6 a7 a8 → Rd w ra (lv rs) →
    Calls Try.prog 16 #[.agg #[.int .i64 N, .int .i64 S, .int .i64 T, .slice a3 (n + 1) c3, .slice a4 m c4, .slice a5 m c5, .slice a6 m c6, .slice a7 m c7, .slice a8 m c8], .slice ra rl rc, .int .i64 s, .int .i64 t] w (SlZ D z w) ∧ Calls Try.prog 17 #[.agg #[.int .i64 N, .int .i64 S, .int .i64 T, .slice a3 (n + 1) c3, .slice a4 m c4, .slice a5 m c5, .slice a6 m c6, .slice a7 m c7, .slice a8 m c8], .slice ra rl rc, .int .i64 s, .int .i64 t] w (SlZ D z w) := by
  cases hz : (decide (rl = m) && decide (0 ≤ t) && decide (t < N)) with
  | true =>
    simp only [Bool.and_eq_true, decide_eq_true_eq] at hz
    obtain ⟨⟨h1, h2⟩, h3⟩ := hz
    subst h1
    obtain ⟨hnN, -, h16, -⟩ := hg.len
    obtain ⟨v, rfl⟩ : ∃ v : Nat, t = (v : Int) := ⟨t.toNat, by omega⟩
    by_cases hs : s < 0 ∨ N ≤ s
    · refine ⟨[], false, by simp, fun w hc hr => ⟨?_, ?_⟩⟩
      · exact (way_out N S T n rl a3 a4 a5 a6 a7 a8 c3 c4 c5 c6 c7 c8 ys ra rc rs s v w hg hc hr hrl (by omega) hs).mono fun e w' ⟨h1, h2⟩ => ⟨none, 0, h1, .inl rfl, h2⟩
      · exact (refWay_out N S T n rl a3 a4 a5 a6 a7 a8 c3 c4 c5 c6 c7 c8 ys ra rc rs s v w hg hc hr hrl (by omega) hs).mono fun e w' ⟨h1, h2⟩ => ⟨none, 0, h1, .inl rfl, h2⟩
    · obtain ⟨u, rfl⟩ : ∃ u : Nat, s = (u : Int) := ⟨s.toNat, by omega⟩
      obtain ⟨D, h5, h6⟩ := isD_ex n v (fun u x => OpenA n rl ys rs x u)
      have main : ∃ (W : List Nat) (z : Bool), W.length ≤ 16 ∧ ∀ w e w', WayEnd n rl ys rs u v w e w' → SlZ W z w e w' := by
        by_cases hd : D.getD u 0 < n
        · obtain ⟨W, hW1, hW2⟩ : ∃ W : List Nat, W.length ≤ 16 ∧ ∀ ws, WayL n rl ys rs D u ws → ws.length = D.getD u 0 → ws = W := by
            by_cases h : ∃ ws, WayL n rl ys rs D u ws ∧ ws.length = D.getD u 0
            · obtain ⟨W, q1, q2⟩ := h
              exact ⟨W, by omega, fun ws p1 p2 => p1.one q1 (by omega)⟩
            · exact ⟨[], by simp, fun ws p1 p2 => absurd ⟨ws, p1, p2⟩ h⟩
          refine ⟨W, true, hW1, ?_⟩
          rintro w e w' ⟨d, ws, a, k, c, z, rfl, hl, hr, hi, q0, q1, hk⟩
          obtain rfl := h6 d hi
          cases z with
          | false => have := (q0 rfl).2; omega
          | true =>
            obtain ⟨-, p2, -, p4⟩ := q1 rfl
            obtain rfl := hW2 ws p4 (by omega)
            exact ⟨a, c, by rw [hl], hr, hk⟩
        · refine ⟨[], false, by simp, ?_⟩
          rintro w e w' ⟨d, ws, a, k, c, z, rfl, hl, hr, hi, q0, q1, hk⟩
          obtain rfl := h6 d hi
          cases z with
          | true => exact absurd (q1 rfl).1 hd
          | false =>
            have h0 := (q0 rfl).1
            subst h0
            obtain rfl := List.eq_nil_of_length_eq_zero hl
            exact ⟨a, c, rfl, hr, hk⟩
      obtain ⟨W, z, hl, hW⟩ := main
      refine ⟨W, z, hl, fun w hc hr => ⟨?_, ?_⟩⟩
      · exact (way_ok N S T n rl a3 a4 a5 a6 a7 a8 c3 c4 c5 c6 c7 c8 ys ra rc rs u v w hg hc hr hrl (by omega) (by omega)).mono fun e w' h => hW w e w' h
      · exact (refWay_ok N S T n rl a3 a4 a5 a6 a7 a8 c3 c4 c5 c6 c7 c8 ys ra rc rs u v w hg hc hr hrl (by omega) (by omega)).mono fun e w' h => hW w e w' h
  | false =>
    refine ⟨[], false, by simp, fun w hc hr => ⟨?_, ?_⟩⟩
    · exact (way_no N S T n m a3 a4 a5 a6 a7 a8 c3 c4 c5 c6 c7 c8 ra rl rc s t w hz).mono fun e w' ⟨h1, h2⟩ => ⟨none, 0, h1, .inl rfl, h2⟩
    · exact (refWay_no N S T n m a3 a4 a5 a6 a7 a8 c3 c4 c5 c6 c7 c8 ra rl rc s t w hz).mono fun e w' ⟨h1, h2⟩ => ⟨none, 0, h1, .inl rfl, h2⟩
end Go.Proofs.Ytoapekkmaajfmaa
