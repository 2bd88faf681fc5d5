/- label.Least, acequiaref06.Least (printed by gen_lableast.py). -/
import Derived.Test.YtdcbofgkfekkoaaLabValid
namespace Go.Proofs.Ytdcbofgkfekkoaa
set_option linter.unusedVariables false
set_option linter.unusedSimpArgs false
open Go.RowKit

/-- How high a residual arc's end is. -/
def kk (n : Nat) (ys : List Ar) (hs : List Int) (a : Nat) : Int := hs.getD (hd n ys a) 0
/-- The first of the lowest open ends of a vertex. -/
def LeastIs (n : Nat) (ys : List Ar) (rs hs : List Int) (lo hi : Nat) (b l : Int) (p : Bool) : Prop :=
  (p = false ∧ b = 0 ∧ l = 0 ∧ ∀ a, lo ≤ a → a < hi → ¬ 0 < rs.getD a 0) ∨
  (p = true ∧ ∃ c : Nat, b = c ∧ lo ≤ c ∧ c < hi ∧ 0 < rs.getD c 0 ∧ l = kk n ys hs c ∧ ∀ a, lo ≤ a → a < hi → 0 < rs.getD a 0 → l < kk n ys hs a ∨ (l = kk n ys hs a ∧ c ≤ a))
def LeastOf (N S T : Int) (n m : Nat) (ys : List Ar) (rs hs : List Int) (u b l : Int) (p : Bool) : Prop :=
  if mayB N S T m rs hs = true ∧ 0 ≤ u ∧ u < N then LeastIs n ys rs hs (fst ys u.toNat) (fst ys (u.toNat + 1)) b l p else b = 0 ∧ l = 0 ∧ p = false
def LeastEnd (N S T : Int) (n m : Nat) (ys : List Ar) (rs hs : List Int) (u : Int) (w : World) (e : Ending) (w' : World) : Prop := ∃ b l p, e = .returned (.tuple #[.int .i64 b, .int .i64 l, .bool p]) ∧ LeastOf N S T n m ys rs hs u b l p ∧ Kept w w'
theorem least_one {n : Nat} {ys : List Ar} {rs hs : List Int} {lo hi : Nat} {b l b' l' : Int} {p p' : Bool} (h : LeastIs n ys rs hs lo hi b l p) (h' : LeastIs n ys rs hs lo hi b' l' p') : b = b' ∧ l = l' ∧ p = p' := by
  rcases h with ⟨rfl, rfl, rfl, h1⟩ | ⟨rfl, c, rfl, h1, h2, h3, h4, h5⟩ <;> rcases h' with ⟨rfl, rfl, rfl, g1⟩ | ⟨rfl, d, rfl, g1, g2, g3, g4, g5⟩
  · exact ⟨rfl, rfl, rfl⟩
  · exact absurd g3 (h1 d g1 g2)
  · exact absurd h3 (g1 c h1 h2)
  · have a1 := h5 d g1 g2 g3
    have a2 := g5 c h1 h2 h3
    have : c = d ∧ l = l' := by omega
    obtain ⟨rfl, rfl⟩ := this
    exact ⟨rfl, rfl, rfl⟩
theorem leastOf_one {N S T : Int} {n m : Nat} {ys : List Ar} {rs hs : List Int} {u b l b' l' : Int} {p p' : Bool} (h : LeastOf N S T n m ys rs hs u b l p) (h' : LeastOf N S T n m ys rs hs u b' l' p') : b = b' ∧ l = l' ∧ p = p' := by
  unfold LeastOf at h h'
  split at h
  · rename_i hc
    rw [if_pos hc] at h'
    exact least_one h h'
  · rename_i hc
    rw [if_neg hc] at h'
    obtain ⟨rfl, rfl, rfl⟩ := h
    obtain ⟨rfl, rfl, rfl⟩ := h'
    exact ⟨rfl, rfl, rfl⟩
/-- Of those up to a, rising. -/
def Asc (N : Int) (n : Nat) (ys : List Ar) (rs hs : List Int) (lo a : Nat) (b l : Int) : Prop :=
  (l = N + 1 ∧ b = 0 ∧ ∀ a', lo ≤ a' → a' < a → ¬ 0 < rs.getD a' 0) ∨
  (∃ c : Nat, b = c ∧ lo ≤ c ∧ c < a ∧ 0 < rs.getD c 0 ∧ l = kk n ys hs c ∧ l ≤ N ∧ ∀ a', lo ≤ a' → a' < a → 0 < rs.getD a' 0 → l < kk n ys hs a' ∨ (l = kk n ys hs a' ∧ c ≤ a'))
theorem asc_skip {N : Int} {n : Nat} {ys : List Ar} {rs hs : List Int} {lo a : Nat} {b l : Int} (h : Asc N n ys rs hs lo a b l) (hk : kk n ys hs a ≤ N) (hs' : ¬ (0 < rs.getD a 0 ∧ kk n ys hs a < l)) : Asc N n ys rs hs lo (a + 1) b l := by
  rcases h with ⟨rfl, rfl, h1⟩ | ⟨c, rfl, h1, h2, h3, h4, h6, h5⟩
  · refine .inl ⟨rfl, rfl, fun a' g1 g2 => ?_⟩
    by_cases ha : a' = a
    · subst ha
      intro g
      exact hs' ⟨g, by omega⟩
    · exact h1 a' g1 (by omega)
  · refine .inr ⟨c, rfl, h1, by omega, h3, h4, h6, fun a' g1 g2 g3 => ?_⟩
    by_cases ha : a' = a
    · subst ha
      have : ¬ kk n ys hs a' < l := fun g => hs' ⟨g3, g⟩
      omega
    · exact h5 a' g1 (by omega) g3
theorem asc_take {N : Int} {n : Nat} {ys : List Ar} {rs hs : List Int} {lo a : Nat} {b l : Int} (h : Asc N n ys rs hs lo a b l) (hl : lo ≤ a) (hk : kk n ys hs a ≤ N) (h0 : 0 < rs.getD a 0) (h1 : kk n ys hs a < l) : Asc N n ys rs hs lo (a + 1) a (kk n ys hs a) := by
  refine .inr ⟨a, rfl, hl, by omega, h0, rfl, hk, fun a' g1 g2 g3 => ?_⟩
  by_cases ha : a' = a
  · subst ha; omega
  · rcases h with ⟨rfl, rfl, e1⟩ | ⟨c, rfl, e1, e2, e3, e4, e6, e5⟩
    · exact absurd g3 (e1 a' g1 (by omega))
    · have := e5 a' g1 (by omega) g3
      omega
/-- Of those from a on, falling. -/
def Desc (n : Nat) (ys : List Ar) (rs hs : List Int) (a hi : Nat) (b l : Int) : Prop :=
  (l = -1 ∧ b = 0 ∧ ∀ a', a ≤ a' → a' < hi → ¬ 0 < rs.getD a' 0) ∨
  (∃ c : Nat, b = c ∧ a ≤ c ∧ c < hi ∧ 0 < rs.getD c 0 ∧ l = kk n ys hs c ∧ 0 ≤ l ∧ ∀ a', a ≤ a' → a' < hi → 0 < rs.getD a' 0 → l < kk n ys hs a' ∨ (l = kk n ys hs a' ∧ c ≤ a'))
theorem desc_skip {n : Nat} {ys : List Ar} {rs hs : List Int} {a hi : Nat} {b l : Int} (h : Desc n ys rs hs (a + 1) hi b l) (hs' : ¬ (0 < rs.getD a 0 ∧ (l < 0 ∨ kk n ys hs a ≤ l))) : Desc n ys rs hs a hi b l := by
  rcases h with ⟨rfl, rfl, h1⟩ | ⟨c, rfl, h1, h2, h3, h4, h6, h5⟩
  · refine .inl ⟨rfl, rfl, fun a' g1 g2 => ?_⟩
    by_cases ha : a' = a
    · subst ha
      intro g
      exact hs' ⟨g, .inl (by omega)⟩
    · exact h1 a' (by omega) g2
  · refine .inr ⟨c, rfl, by omega, h2, h3, h4, h6, fun a' g1 g2 g3 => ?_⟩
    by_cases ha : a' = a
    · subst ha
      have : ¬ kk n ys hs a' ≤ l := fun g => hs' ⟨g3, .inr g⟩
      omega
    · exact h5 a' (by omega) g2 g3
theorem desc_take {n : Nat} {ys : List Ar} {rs hs : List Int} {a hi : Nat} {b l : Int} (h : Desc n ys rs hs (a + 1) hi b l) (hh : a < hi) (hk : 0 ≤ kk n ys hs a) (h0 : 0 < rs.getD a 0) (h1 : l < 0 ∨ kk n ys hs a ≤ l) : Desc n ys rs hs a hi a (kk n ys hs a) := by
  refine .inr ⟨a, rfl, by omega, hh, h0, rfl, hk, fun a' g1 g2 g3 => ?_⟩
  by_cases ha : a' = a
  · subst ha; omega
  · rcases h with ⟨rfl, rfl, e1⟩ | ⟨c, rfl, e1, e2, e3, e4, e6, e5⟩
    · exact absurd g3 (e1 a' (by omega) g2)
    · have := e5 a' (by omega) g2 g3
      omega
set_option maxRecDepth 100000 in
set_option maxHeartbeats 2000000 in
theorem least_any (N S T : Int) (n m : Nat) (a3 a4 a5 a6 a7 a8 : Option Addr) (c3 c4 c5 c6 c7 c8 : Nat) (ys : List Ar) (ra : Option Addr) (rc : Nat) (rs : List Int) (ha : Option Addr) (hc : Nat) (hs : List Int) (u : Int) (w : World) (hg : Gr N S T n m ys) (hcr : CsrR w n ys a3 a4 a5 a6 a7 a8) (hr : Rd w ra (lv rs)) (hh : Rd w ha (lv hs)) (hm : hs.length ≤ 9223372036854775807) :
    Calls Try.prog 17 #[.agg #[.int .i64 N, .int .i64 S, .int .i64 T, .slice a3 (n + 1) c3, .slice a4 m c4, .slice a5 m c5, .slice a6 m c6, .slice a7 m c7, .slice a8 m c8], .slice ra rs.length rc, .slice ha hs.length hc, .int .i64 u] w (LeastEnd N S T n m ys rs hs u w) := by
  have HK := Lib.hid ((Upd.refl (fun _ => False) w).alloc (.cells #[.int .i64 N, .int .i64 S, .int .i64 T, .slice a3 (n + 1) c3, .slice a4 m c4, .slice a5 m c5, .slice a6 m c6, .slice a7 m c7, .slice a8 m c8] 29))
  have HB := Lib.hid (Blk.new w #[.int .i64 N, .int .i64 S, .int .i64 T, .slice a3 (n + 1) c3, .slice a4 m c4, .slice a5 m c5, .slice a6 m c6, .slice a7 m c7, .slice a8 m c8] 29)
  have HR := Lib.hid (hr.kept HK.out)
  have HH := Lib.hid (hh.kept HK.out)
  have HCR := Lib.hid (hcr.kept HK.out)
  have HM := fun (w : World) (hcr : CsrR w n ys a3 a4 a5 a6 a7 a8) (hr : Rd w ra (lv rs)) (hh : Rd w ha (lv hs)) => Lib.hid (may_any N S T n m a3 a4 a5 a6 a7 a8 c3 c4 c5 c6 c7 c8 ys ra rc rs ha hc hs w hg hcr hr hh hm)
  have hlen := hg.len
  have hN := hg.ok.n16
  have HG := Lib.hid hg
  obtain ⟨hnN, hn2, hn3, hm6, -⟩ := hlen
  clear hr hh hcr hg
  obtain ⟨z, hz⟩ : ∃ z, mayB N S T m rs hs = z := ⟨_, rfl⟩
  rw [hz] at HM
  have HZ := Lib.hid hz
  clear hz
  go_enter Try.func17, Try.ntmps17
  go_upto_region 1 with (fail)
  generalize (w.alloc (.cells #[.int .i64 N, .int .i64 S, .int .i64 T, .slice a3 (n + 1) c3, .slice a4 m c4, .slice a5 m c5, .slice a6 m c6, .slice a7 m c7, .slice a8 m c8] 29)) = W0 at HB HK HR HH HCR ⊢
  generalize w.heap.size = cb at HB ⊢
  have cx := HB.out.cell
  cases z
  · go_wp2_with fail
    refine (HM _ HCR.out HR.out HH.out).out.mono ?_
    rintro e w1 ⟨rfl, hk1⟩
    have HK1 := Lib.hid (HK.out.trans hk1)
    clear hk1 cx
    go_wp2_with fail
    go_ret3
    exact ⟨0, 0, false, rfl, by unfold LeastOf; rw [if_neg (by rw [HZ.out]; simp)]; exact ⟨rfl, rfl, rfl⟩, HK1.out⟩
  · by_cases hu0 : u < 0
    · go_wp2_with fail
      refine (HM _ HCR.out HR.out HH.out).out.mono ?_
      rintro e w1 ⟨rfl, hk1⟩
      have HK1 := Lib.hid (HK.out.trans hk1)
      clear hk1 cx
      go_wp2_with fail
      go_ret3
      exact ⟨0, 0, false, rfl, by unfold LeastOf; rw [if_neg (by omega)]; exact ⟨rfl, rfl, rfl⟩, HK1.out⟩
    · by_cases huN : N ≤ u
      · go_wp2_with fail
        refine (HM _ HCR.out HR.out HH.out).out.mono ?_
        rintro e w1 ⟨rfl, hk1⟩
        have HB1 := Lib.hid (HB.out.kept hk1)
        have HK1 := Lib.hid (HK.out.trans hk1)
        have HR1 := Lib.hid (HR.out.kept hk1)
        have HH1 := Lib.hid (HH.out.kept hk1)
        have HCR1 := Lib.hid (HCR.out.kept hk1)
        clear hk1 HB HK HR HH HCR cx
        have cx := HB1.out.cell
        go_wp2_with fail
        go_ret3
        exact ⟨0, 0, false, rfl, by unfold LeastOf; rw [if_neg (by omega)]; exact ⟨rfl, rfl, rfl⟩, HK1.out⟩
      · obtain ⟨v, rfl⟩ : ∃ v : Nat, u = (v : Int) := ⟨u.toNat, by omega⟩
        have hmay := HZ.out
        simp only [mayB, Bool.and_eq_true, decide_eq_true_eq] at hmay
        have HRL := Lib.hid hmay.1
        have hhl : hs.length = n := by
          have := hmay.2
          simp only [rightB, Bool.and_eq_true, decide_eq_true_eq] at this
          have := this.1.1.1
          omega
        have HIN := Lib.hid (rightB_in hmay.2)
        have HLO : Hid (∀ b l p, LeastIs n ys rs hs (fst ys v) (fst ys (v + 1)) b l p → LeastOf N S T n m ys rs hs v b l p) := Lib.hid (fun b l p h => by
          unfold LeastOf
          rw [if_pos ⟨HZ.out, by omega, by omega⟩]
          exact h)
        have HHL := Lib.hid hhl
        clear hmay hhl
        go_wp2_with fail
        refine (HM _ HCR.out HR.out HH.out).out.mono ?_
        rintro e w1 ⟨rfl, hk1⟩
        have HB1 := Lib.hid (HB.out.kept hk1)
        have HK1 := Lib.hid (HK.out.trans hk1)
        have HR1 := Lib.hid (HR.out.kept hk1)
        have HH1 := Lib.hid (HH.out.kept hk1)
        have HCR1 := Lib.hid (HCR.out.kept hk1)
        clear hk1 HB HK HR HH HCR cx
        have cx := HB1.out.cell
        have w2 : wrap64 (N + 1) = N + 1 := by unfold wrap64; omega
        have hmono := fst_mono ys (show v ≤ v + 1 by omega)
        have hmono2 : fst ys (v + 1) ≤ m := by rw [← HG.out.hm]; exact fst_mono ys (show v + 1 ≤ n by omega)
        obtain ⟨b3, o3, rfl, d0⟩ := HCR1.out.r3.at v (by rw [nv_len, firsts_len]; omega)
        rw [firsts_get n ys v (by omega)] at d0
        have j0 : (0 : Int) ≤ (v : Int) := by omega
        have j1 : (v : Int) < (n : Int) + 1 := by omega
        have j2 : (0 : Int) ≤ (v : Int) + 1 := by omega
        have j3 : (v : Int) + 1 < (n : Int) + 1 := by omega
        go_upto_region 3 with (fail)
        go_big_quiet (fail)
        have HB1 := Lib.hid (HB1.out.kept (drewN_kept w1 nq))
        have HKD := Lib.hid (drewN_kept w1 nq)
        have d0 : (w1.drewN nq).cell? ⟨b3, o3 + v, none⟩ = some (.int .i64 (fst ys v : Nat)) := d0
        clear cx
        generalize w1.drewN nq = W4 at HB1 HKD d0 ⊢
        have cx := HB1.out.cell
        go_wp2_with fail
        clear d0
        go_loopw [11, 12, 13] (fun bx lx ax wr => ∃ (b l : Int) (i : Nat), ax = .int .i64 i ∧ bx = .int .i64 b ∧ lx = .int .i64 l ∧ fst ys v ≤ i ∧ i ≤ fst ys (v + 1) ∧ Hid (Asc N n ys rs hs (fst ys v) i b l) ∧ W4 = wr) (fun bx lx ax _ => fst ys (v + 1) - (intOf ax).toNat)
        case atStart => exact ⟨0, N + 1, fst ys v, rfl, rfl, rfl, by omega, by omega, Lib.hid (.inl ⟨rfl, rfl, fun a' g1 g2 => by omega⟩), rfl⟩
        case round =>
          obtain ⟨b, l, i, rfl, rfl, rfl, hi0, hi1, HA, rfl⟩ := hrel
          have HK := HKD
          obtain ⟨b3', o3', e3, d1⟩ := (HCR1.out.r3.kept HKD.out).at (v + 1) (by rw [nv_len, firsts_len]; omega)
          cases e3
          rw [firsts_get n ys (v + 1) (by omega)] at d1
          by_cases hlt : i < fst ys (v + 1)
          · as_aux_lemma =>
            have hjt : (i : Int) < (fst ys (v + 1) : Nat) := by omega
            have hhl := HHL.out
            have htm : i < m := by omega
            obtain ⟨hhd, hhn⟩ := hd_get HG.out i htm
            obtain ⟨b4, o4, rfl, d4⟩ := (HCR1.out.r4.kept HK.out).at i (by rw [hv_len, HG.out.hm]; exact htm)
            rw [hhd] at d4
            have him2 : i < rs.length := by have := HRL.out; omega
            obtain ⟨br, or, rfl, dr⟩ := (HR1.out.kept HK.out).at i (by rw [lv_len]; exact him2)
            rw [lv_get him2] at dr
            obtain ⟨bh, oh, rfl, dh⟩ := (HH1.out.kept HK.out).at (hd n ys i) (by rw [lv_len]; omega)
            rw [lv_get (by omega)] at dh
            obtain ⟨-, y2a, y2b⟩ := HIN.out (hd n ys i) (by omega)
            have j4 : (0 : Int) ≤ (i : Int) := by omega
            have j5 : (i : Int) < (m : Int) := by omega
            have j6 : (i : Int) < (rs.length : Int) := by omega
            have j8 : ((hd n ys i : Nat) : Int) < (hs.length : Int) := by omega
            have j9 : (0 : Int) ≤ ((hd n ys i : Nat) : Int) := by omega
            have HKK : Hid (hs.getD (hd n ys i) 0 = kk n ys hs i) := Lib.hid rfl
            obtain ⟨x, hx⟩ : ∃ x, rs.getD i 0 = x := ⟨_, rfl⟩
            have HX := Lib.hid hx
            rw [hx] at dr
            clear hx hhd
            generalize hs.getD (hd n ys i) 0 = y2 at HKK dh y2a y2b
            generalize hd n ys i = hv0 at *
            clear hhl
            by_cases hz2 : 0 < x
            · by_cases hz3 : y2 < l
              · go_wp2_with fail
                go_roundw
                case rel =>
                  refine ⟨i, y2, i + 1, by go_num, rfl, rfl, by omega, by omega, Lib.hid ?_, by first | rfl | trivial⟩
                  have h1 := asc_take HA.out hi0 (by rw [← HKK.out]; omega) (by rw [HX.out]; exact hz2) (by rw [← HKK.out]; exact hz3)
                  rw [← HKK.out] at h1
                  exact h1
                case measure => simp [intOf]; omega
              · have HZ3 := Lib.hid hz3
                have hb5 : decide (y2 < l) = false := by simpa using hz3
                clear hz3
                go_wp2_with fail
                go_roundw
                case rel =>
                  refine ⟨b, l, i + 1, by go_num, rfl, rfl, by omega, by omega, Lib.hid ?_, by first | rfl | trivial⟩
                  exact asc_skip HA.out (by rw [← HKK.out]; omega) (by rw [← HKK.out]; exact fun h => HZ3.out h.2)
                case measure => simp [intOf]; omega
            · have HZ2 := Lib.hid hz2
              have hb5 : decide (0 < x) = false := by simpa using hz2
              clear hz2
              go_wp2_with fail
              go_roundw
              case rel =>
                refine ⟨b, l, i + 1, by go_num, rfl, rfl, by omega, by omega, Lib.hid ?_, by first | rfl | trivial⟩
                exact asc_skip HA.out (by rw [← HKK.out]; omega) (by rw [HX.out]; exact fun h => HZ2.out h.1)
              case measure => simp [intOf]; omega
          · have hiM : i = fst ys (v + 1) := by omega
            have HAE := Lib.hid (hiM ▸ HA.out)
            clear HA
            rcases HAE.out with ⟨rfl, rfl, h1⟩ | ⟨c, rfl, h1, h2, h3, h4, h6, h5⟩
            · have H1 := Lib.hid h1
              clear h1 hiM
              have hq : N < N + 1 := by omega
              go_wp2_with fail
              go_ret3
              exact ⟨0, 0, false, rfl, HLO.out _ _ _ (.inl ⟨rfl, rfl, rfl, fun a g1 g2 => by have := H1.out a g1 g2; omega⟩), HK1.out.trans HKD.out⟩
            · have H5 := Lib.hid (And.intro h1 (And.intro h2 (And.intro h3 (And.intro h4 h5))))
              have hq : ¬ N < l := by omega
              clear h1 h2 h3 h4 h5 hiM
              go_wp2_with fail
              go_ret3
              exact ⟨c, l, true, rfl, HLO.out _ _ _ (.inr ⟨rfl, c, rfl, H5.out⟩), HK1.out.trans HKD.out⟩
end Go.Proofs.Ytdcbofgkfekkoaa
