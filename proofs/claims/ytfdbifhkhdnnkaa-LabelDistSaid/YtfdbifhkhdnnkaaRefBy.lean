/- acequiaref06.by, Steep, Flat (printed by gen_refby.py). -/
import Derived.Test.YtfdbifhkhdnnkaaLabDown2
import Derived.Test.YtfdbifhkhdnnkaaRefRight
namespace Go.Proofs.Ytfdbifhkhdnnkaa
set_option linter.unusedVariables false
set_option linter.unusedSimpArgs false
open Go.RowKit

def inP (lo hi k : Int) : Bool := decide (lo ≤ k) && decide (k ≤ hi)
theorem dnL_congr {N S T : Int} {n m : Nat} {ys : List Ar} {rs hs : List Int} {p p' : Int → Bool} (h : ∀ x, x ≤ N → p x = p' x) : dnL N S T n m ys rs hs p = dnL N S T n m ys rs hs p' := by
  unfold dnL
  split
  · rename_i hm
    refine List.filter_congr fun a ha => ?_
    unfold dnQ
    have hr : rightB N S T hs = true := by
      simp only [mayB, Bool.and_eq_true] at hm
      exact hm.2
    have h0 : ∀ i, 0 ≤ hs.getD i 0 ∧ hs.getD i 0 ≤ N ∨ hs.getD i 0 = 0 := by
      intro i
      by_cases hi : i < hs.length
      · have := rightB_in hr i hi
        exact .inl ⟨this.2.1, this.2.2⟩
      · right
        rw [List.getD_eq_getElem?_getD, List.getElem?_eq_none (by omega)]
        rfl
    have hN : 0 ≤ N := by
      simp only [rightB, Bool.and_eq_true, decide_eq_true_eq] at hr
      have := hr.1.1.1
      omega
    rw [h]
    unfold byOf
    have h1 := h0 (tl ys n a)
    have h2 := h0 (hd n ys a)
    omega
  · rfl
set_option maxHeartbeats 8000000 in
theorem refBy_any (N S T : Int) (n m : Nat) (a3 a4 a5 a6 a7 a8 : Option Addr) (c3 c4 c5 c6 c7 c8 : Nat) (ys : List Ar) (ra : Option Addr) (rc : Nat) (rs : List Int) (ha : Option Addr) (hc : Nat) (hs : List Int) (w : World) (hg : Gr N S T n m ys) (hcr : CsrR w n ys a3 a4 a5 a6 a7 a8) (hr : Rd w ra (lv rs)) (hh : Rd w ha (lv hs)) (hm : hs.length ≤ 9223372036854775807) (lo hi : Int) :
    Calls Try.prog 36 #[.agg #[.int .i64 N, .int .i64 S, .int .i64 T, .slice a3 (n + 1) c3, .slice a4 m c4, .slice a5 m c5, .slice a6 m c6, .slice a7 m c7, .slice a8 m c8], .slice ra rs.length rc, .slice ha hs.length hc, .int .i64 lo, .int .i64 hi] w fun e w' => ∃ v, e = .returned v ∧ w'.ownsRow w.heap.size 3 1 v (dnL N S T n m ys rs hs (inP lo hi)).length (nv (dnL N S T n m ys rs hs (inP lo hi))) ∧ Kept w w' := by
  have HK := Lib.hid ((Upd.refl (fun _ => False) w).alloc (.cells #[.int .i64 N, .int .i64 S, .int .i64 T, .slice a3 (n + 1) c3, .slice a4 m c4, .slice a5 m c5, .slice a6 m c6, .slice a7 m c7, .slice a8 m c8] 29))
  have HB := Lib.hid (Blk.new w #[.int .i64 N, .int .i64 S, .int .i64 T, .slice a3 (n + 1) c3, .slice a4 m c4, .slice a5 m c5, .slice a6 m c6, .slice a7 m c7, .slice a8 m c8] 29)
  have HR := Lib.hid (hr.kept HK.out)
  have HH := Lib.hid (hh.kept HK.out)
  have HCR := Lib.hid (hcr.kept HK.out)
  have HG := Lib.hid hg
  have HRR := fun (w : World) (hh : Rd w ha (lv hs)) => Lib.hid (refRight_any N S T n m a3 a4 a5 a6 a7 a8 c3 c4 c5 c6 c7 c8 ys ha hc hs w hg hh hm)
  obtain ⟨hnN, hn2, hn3, hm6, hS0, hS1, -, -, -⟩ := hg.len
  clear hr hh hcr hg
  obtain ⟨z, hz⟩ : ∃ z, rightB N S T hs = z := ⟨_, rfl⟩
  rw [hz] at HRR
  have HZ := Lib.hid hz
  clear hz
  go_enter Try.func36, Try.ntmps36
  go_upto_region 1 with (fail)
  generalize (w.alloc (.cells #[.int .i64 N, .int .i64 S, .int .i64 T, .slice a3 (n + 1) c3, .slice a4 m c4, .slice a5 m c5, .slice a6 m c6, .slice a7 m c7, .slice a8 m c8] 29)) = W0 at HB HK HR HH HCR ⊢
  generalize w.heap.size = cb at HB ⊢
  have cx := HB.out.cell
  by_cases hlen : (rs.length : Int) = (m : Int)
  · have hb1 : ((rs.length : Int) == (m : Int)) = true := by simpa using hlen
    have hb2 : ((rs.length : Int) != (m : Int)) = false := by simpa using hlen
    have HLEN := Lib.hid hlen
    clear hlen
    go_wp2_with fail
    refine (HRR _ HH.out).out.mono ?_
    rintro e w1 ⟨rfl, hk1⟩
    have HB1 := Lib.hid (HB.out.kept hk1)
    have HK1 := Lib.hid (HK.out.trans hk1)
    have HR1 := Lib.hid (HR.out.kept hk1)
    have HH1 := Lib.hid (HH.out.kept hk1)
    have HCR1 := Lib.hid (HCR.out.kept hk1)
    clear hk1 HB HK HR HH HCR cx HRR
    cases z
    · go_wp2_with fail
      go_ret
      refine ⟨_, rfl, ?_, HK1.out⟩
      rw [show dnL N S T n m ys rs hs (inP lo hi) = [] by unfold dnL mayB; rw [HZ.out]; simp]
      exact World.ownsRow_nil _ _ _ _
    · have HF : Hid (dnL N S T n m ys rs hs (inP lo hi) = (List.range m).filter (dnQ S n ys rs hs (inP lo hi))) := Lib.hid (by
        unfold dnL mayB
        rw [HZ.out, if_pos (by have := HLEN.out; simp; omega)])
      have hhl : hs.length = n := by
        have hx : (hs.length : Int) = N := by
          have := HZ.out
          simp only [rightB, Bool.and_eq_true, decide_eq_true_eq] at this
          exact this.1.1.1
        omega
      have HIN := Lib.hid (rightB_in HZ.out)
      have S0 := Lib.hid (World.ownsRow_nil w1 w1.heap.size 3 1)
      have hN := HG.out.ok.n16
      clear hb1 hb2
      go_wp2_with fail
      go_loopw [11, 12] (fun vo ux wr => ∃ (u : Nat) (v : Value), ux = .int .i64 u ∧ vo = v ∧ u ≤ n ∧ Hid (Blk wr cb #[.int .i64 N, .int .i64 S, .int .i64 T, .slice a3 (n + 1) c3, .slice a4 m c4, .slice a5 m c5, .slice a6 m c6, .slice a7 m c7, .slice a8 m c8] 29) ∧ Hid (Kept w1 wr) ∧ Hid (wr.ownsRow w1.heap.size 3 1 v (nv ((List.range (fst ys u)).filter (dnQ S n ys rs hs (inP lo hi)))).length (nv ((List.range (fst ys u)).filter (dnQ S n ys rs hs (inP lo hi)))))) (fun vo ux _ => n - (intOf ux).toNat)
      case atStart => exact ⟨0, _, rfl, rfl, by omega, HB1, Lib.hid (Upd.refl _ _), by simpa [fst_zero, nv] using S0⟩
      case round =>
        clear S0
        obtain ⟨u, vo, rfl, rfl, hu, HB, HK, HO⟩ := hrel
        obtain ⟨oa, oc, rfl⟩ := row_form HO.out
        have cx := HB.out.cell
        by_cases hun : u < n
        · have jN : (u : Int) < N := by omega
          obtain ⟨b3, o3, rfl, d0⟩ := (HCR1.out.r3.kept HK.out).at u (by rw [nv_len, firsts_len]; omega)
          rw [firsts_get n ys u (by omega)] at d0
          have j0 : (0 : Int) ≤ (u : Int) := by omega
          have j1 : (u : Int) < (n : Int) + 1 := by omega
          have j1' : (u : Int) < ((n + 1 : Nat) : Int) := by omega
          have w2 : wrap64 ((u : Int) + 1) = (u : Int) + 1 := by unfold wrap64; omega
          have hmono := fst_mono ys (show u ≤ u + 1 by omega)
          have hmono2 : fst ys (u + 1) ≤ m := by rw [← HG.out.hm]; exact fst_mono ys (show u + 1 ≤ n by omega)
          go_upto_region 8 with (fail)
          clear d0 cx
          go_wp2_with fail
          go_loopw [11, 13] (fun vo ax wr => ∃ (i : Nat) (v : Value), ax = .int .i64 i ∧ vo = v ∧ fst ys u ≤ i ∧ i ≤ fst ys (u + 1) ∧ Hid (Blk wr cb #[.int .i64 N, .int .i64 S, .int .i64 T, .slice (some ⟨b3, o3, none⟩) (n + 1) c3, .slice a4 m c4, .slice a5 m c5, .slice a6 m c6, .slice a7 m c7, .slice a8 m c8] 29) ∧ Hid (Kept w1 wr) ∧ Hid (wr.ownsRow w1.heap.size 3 1 v (nv ((List.range i).filter (dnQ S n ys rs hs (inP lo hi)))).length (nv ((List.range i).filter (dnQ S n ys rs hs (inP lo hi)))))) (fun vo ax _ => fst ys (u + 1) - (intOf ax).toNat)
          case atStart => exact ⟨fst ys u, _, rfl, rfl, by omega, by omega, HB, HK, HO⟩
          case round =>
            clear HB HK HO
            obtain ⟨i, vo, rfl, rfl, hi0, hi1, HB, HK, HO⟩ := hrel
            obtain ⟨oa, oc, rfl⟩ := row_form HO.out
            have cx := HB.out.cell
            obtain ⟨b3', o3', e3, d1⟩ := (HCR1.out.r3.kept HK.out).at (u + 1) (by rw [nv_len, firsts_len]; omega)
            cases e3
            rw [firsts_get n ys (u + 1) (by omega)] at d1
            have j2 : (0 : Int) ≤ (u : Int) + 1 := by omega
            have j3 : (u : Int) + 1 < (n : Int) + 1 := by omega
            by_cases hlt : i < fst ys (u + 1)
            · as_aux_lemma =>
              have hjt : (i : Int) < (fst ys (u + 1) : Nat) := by omega
              have him : i < m := by omega
              have htl : tl ys n i = u := tl_of ys i u hi0 hlt n hun
              obtain ⟨hhd, hhn⟩ := hd_get HG.out i him
              obtain ⟨b4, o4, rfl, d4⟩ := (HCR1.out.r4.kept HK.out).at i (by rw [hv_len, HG.out.hm]; exact him)
              rw [hhd] at d4
              have him2 : i < rs.length := by have := HLEN.out; omega
              obtain ⟨br, or, rfl, dr⟩ := (HR1.out.kept HK.out).at i (by rw [lv_len]; exact him2)
              rw [lv_get him2] at dr
              obtain ⟨bh, oh, rfl, du⟩ := (HH1.out.kept HK.out).at u (by rw [lv_len]; omega)
              rw [lv_get (by omega)] at du
              obtain ⟨bh', oh', e', dh⟩ := (HH1.out.kept HK.out).at (hd n ys i) (by rw [lv_len]; omega)
              rw [lv_get (by omega)] at dh
              cases e'
              obtain ⟨-, y1a, y1b⟩ := HIN.out u (by omega)
              obtain ⟨-, y2a, y2b⟩ := HIN.out (hd n ys i) (by omega)
              have HQ : Hid (dnQ S n ys rs hs (inP lo hi) i = (decide ((u : Int) ≠ S) && decide (0 < rs.getD i 0) && inP lo hi (hs.getD u 0 - hs.getD (hd n ys i) 0))) := Lib.hid (by unfold dnQ byOf; rw [htl])
              have HSF : Hid (dnQ S n ys rs hs (inP lo hi) i = false → nv ((List.range (i + 1)).filter (dnQ S n ys rs hs (inP lo hi))) = nv ((List.range i).filter (dnQ S n ys rs hs (inP lo hi)))) := Lib.hid (fun h => by rw [range_filter_succ, h]; simp)
              have HST : Hid (dnQ S n ys rs hs (inP lo hi) i = true → nv ((List.range (i + 1)).filter (dnQ S n ys rs hs (inP lo hi))) = nv ((List.range i).filter (dnQ S n ys rs hs (inP lo hi))) ++ [.int .i64 (i : Int)]) := Lib.hid (fun h => by rw [range_filter_succ, h]; simp [nv])
              have HLL : Hid ((nv ((List.range i).filter (dnQ S n ys rs hs (inP lo hi)))).length ≤ 2000000) := Lib.hid (by
                have h3 := List.length_filter_le (dnQ S n ys rs hs (inP lo hi)) (List.range i)
                rw [List.length_range] at h3
                rw [nv_len]
                omega)
              have j4 : (0 : Int) ≤ (i : Int) := by omega
              have j5 : (i : Int) < (m : Int) := by omega
              have j6 : (i : Int) < (rs.length : Int) := by omega
              have j7 : (u : Int) < (hs.length : Int) := by omega
              have j8 : ((hd n ys i : Nat) : Int) < (hs.length : Int) := by omega
              have j9 : (0 : Int) ≤ ((hd n ys i : Nat) : Int) := by omega
              clear htl hhd
              generalize dnQ S n ys rs hs (inP lo hi) = Q at *
              generalize rs.getD i 0 = x at HQ dr
              generalize hs.getD u 0 = y1 at HQ du y1a y1b
              generalize hd n ys i = hv0 at *
              generalize hs.getD hv0 0 = y2 at HQ dh y2a y2b
              have w1 : wrap64 (y1 - y2) = y1 - y2 := by unfold wrap64; omega
              go_upto_region 10 with (fail)
              clear d1
              go_big_quiet (fail)
              have HB := Lib.hid (HB.out.kept (drewN_kept wr nq))
              have HK := Lib.hid (HK.out.trans (drewN_kept wr nq))
              have HO := Lib.hid (ownsRow_upd HO.out (drewN_kept wr nq) (fun _ _ f => f))
              have dr : (wr.drewN nq).cell? ⟨br, or + i, none⟩ = some (.int .i64 x) := dr
              clear cx d4 du dh
              generalize wr.drewN nq = W4 at HB HK HO dr ⊢
              have cx := HB.out.cell
              clear w1 y1a y1b y2a y2b
              generalize y1 - y2 = k at HQ ⊢
              by_cases hz1 : (u : Int) = S
              · have hb1 : ((u : Int) == S) = true := by simpa using hz1
                have hb2 : ((u : Int) != S) = false := by simpa using hz1
                have HZ1 := Lib.hid hz1
                clear hz1
                go_wp2_with fail
                go_roundw
                case rel =>
                  refine ⟨i + 1, _, by go_num, rfl, by omega, by omega, HB, HK, Lib.hid ?_⟩
                  rw [HSF.out (by rw [HQ.out]; simp [HZ1.out])]
                  exact HO.out
                case measure => simp [intOf]; omega
              · have hb1 : ((u : Int) == S) = false := by simpa using hz1
                have hb2 : ((u : Int) != S) = true := by simpa using hz1
                have HZ1 := Lib.hid hz1
                clear hz1
                by_cases hz2 : 0 < x
                · have HZ2 := Lib.hid hz2
                  by_cases hz3 : lo ≤ k
                  · have HZ3 := Lib.hid hz3
                    by_cases hz4 : k ≤ hi
                    · have HZ4 := Lib.hid hz4
                      obtain ⟨i0, hi0, hz0, hz1, hz2⟩ := info_parts infoInt
                      have hxl := HLL.out
                      have hbs := HK.out.size
                      have ho := HO.out
                      go_wp2_with (first | (at_builtin; refine wpList_push rfl _ _ 26 rfl w1.heap.size 3 i0 (.int .i64 0) 8 Try.underlying26 hi0 hz0 hz1 hz2 rfl (by decide) _ _ _ rfl ho (.int .i64 (i : Int)) rfl rfl hxl hbs ?_; intro g cap' w' hown hg2; clear hi0 hz0 hz1 hz2 hxl hbs) | fail)
                      have HK' := Lib.hid (hg2.kept HK.out ho (Nat.le_refl _))
                      have HB' := Lib.hid (hg2.blk HB.out ho (by decide))
                      go_roundw
                      case rel =>
                        refine ⟨i + 1, _, by go_num, rfl, by omega, by omega, HB', HK', Lib.hid ?_⟩
                        rw [HST.out (by rw [HQ.out]; simp [inP, HZ1.out, HZ2.out, HZ3.out, HZ4.out]), List.length_append]
                        exact hown
                      case measure => simp [intOf]; omega
                    · have HZ4 := Lib.hid hz4
                      have hb5 : decide (k ≤ hi) = false := by simpa using hz4
                      clear hz4
                      go_wp2_with fail
                      go_roundw
                      case rel =>
                        refine ⟨i + 1, _, by go_num, rfl, by omega, by omega, HB, HK, Lib.hid ?_⟩
                        rw [HSF.out (by rw [HQ.out]; unfold inP; rw [show decide (k ≤ hi) = false from by simpa using HZ4.out]; simp)]
                        exact HO.out
                      case measure => simp [intOf]; omega
                  · have HZ3 := Lib.hid hz3
                    have hb5 : decide (lo ≤ k) = false := by simpa using hz3
                    clear hz3
                    go_wp2_with fail
                    go_roundw
                    case rel =>
                      refine ⟨i + 1, _, by go_num, rfl, by omega, by omega, HB, HK, Lib.hid ?_⟩
                      rw [HSF.out (by rw [HQ.out]; unfold inP; rw [show decide (lo ≤ k) = false from by simpa using HZ3.out]; simp)]
                      exact HO.out
                    case measure => simp [intOf]; omega
                · have HZ2 := Lib.hid hz2
                  have hb5 : decide (0 < x) = false := by simpa using hz2
                  clear hz2
                  go_wp2_with fail
                  go_roundw
                  case rel =>
                    refine ⟨i + 1, _, by go_num, rfl, by omega, by omega, HB, HK, Lib.hid ?_⟩
                    rw [HSF.out (by rw [HQ.out]; rw [show decide (0 < x) = false from by simpa using HZ2.out]; simp)]
                    exact HO.out
                  case measure => simp [intOf]; omega
            · have hiM : i = fst ys (u + 1) := by omega
              subst hiM
              go_wp2_with fail
              go_roundw
              case rel => exact ⟨u + 1, _, by go_num, rfl, by omega, HB, HK, HO⟩
              case measure => simp [intOf]; omega
        · have huM : u = n := by omega
          subst huM
          have hnN' : ¬ (u : Int) < N := by omega
          go_wp2_with fail
          go_ret
          refine ⟨_, rfl, ?_, HK1.out.trans HK.out⟩
          rw [HF.out, ← HG.out.hm, ← nv_len]
          exact ownsRow_base HO.out HK1.out.size
  · have hb1 : ((rs.length : Int) == (m : Int)) = false := by simpa using hlen
    have hb2 : ((rs.length : Int) != (m : Int)) = true := by simpa using hlen
    have HLEN := Lib.hid hlen
    clear hlen
    go_wp2_with fail
    go_ret
    refine ⟨_, rfl, ?_, HK.out⟩
    rw [show dnL N S T n m ys rs hs (inP lo hi) = [] by unfold dnL mayB; rw [if_neg (by have := HLEN.out; simp; omega)]]
    exact World.ownsRow_nil _ _ _ _
theorem refSteep_any (N S T : Int) (n m : Nat) (a3 a4 a5 a6 a7 a8 : Option Addr) (c3 c4 c5 c6 c7 c8 : Nat) (ys : List Ar) (ra : Option Addr) (rc : Nat) (rs : List Int) (ha : Option Addr) (hc : Nat) (hs : List Int) (w : World) (hg : Gr N S T n m ys) (hcr : CsrR w n ys a3 a4 a5 a6 a7 a8) (hr : Rd w ra (lv rs)) (hh : Rd w ha (lv hs)) (hm : hs.length ≤ 9223372036854775807) :
    Calls Try.prog 17 #[.agg #[.int .i64 N, .int .i64 S, .int .i64 T, .slice a3 (n + 1) c3, .slice a4 m c4, .slice a5 m c5, .slice a6 m c6, .slice a7 m c7, .slice a8 m c8], .slice ra rs.length rc, .slice ha hs.length hc] w fun e w' => ∃ v, e = .returned v ∧ w'.ownsRow w.heap.size 3 1 v (dnL N S T n m ys rs hs (isP true)).length (nv (dnL N S T n m ys rs hs (isP true))) ∧ Kept w w' := by
  have HK := Lib.hid ((Upd.refl (fun _ => False) w).alloc (.cells #[.int .i64 N, .int .i64 S, .int .i64 T, .slice a3 (n + 1) c3, .slice a4 m c4, .slice a5 m c5, .slice a6 m c6, .slice a7 m c7, .slice a8 m c8] 29))
  have HB := Lib.hid (Blk.new w #[.int .i64 N, .int .i64 S, .int .i64 T, .slice a3 (n + 1) c3, .slice a4 m c4, .slice a5 m c5, .slice a6 m c6, .slice a7 m c7, .slice a8 m c8] 29)
  have HD := fun (w : World) (hg : Gr N S T n m ys) (hcr : CsrR w n ys a3 a4 a5 a6 a7 a8) (hr : Rd w ra (lv rs)) (hh : Rd w ha (lv hs)) => Lib.hid (refBy_any N S T n m a3 a4 a5 a6 a7 a8 c3 c4 c5 c6 c7 c8 ys ra rc rs ha hc hs w hg hcr hr hh hm 2 N)
  have HE : Hid (dnL N S T n m ys rs hs (inP 2 N) = dnL N S T n m ys rs hs (isP true)) := Lib.hid (dnL_congr fun x h1 => by
    have := hg.len
    simp only [inP, isP, if_true]
    rw [← Bool.decide_and, decide_eq_decide]
    omega)
  have HH := Lib.hid (hh.kept HK.out)
  have HR := Lib.hid (hr.kept HK.out)
  have HCR := Lib.hid (hcr.kept HK.out)
  clear hcr hr hh
  have HG := Lib.hid hg
  clear hg
  go_enter Try.func17, Try.ntmps17
  go_upto_region 1 with (fail)
  have HSZ := Lib.hid HK.out.size
  generalize (w.alloc (.cells #[.int .i64 N, .int .i64 S, .int .i64 T, .slice a3 (n + 1) c3, .slice a4 m c4, .slice a5 m c5, .slice a6 m c6, .slice a7 m c7, .slice a8 m c8] 29)) = W0 at HK HB HH HR HCR HSZ ⊢
  generalize hcb : w.heap.size = cb at HB ⊢
  have cx := HB.out.cell
  go_wp2_with fail
  refine (HD _ HG.out HCR.out HR.out HH.out).out.mono ?_
  rintro e w1 ⟨v, rfl, ho, hk1⟩
  rw [HE.out] at ho
  have HO := Lib.hid (ownsRow_base ho HSZ.out)
  have HK1 := Lib.hid (HK.out.trans hk1)
  subst hcb
  clear ho hk1 cx
  go_wp2_with fail
  go_ret
  exact ⟨_, rfl, HO.out, HK1.out⟩
theorem refFlat_any (N S T : Int) (n m : Nat) (a3 a4 a5 a6 a7 a8 : Option Addr) (c3 c4 c5 c6 c7 c8 : Nat) (ys : List Ar) (ra : Option Addr) (rc : Nat) (rs : List Int) (ha : Option Addr) (hc : Nat) (hs : List Int) (w : World) (hg : Gr N S T n m ys) (hcr : CsrR w n ys a3 a4 a5 a6 a7 a8) (hr : Rd w ra (lv rs)) (hh : Rd w ha (lv hs)) (hm : hs.length ≤ 9223372036854775807) :
    Calls Try.prog 19 #[.agg #[.int .i64 N, .int .i64 S, .int .i64 T, .slice a3 (n + 1) c3, .slice a4 m c4, .slice a5 m c5, .slice a6 m c6, .slice a7 m c7, .slice a8 m c8], .slice ra rs.length rc, .slice ha hs.length hc] w fun e w' => ∃ v, e = .returned v ∧ w'.ownsRow w.heap.size 3 1 v (dnL N S T n m ys rs hs (isP false)).length (nv (dnL N S T n m ys rs hs (isP false))) ∧ Kept w w' := by
  have HK := Lib.hid ((Upd.refl (fun _ => False) w).alloc (.cells #[.int .i64 N, .int .i64 S, .int .i64 T, .slice a3 (n + 1) c3, .slice a4 m c4, .slice a5 m c5, .slice a6 m c6, .slice a7 m c7, .slice a8 m c8] 29))
  have HB := Lib.hid (Blk.new w #[.int .i64 N, .int .i64 S, .int .i64 T, .slice a3 (n + 1) c3, .slice a4 m c4, .slice a5 m c5, .slice a6 m c6, .slice a7 m c7, .slice a8 m c8] 29)
  have HD := fun (w : World) (hg : Gr N S T n m ys) (hcr : CsrR w n ys a3 a4 a5 a6 a7 a8) (hr : Rd w ra (lv rs)) (hh : Rd w ha (lv hs)) => Lib.hid (refBy_any N S T n m a3 a4 a5 a6 a7 a8 c3 c4 c5 c6 c7 c8 ys ra rc rs ha hc hs w hg hcr hr hh hm 1 1)
  have HE : Hid (dnL N S T n m ys rs hs (inP 1 1) = dnL N S T n m ys rs hs (isP false)) := Lib.hid (dnL_congr fun x h1 => by
    have := hg.len
    simp only [inP, isP, Bool.false_eq_true, if_false]
    rw [← Bool.decide_and, decide_eq_decide]
    omega)
  have HH := Lib.hid (hh.kept HK.out)
  have HR := Lib.hid (hr.kept HK.out)
  have HCR := Lib.hid (hcr.kept HK.out)
  clear hcr hr hh
  have HG := Lib.hid hg
  clear hg
  go_enter Try.func19, Try.ntmps19
  go_upto_region 1 with (fail)
  have HSZ := Lib.hid HK.out.size
  generalize (w.alloc (.cells #[.int .i64 N, .int .i64 S, .int .i64 T, .slice a3 (n + 1) c3, .slice a4 m c4, .slice a5 m c5, .slice a6 m c6, .slice a7 m c7, .slice a8 m c8] 29)) = W0 at HK HB HH HR HCR HSZ ⊢
  generalize hcb : w.heap.size = cb at HB ⊢
  have cx := HB.out.cell
  go_wp2_with fail
  refine (HD _ HG.out HCR.out HR.out HH.out).out.mono ?_
  rintro e w1 ⟨v, rfl, ho, hk1⟩
  rw [HE.out] at ho
  have HO := Lib.hid (ownsRow_base ho HSZ.out)
  have HK1 := Lib.hid (HK.out.trans hk1)
  subst hcb
  clear ho hk1 cx
  go_wp2_with fail
  go_ret
  exact ⟨_, rfl, HO.out, HK1.out⟩
end Go.Proofs.Ytfdbifhkhdnnkaa
