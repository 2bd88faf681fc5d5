/- label.may, down, Steep, Flat, Valid (printed by gen_labdown.py). -/
import Derived.Test.YtdhimfkmgcfohaaLabRight
import Derived.Test.YtdhimfkmgcfohaaTail
namespace Go.Proofs.Ytdhimfkmgcfohaa
set_option linter.unusedVariables false
set_option linter.unusedSimpArgs false
open Go.RowKit
attribute [local go_sem] cell?_ext

set_option maxHeartbeats 1000000 in
theorem may_any (N S T : Int) (n m : Nat) (a3 a4 a5 a6 a7 a8 : Option Addr) (c3 c4 c5 c6 c7 c8 : Nat) (ys : List Ar) (ra : Option Addr) (rc : Nat) (rs : List Int) (ha : Option Addr) (hc : Nat) (hs : List Int) (w : World) (hg : Gr N S T n m ys) (hcr : CsrR w n ys a3 a4 a5 a6 a7 a8) (hr : Rd w ra (lv rs)) (hh : Rd w ha (lv hs)) (hm : hs.length ≤ 9223372036854775807) :
    Calls Try.prog 44 #[.agg #[.int .i64 N, .int .i64 S, .int .i64 T, .slice a3 (n + 1) c3, .slice a4 m c4, .slice a5 m c5, .slice a6 m c6, .slice a7 m c7, .slice a8 m c8], .slice ra rs.length rc, .slice ha hs.length hc] w fun e w' => e = .returned (.bool (mayB N S T m rs hs)) ∧ Kept w w' := by
  have HK := Lib.hid ((Upd.refl (fun _ => False) w).alloc (.cells #[.int .i64 N, .int .i64 S, .int .i64 T, .slice a3 (n + 1) c3, .slice a4 m c4, .slice a5 m c5, .slice a6 m c6, .slice a7 m c7, .slice a8 m c8] 32))
  have HB := Lib.hid (Blk.new w #[.int .i64 N, .int .i64 S, .int .i64 T, .slice a3 (n + 1) c3, .slice a4 m c4, .slice a5 m c5, .slice a6 m c6, .slice a7 m c7, .slice a8 m c8] 32)
  have HH := Lib.hid (hh.kept HK.out)
  have HG := Lib.hid hg
  clear hg hcr hr hh
  obtain ⟨z, hz⟩ : ∃ z, mayB N S T m rs hs = z := ⟨_, rfl⟩
  rw [hz]
  have HZ := Lib.hid hz
  clear hz
  go_enter Try.func44, Try.ntmps44
  go_upto_region 1 with (fail)
  generalize (w.alloc (.cells #[.int .i64 N, .int .i64 S, .int .i64 T, .slice a3 (n + 1) c3, .slice a4 m c4, .slice a5 m c5, .slice a6 m c6, .slice a7 m c7, .slice a8 m c8] 32)) = W0 at HK HB HH ⊢
  generalize w.heap.size = cb at HB ⊢
  have cx := HB.out.cell
  by_cases hlen : (rs.length : Int) = (m : Int)
  · have hb1 : ((rs.length : Int) == (m : Int)) = true := by simpa using hlen
    have HLEN := Lib.hid hlen
    clear hlen
    go_wp2_with fail
    refine (len_any N S T n m a3 a4 a5 a6 a7 a8 c3 c4 c5 c6 c7 c8 _).mono ?_
    rintro e w1 ⟨rfl, hk1⟩
    have HB1 := Lib.hid (HB.out.kept hk1)
    have HK1 := Lib.hid (HK.out.trans hk1)
    have HH1 := Lib.hid (HH.out.kept hk1)
    clear hk1 HB HK HH cx
    have cx := HB1.out.cell
    go_wp2_with fail
    refine (right_any N S T n m a3 a4 a5 a6 a7 a8 c3 c4 c5 c6 c7 c8 ys ha hc hs _ HG.out HH1.out hm).mono ?_
    rintro e w2 ⟨rfl, hk2⟩
    have HK2 := Lib.hid (HK1.out.trans hk2)
    clear hk2 cx
    go_wp2_with fail
    go_ret
    exact ⟨ret_bool (by rw [← HZ.out]; have := HLEN.out; simp [mayB]; omega), HK2.out⟩
  · have hb1 : ((rs.length : Int) == (m : Int)) = false := by simpa using hlen
    have HLEN := Lib.hid hlen
    clear hlen
    go_wp2_with fail
    refine (len_any N S T n m a3 a4 a5 a6 a7 a8 c3 c4 c5 c6 c7 c8 _).mono ?_
    rintro e w1 ⟨rfl, hk1⟩
    have HK1 := Lib.hid (HK.out.trans hk1)
    clear hk1 HK cx
    go_wp2_with fail
    go_ret
    exact ⟨ret_bool (by rw [← HZ.out]; have := HLEN.out; simp [mayB]; omega), HK1.out⟩
/-- What is asked of how far down: too far, or one. -/
def isP (q : Bool) (x : Int) : Bool := if q then decide (1 < x) else decide (x = 1)
def isVs (q : Bool) : Value := .func (.func 66) #[] #[]
theorem isCalls (x : Int) (w : World) : Calls Try.prog 66 #[.int .i64 x] w fun e w' => e = .returned (.bool (isP true x)) ∧ Kept w w' := by
  unfold isP
  go_enter Try.func66, Try.ntmps66
  go_wp2
  go_ret
  exact ⟨by first | rfl | (exact ret_bool (by simp)), Upd.refl _ _⟩
/-- What the closure looks at. -/
structure DSs (q : Bool) (N S T : Int) (n m : Nat) (a3 a4 a5 a6 a7 a8 : Option Addr) (c3 c4 c5 c6 c7 c8 : Nat) (ys : List Ar) (ra : Option Addr) (rc : Nat) (rs : List Int) (ha : Option Addr) (hc : Nat) (hs : List Int) (cb rb hb ib : Nat) (wr : World) : Prop where
  cc : Blk wr cb #[.int .i64 N, .int .i64 S, .int .i64 T, .slice a3 (n + 1) c3, .slice a4 m c4, .slice a5 m c5, .slice a6 m c6, .slice a7 m c7, .slice a8 m c8] 32
  rr : Blk wr rb #[.slice ra rs.length rc] 26
  hh : Blk wr hb #[.slice ha hs.length hc] 27
  ii : Blk wr ib #[isVs q] 98
  cr : CsrR wr n ys a3 a4 a5 a6 a7 a8
  r : Rd wr ra (lv rs)
  h : Rd wr ha (lv hs)
  tq : q = true
section
variable {q : Bool} {N S T : Int} {n m : Nat} {a3 a4 a5 a6 a7 a8 : Option Addr} {c3 c4 c5 c6 c7 c8 : Nat} {ys : List Ar} {ra : Option Addr} {rc : Nat} {rs : List Int} {ha : Option Addr} {hc : Nat} {hs : List Int} {cb rb hb ib : Nat} {wr w' : World}
theorem DSs.kept (d : DSs q N S T n m a3 a4 a5 a6 a7 a8 c3 c4 c5 c6 c7 c8 ys ra rc rs ha hc hs cb rb hb ib wr) (hk : Kept wr w') : DSs q N S T n m a3 a4 a5 a6 a7 a8 c3 c4 c5 c6 c7 c8 ys ra rc rs ha hc hs cb rb hb ib w' := ⟨d.cc.kept hk, d.rr.kept hk, d.hh.kept hk, d.ii.kept hk, d.cr.kept hk, d.r.kept hk, d.h.kept hk, d.tq⟩
end
set_option maxHeartbeats 4000000 in
theorem downCalls (q : Bool) (N S T : Int) (n m : Nat) (a3 a4 a5 a6 a7 a8 : Option Addr) (c3 c4 c5 c6 c7 c8 : Nat) (ys : List Ar) (ra : Option Addr) (rc : Nat) (rs : List Int) (ha : Option Addr) (hc : Nat) (hs : List Int) (cb rb hb ib : Nat) (i : Nat) (w : World) (hg : Gr N S T n m ys) (hD : DSs q N S T n m a3 a4 a5 a6 a7 a8 c3 c4 c5 c6 c7 c8 ys ra rc rs ha hc hs cb rb hb ib w) (hmay : mayB N S T m rs hs = true) (hi : i < m) :
    Calls Try.prog 76 #[.int .i64 i, .pointer (some ⟨cb, 0, none⟩), .pointer (some ⟨rb, 0, none⟩), .pointer (some ⟨ib, 0, none⟩), .pointer (some ⟨hb, 0, none⟩)] w fun e w' => e = .returned (.tuple #[.int .i64 i, .bool (dnQ S n ys rs hs (isP q) i)]) ∧ Kept w w' := by
  have HTQ := Lib.hid hD.tq
  have HD := Lib.hid hD
  have HG := Lib.hid hg
  simp only [mayB, Bool.and_eq_true, decide_eq_true_eq] at hmay
  obtain ⟨hrl, hright⟩ := hmay
  obtain ⟨hnN, hn2, hn3, hm6, hS0, hS1, -, -, -⟩ := hg.len
  obtain ⟨u, hu⟩ : ∃ u, tl ys n i = u := ⟨_, rfl⟩
  have hun : u < n := by
    have hmn : fst ys n = m := hg.hm
    rw [← hu]
    exact (tl_at ys i n (by omega)).1
  obtain ⟨hhd, hhn⟩ := hd_get hg i hi
  have h0 := rightB_in hright
  have hN16 := hg.ok.n16
  have hhl : hs.length = n := by
    have hx : (hs.length : Int) = N := by
      have := hright
      simp only [rightB, Bool.and_eq_true, decide_eq_true_eq] at this
      exact this.1.1.1
    omega
  obtain ⟨-, y1a, y1b⟩ := h0 u (by omega)
  obtain ⟨-, y2a, y2b⟩ := h0 (hd n ys i) (by omega)
  have HQ : Hid (dnQ S n ys rs hs (isP q) i = (decide ((u : Int) ≠ S) && decide (0 < rs.getD i 0) && isP q (hs.getD u 0 - hs.getD (hd n ys i) 0))) := Lib.hid (by unfold dnQ byOf; rw [hu])
  have HT := fun (w : World) (hr : Rd w a3 (nv (firsts (n + 1) ys))) => Lib.hid (by
    have h := tail_any N S T n m a3 a4 a5 a6 a7 a8 c3 c4 c5 c6 c7 c8 ys i w hg hr hi
    rw [hu] at h
    exact h)
  have hrows : Rd w a4 (hv (enAll n ys)) := hD.cr.r4
  obtain ⟨b4, o4, rfl, d4⟩ := hrows.at i (by rw [hv_len, hg.hm]; exact hi)
  rw [hhd] at d4
  obtain ⟨br, or, rfl, dr⟩ := hD.r.at i (by rw [lv_len]; omega)
  rw [lv_get (by omega)] at dr
  obtain ⟨bh, oh, rfl, du⟩ := hD.h.at u (by rw [lv_len]; omega)
  rw [lv_get (by omega)] at du
  obtain ⟨bh', oh', e', dh⟩ := hD.h.at (hd n ys i) (by rw [lv_len]; omega)
  rw [lv_get (by omega)] at dh
  cases e'
  have HCE := Lib.hid (And.intro d4 (And.intro dr (And.intro du dh)))
  clear hD hg hright h0 hrows hhd hu d4 dr du dh
  generalize rs.getD i 0 = x at HQ HCE
  generalize hs.getD u 0 = y1 at HQ HCE y1a y1b
  generalize hd n ys i = hv0 at *
  generalize hs.getD hv0 0 = y2 at HQ HCE y2a y2b
  have j0 : (0 : Int) ≤ (i : Int) := by omega
  have j1 : (i : Int) < (m : Int) := by omega
  have j2 : (i : Int) < (rs.length : Int) := by omega
  have j3 : (0 : Int) ≤ (u : Int) := by omega
  have j4 : (u : Int) < (hs.length : Int) := by omega
  have j5 : (0 : Int) ≤ (hv0 : Int) := by omega
  have j6 : (hv0 : Int) < (hs.length : Int) := by omega
  have w1 : wrap64 (y1 - y2) = y1 - y2 := by unfold wrap64; omega
  have HJ := Lib.hid (show N ≤ 16 ∧ 0 ≤ y1 ∧ y1 ≤ N ∧ 0 ≤ y2 ∧ y2 ≤ N from ⟨hN16, y1a, y1b, y2a, y2b⟩)
  clear y1a y1b y2a y2b hhl hrl hnN hhn hun hi
  have cx := HD.out.cc.cell
  go_enter Try.func76, Try.ntmps76
  go_wp2_with fail
  refine (HT _ HD.out.cr.r3).out.mono ?_
  rintro e w1 ⟨rfl, hk1⟩
  have HK1 := Lib.hid hk1
  have HD1 := Lib.hid (HD.out.kept hk1)
  have d4 := (keptCells hk1 _ (by rw [HCE.out.1]; rfl)).trans HCE.out.1
  have dr := (keptCells hk1 _ (by rw [HCE.out.2.1]; rfl)).trans HCE.out.2.1
  have du := (keptCells hk1 _ (by rw [HCE.out.2.2.1]; rfl)).trans HCE.out.2.2.1
  have dh := (keptCells hk1 _ (by rw [HCE.out.2.2.2]; rfl)).trans HCE.out.2.2.2
  clear hk1 HD HCE cx HT
  have cx := HD1.out.cc.cell
  have cr := HD1.out.rr.cell
  have ch := HD1.out.hh.cell
  have ci := HD1.out.ii.cell
  by_cases hz1 : (u : Int) = S
  · have hb1 : ((u : Int) == S) = true := by simpa using hz1
    have hb2 : ((u : Int) != S) = false := by simpa using hz1
    have HZ1 := Lib.hid hz1
    clear hz1
    go_wp2_with fail
    refine wp_region_kept (by kernel_rfl) (by kernel_rfl) ?_
    repeat (go_big_quiet_step ((fail)))
    refine wpQuiet_nil ?_
    intro w2 hk2
    have HK2 := Lib.hid (HK1.out.trans hk2)
    clear hk2
    go_wp2_with fail
    go_ret2
    exact ⟨by rw [HQ.out]; simp [HZ1.out], HK2.out⟩
  · have hb1 : ((u : Int) == S) = false := by simpa using hz1
    have hb2 : ((u : Int) != S) = true := by simpa using hz1
    have HZ1 := Lib.hid hz1
    clear hz1
    by_cases hz2 : 0 < x
    · have HZ2 := Lib.hid hz2
      · obtain rfl := HTQ.out
        simp only [isVs] at ci
        go_wp2_with fail
        refine wp_region_kept (by kernel_rfl) (by kernel_rfl) ?_
        repeat (go_big_quiet_step ((go_at_call 66; exact kept_call (isCalls _ _))))
        refine wpQuiet_nil ?_
        intro w2 hk2
        have HK2 := Lib.hid (HK1.out.trans hk2)
        clear hk2
        go_wp2_with fail
        go_ret2
        exact ⟨by rw [HQ.out]; simp [HZ1.out, HZ2.out], HK2.out⟩
    · have HZ2 := Lib.hid hz2
      have hz3 : decide (0 < x) = false := by simpa using hz2
      clear hz2
      go_wp2_with fail
      refine wp_region_kept (by kernel_rfl) (by kernel_rfl) ?_
      repeat (go_big_quiet_step ((fail)))
      refine wpQuiet_nil ?_
      intro w2 hk2
      have HK2 := Lib.hid (HK1.out.trans hk2)
      clear hk2
      go_wp2_with fail
      go_ret2
      exact ⟨by rw [HQ.out]; rw [show decide (0 < x) = false from by simpa using HZ2.out]; simp, HK2.out⟩
set_option maxHeartbeats 4000000 in
theorem pickeds_any (q : Bool) (N S T : Int) (n m : Nat) (a3 a4 a5 a6 a7 a8 : Option Addr) (c3 c4 c5 c6 c7 c8 : Nat) (ys : List Ar) (ra : Option Addr) (rc : Nat) (rs : List Int) (ha : Option Addr) (hc : Nat) (hs : List Int) (cb rb hb ib : Nat) (w : World) (hg : Gr N S T n m ys) (hD : DSs q N S T n m a3 a4 a5 a6 a7 a8 c3 c4 c5 c6 c7 c8 ys ra rc rs ha hc hs cb rb hb ib w) (hmay : mayB N S T m rs hs = true) :
    Calls Try.prog 75 #[.int .i64 m, .func (.func 76) #[] #[.pointer (some ⟨cb, 0, none⟩), .pointer (some ⟨rb, 0, none⟩), .pointer (some ⟨ib, 0, none⟩), .pointer (some ⟨hb, 0, none⟩)]] w fun e w' => ∃ v, e = .returned v ∧ w'.ownsRow w.heap.size 3 1 v (dnL N S T n m ys rs hs (isP q)).length (nv (dnL N S T n m ys rs hs (isP q))) ∧ Kept w w' := by
  have HD := Lib.hid hD
  have HG := Lib.hid hg
  have hm6 := hg.len.2.2.2.1
  have HF : Hid (dnL N S T n m ys rs hs (isP q) = (List.range m).filter (dnQ S n ys rs hs (isP q))) := Lib.hid (by unfold dnL; rw [if_pos hmay])
  have HC := fun (i : Nat) (w : World) (hD : DSs q N S T n m a3 a4 a5 a6 a7 a8 c3 c4 c5 c6 c7 c8 ys ra rc rs ha hc hs cb rb hb ib w) (hi : i < m) => Lib.hid (downCalls q N S T n m a3 a4 a5 a6 a7 a8 c3 c4 c5 c6 c7 c8 ys ra rc rs ha hc hs cb rb hb ib i w hg hD hmay hi)
  clear hD hg
  generalize dnQ S n ys rs hs (isP q) = Q at HF HC
  go_enter Try.func75, Try.ntmps75
  have S0 := Lib.hid (World.ownsRow_nil w w.heap.size 3 1)
  go_wp2_with fail
  go_loopw [5, 10] (fun vo ix wr => ∃ (i : Nat) (v : Value), ix = .int .i64 i ∧ vo = v ∧ i ≤ m ∧ Hid (Kept w wr) ∧ Hid (wr.ownsRow w.heap.size 3 1 v (nv ((List.range i).filter Q)).length (nv ((List.range i).filter Q)))) (fun vo ix _ => m - (intOf ix).toNat)
  case atStart => exact ⟨0, _, rfl, rfl, by omega, Lib.hid (Upd.refl _ _), by simpa [nv] using S0⟩
  case round =>
    clear S0
    obtain ⟨i, vo, rfl, rfl, hi, HK, HO⟩ := hrel
    obtain ⟨oa, oc, rfl⟩ := row_form HO.out
    by_cases hlt : i < m
    · have HS : Hid (nv ((List.range (i + 1)).filter Q) = nv ((List.range i).filter Q) ++ (if Q i then [.int .i64 (i : Int)] else [])) := Lib.hid (by
        rw [range_filter_succ]
        cases Q i <;> simp [nv])
      have HCi := HC i wr (HD.out.kept HK.out) hlt
      obtain ⟨z, hz⟩ : ∃ z, Q i = z := ⟨_, rfl⟩
      rw [hz] at HS HCi
      clear hz HC
      have j1 : (i : Int) < (m : Int) := by omega
      have HLL : Hid ((nv ((List.range i).filter Q)).length ≤ 2000000) := Lib.hid (by
        have h3 := List.length_filter_le Q (List.range i)
        rw [List.length_range] at h3
        rw [nv_len]
        omega)
      cases z
      · go_wp2_with fail
        refine HCi.out.mono ?_
        rintro e w1 ⟨rfl, hk1⟩
        have HK1 := Lib.hid (HK.out.trans hk1)
        have HO1 := Lib.hid (ownsRow_upd HO.out hk1 (fun _ _ f => f))
        clear hk1 HCi
        go_wp2_with fail
        go_roundw
        case rel =>
          refine ⟨i + 1, _, by go_num, rfl, by omega, HK1, Lib.hid ?_⟩
          have e0 := HS.out
          simp only [Bool.false_eq_true, if_false, List.append_nil] at e0
          rw [e0]
          exact HO1.out
        case measure => simp [intOf]; omega
      · go_wp2_with fail
        refine HCi.out.mono ?_
        rintro e w1 ⟨rfl, hk1⟩
        have HK1 := Lib.hid (HK.out.trans hk1)
        have HO1 := Lib.hid (ownsRow_upd HO.out hk1 (fun _ _ f => f))
        clear hk1 HCi
        obtain ⟨i0, hi0, hz0, hz1, hz2⟩ := info_parts infoInt
        have hxl := HLL.out
        have hbs := HK1.out.size
        have ho := HO1.out
        go_wp2_with (first | (at_builtin; refine wpList_push rfl _ _ 27 rfl w.heap.size 3 i0 (.int .i64 0) 8 Try.underlying27 hi0 hz0 hz1 hz2 rfl (by decide) _ _ _ rfl ho (.int .i64 (i : Int)) rfl rfl hxl hbs ?_; intro g cap' w' hown hg2; clear hi0 hz0 hz1 hz2 hxl hbs) | fail)
        have HK' := Lib.hid (hg2.kept HK1.out ho (Nat.le_refl _))
        go_roundw
        case rel =>
          refine ⟨i + 1, _, by go_num, rfl, by omega, HK', Lib.hid ?_⟩
          have e0 := HS.out
          simp only [if_true] at e0
          rw [e0, List.length_append]
          exact hown
        case measure => simp [intOf]; omega
    · have hkM : i = m := by omega
      subst hkM
      go_wp2_with fail
      go_ret
      refine ⟨_, rfl, ?_, HK.out⟩
      rw [HF.out, ← nv_len]
      exact HO.out
end Go.Proofs.Ytdhimfkmgcfohaa
