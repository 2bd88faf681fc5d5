/- acequialow.Some with 12 and 30: a right net out of any one (printed by gen_some12.py). -/
import Derived.Test.YtdhimfkmgcfohaaNetOk
import Derived.Test.YtdhimfkmgcfohaaAmong
import Derived.Test.YtdhimfkmgcfohaaRegion
import Derived.Deep.CutRange
import Derived.Deep.RegionHeldLaw
namespace Go.Proofs.Ytdhimfkmgcfohaa
set_option linter.unusedVariables false
open Go.RowKit

set_option maxRecDepth 100000 in
set_option maxHeartbeats 2000000 in
theorem Some_any (N0 S0 T0 : Int) (a : Option Addr) (cap : Nat) (ys0 : List Ar) (w : World) (h : Ars w a ys0) (hle : ys0.length ≤ cap) (hmost : cap ≤ 9223372036854775807) (hwf : ∀ x ∈ ys0, -9223372036854775808 ≤ x.c ∧ x.c ≤ 9223372036854775807) :
    Calls Try.prog 9 #[.agg #[.int .i64 N0, .int .i64 S0, .int .i64 T0, .slice a ys0.length cap], .int .i64 12, .int .i64 30] w (NetIs w) := by
  have hk0 := ((Upd.refl (fun _ => False) w).alloc (.cells #[.int .i64 N0, .int .i64 S0, .int .i64 T0, .slice a ys0.length cap] 24)).alloc (.cells #[.int .i64 0, .int .i64 0, .int .i64 0, .slice none 0 0] 24)
  have HX := Lib.hid h
  have HW := Lib.hid hwf
  have HB := Lib.hid ((Blk.new w #[.int .i64 N0, .int .i64 S0, .int .i64 T0, .slice a ys0.length cap] 24).alloc (.cells #[.int .i64 0, .int .i64 0, .int .i64 0, .slice none 0 0] 24))
  have HR := Lib.hid (Blk.new (w.alloc (.cells #[.int .i64 N0, .int .i64 S0, .int .i64 T0, .slice a ys0.length cap] 24)) #[.int .i64 0, .int .i64 0, .int .i64 0, .slice none 0 0] 24)
  have e1 : (w.alloc (.cells #[.int .i64 N0, .int .i64 S0, .int .i64 T0, .slice a ys0.length cap] 24)).heap.size = w.heap.size + 1 := by simp
  rw [e1] at HR
  have e2 : ((w.alloc (.cells #[.int .i64 N0, .int .i64 S0, .int .i64 T0, .slice a ys0.length cap] 24)).alloc (.cells #[.int .i64 0, .int .i64 0, .int .i64 0, .slice none 0 0] 24)).heap.size = w.heap.size + 2 := by simp
  have HK := Lib.hid hk0
  have HA1 := fun w => Lib.hid (Among_any N0 11 (by omega) (by omega) w)
  have hq := am_in (x := N0) (n := 11) (by omega)
  generalize am N0 11 = q at HA1 hq
  obtain ⟨N, hN⟩ : ∃ N, 2 + q = N := ⟨_, rfl⟩
  have hw1 : wrap64 (2 + q) = N := by unfold wrap64; omega
  have HA2 := fun w => Lib.hid (Among_any S0 N (by omega) (by omega) w)
  have HA3 := fun w => Lib.hid (Among_any T0 N (by omega) (by omega) w)
  have hs := am_in (x := S0) (n := N) (by omega)
  have ht := am_in (x := T0) (n := N) (by omega)
  generalize am S0 N = S at HA2 hs
  generalize am T0 N = T at HA3 ht
  clear h hwf hk0 e1
  go_enter Try.func9, Try.ntmps9
  go_wp2_with fail
  refine (HA1 _).out.mono ?_
  rintro e w1 ⟨rfl, rfl⟩
  clear HA1
  have S1 : Hid (SF w w.heap.size (w.heap.size + 1) (w.heap.size + 2) (w.heap.size + 3) (.slice a ys0.length cap) N 0 0 (.slice none 0 0) (.slice none 0 0) [] (((w.alloc (.cells #[.int .i64 N0, .int .i64 S0, .int .i64 T0, .slice a ys0.length cap] 24)).alloc (.cells #[.int .i64 0, .int .i64 0, .int .i64 0, .slice none 0 0] 24)).alloc (.cells #[.int .i64 N, .int .i64 0, .int .i64 0, .slice none 0 0] 24))) := Lib.hid
    ⟨HK.out.alloc _, ⟨_, _, _, HB.out.alloc _⟩, HR.out.alloc _, by have := Blk.new ((w.alloc (.cells #[.int .i64 N0, .int .i64 S0, .int .i64 T0, .slice a ys0.length cap] 24)).alloc (.cells #[.int .i64 0, .int .i64 0, .int .i64 0, .slice none 0 0] 24)) #[.int .i64 N, .int .i64 0, .int .i64 0, .slice none 0 0] 24; rw [e2] at this; exact this, Own.nil _ _, by simp⟩
  have HP1 := Lib.hid (HB.out.alloc (.cells #[.int .i64 N, .int .i64 0, .int .i64 0, .slice none 0 0] 24))
  go_upto_region 2 with (fail)
  clear HB HR HK e2
  generalize (((w.alloc (.cells #[.int .i64 N0, .int .i64 S0, .int .i64 T0, .slice a ys0.length cap] 24)).alloc (.cells #[.int .i64 0, .int .i64 0, .int .i64 0, .slice none 0 0] 24)).alloc (.cells #[.int .i64 N, .int .i64 0, .int .i64 0, .slice none 0 0] 24)) = W1 at S1 HP1 ⊢
  obtain ⟨nb, hnb⟩ : ∃ nb, nb = w.heap.size := ⟨_, rfl⟩
  obtain ⟨rb, hrb⟩ : ∃ rb, rb = w.heap.size + 1 := ⟨_, rfl⟩
  obtain ⟨ob, hob⟩ : ∃ ob, ob = w.heap.size + 2 := ⟨_, rfl⟩
  obtain ⟨Bs, hBs⟩ : ∃ Bs, Bs = w.heap.size + 3 := ⟨_, rfl⟩
  rw [← hrb, ← hob, ← hBs, ← hnb] at S1
  rw [← hnb] at HP1
  rw [← hrb, ← hob, ← hnb]
  have HNO : Hid (¬ nb = ob) := Lib.hid (by omega)
  have HNN : Hid (2 ≤ N ∧ N ≤ 16) := Lib.hid (by omega)
  clear hrb hob hBs hnb hw1 hN hq
  have cn := HP1.out.cell
  have co := S1.out.net.cell
  have fo := S1.out.net.free
  go_wp2_with fail
  refine (HA2 _).out.mono ?_
  rintro e w2 ⟨rfl, rfl⟩
  have S2 := Lib.hid (S1.out.setS S)
  have HP2 := Lib.hid (Blk.other HP1.out (p := ⟨ob, 1, none⟩) HNO.out (.int .i64 S))
  go_upto_region 3 with (fail)
  clear S1 HP1 cn co fo HA2
  generalize (w2.setCell ⟨ob, 1, none⟩ (.int .i64 S)) = W2 at S2 HP2 ⊢
  have cn := HP2.out.cell
  have co := S2.out.net.cell
  have fo := S2.out.net.free
  go_wp2_with fail
  refine (HA3 _).out.mono ?_
  rintro e w3 ⟨rfl, rfl⟩
  have S3 := Lib.hid (S2.out.setT T)
  have HP3 := Lib.hid (Blk.other HP2.out (p := ⟨ob, 2, none⟩) HNO.out (.int .i64 T))
  go_upto_region 4 with (fail)
  clear S2 HP2 cn co fo HA3
  generalize (w3.setCell ⟨ob, 2, none⟩ (.int .i64 T)) = W3 at S3 HP3 ⊢
  have co := S3.out.net.cell
  have fo := S3.out.net.free
  go_upto_if 34 with (fail)
  go_cut [] from 30 to 41 (fun wx => ∃ T1 : Int, Hid (SF w nb rb ob Bs (.slice a ys0.length cap) N S T1 (.slice none 0 0) (.slice none 0 0) [] wx) ∧ Hid (Blk wx nb #[.int .i64 N0, .int .i64 S0, .int .i64 T0, .slice a ys0.length cap] 24) ∧ Hid ((0 ≤ S ∧ S < N) ∧ (0 ≤ T1 ∧ T1 < N) ∧ S ≠ T1))
  case first =>
    by_cases hst : S = T
    · subst hst
      obtain ⟨T1, hT1⟩ : ∃ T1, (S + 1).tmod N = T1 := ⟨_, rfl⟩
      have hTb : 0 ≤ T1 ∧ T1 < N ∧ S ≠ T1 := by
        rw [Int.tmod_eq_emod_of_nonneg (by omega)] at hT1
        have hN := HNN.out
        by_cases hl : S + 1 < N
        · rw [Int.emod_eq_of_lt (by omega) hl] at hT1; omega
        · have e : S + 1 = N := by omega
          rw [e, Int.emod_self] at hT1; omega
      have S4 := Lib.hid (S3.out.setT T1)
      have HP4 := Lib.hid (Blk.other HP3.out (p := ⟨ob, 2, none⟩) HNO.out (.int .i64 T1))
      have hw1 : wrap64 (S + 1) = S + 1 := by unfold wrap64; have := HNN.out; omega
      have hw2 : IntKind.i64.wrap T1 = T1 := by rw [IntKind.wrap_i64]; have := HNN.out; omega
      have hN0 : (N == 0) = false := by have := HNN.out; simp; omega
      have hN1 : ¬ N = 0 := by have := HNN.out; omega
      go_wp2_with fail
      go_meet
      case rel => exact ⟨T1, S4, HP4, Lib.hid ⟨hs, ⟨hTb.1, hTb.2.1⟩, hTb.2.2⟩⟩
    · have hstb : (S == T) = false := by simpa using hst
      go_wp2_with fail
      go_meet
      case rel => exact ⟨T, S3, HP3, Lib.hid ⟨hs, ht, hst⟩⟩
  case rest =>

    obtain ⟨T, S4, HP4, HST⟩ := hcut
    generalize wc = W4 at *
    go_upto_region 6 with (fail)

    have cn := HP4.out.cell
    obtain ⟨M, hM⟩ : ∃ M, M = min ys0.length 30 := ⟨_, rfl⟩
    have hsl := fun w => run_take (P := Try.prog) Try.underlying22 (size := 3) (by kernel_rfl) a ys0.length cap M (by omega) w
    have hif1 : (if (30 : Int) < (ys0.length : Int) then (30 : Int) else (ys0.length : Int)) = (M : Int) := by split <;> omega
    have hif2 : (if 30 < ys0.length then (30 : Int) else (ys0.length : Int)) = (M : Int) := by split <;> omega
    have HM4 : Hid (M ≤ 40 ∧ M ≤ ys0.length) := Lib.hid (by omega)
    clear hM
    go_upto_region 7 with (fail)
    clear cn hsl hif1 hif2 HP4
    go_loopw [51] (fun ix wr => ∃ (k : Nat) (yy : List Ar) (ao : Option Addr) (co : Nat), ix = .int .i64 k ∧ k ≤ M ∧ Hid (SF w nb rb ob Bs (.slice a ys0.length cap) N S T (.slice ao k co) (.slice ao k co) yy wr) ∧ Hid (yy.length = k ∧ ∀ x ∈ yy, ArcOk N x)) (fun ix _ => M - (intOf ix).toNat)
    case atStart => exact ⟨0, [], none, 0, rfl, by omega, S4, Lib.hid ⟨rfl, by simp⟩⟩
    case round =>
      obtain ⟨k, yy, ao, co, rfl, hk, S5, HY⟩ := hrel
      clear S4
      by_cases hlt : k < M
      ·
        have hk0 : k < ys0.length := by have := HM4.out; omega
        obtain ⟨b, off, rfl, d0, d1, d2⟩ := (HX.out.kept S5.out.kp).at k hk0
        have hcw := HW.out ys0[k] (List.getElem_mem _)
        generalize ys0[k].f = f at d0
        generalize ys0[k].t = t at d1
        generalize ys0[k].c = cc at d2 hcw
        have q0 : (0 : Int) ≤ (k : Int) := by omega
        have q1 : (k : Int) < (M : Int) := by omega
        have cn0 := S5.out.net.cell
        have HXB := Lib.hid (Blk.new wr #[.int .i64 f, .int .i64 t, .int .i64 cc] 68)
        have S5w := S5
        have HAP : Hid (∀ k', (Value.slice ao k co).ownBlock = some k' → ¬ k' = wr.heap.size) := Lib.hid (fun k' hk' e => by have := (World.ownsRow.lt S5w.out.own k' hk').2; omega)
        have S5 := Lib.hid (S5.out.kept ((Upd.refl _ _).alloc (.cells #[.int .i64 f, .int .i64 t, .int .i64 cc] 68)))
        have hNN := HNN.out
        go_upto_if 58 with (fail)
        go_cut [10] from 57 to 61 (fun x wx => ∃ c1 : Int, x = .int .i64 c1 ∧ 0 ≤ c1 ∧ c1 ≤ 9223372036854775807 ∧ wx = (wr.alloc (.cells #[.int .i64 f, .int .i64 t, .int .i64 cc] 68)))
        case first =>
          by_cases hc : cc < 0
          · have hcw1 : IntKind.i64.wrap (cc + 1) = cc + 1 := by rw [IntKind.wrap_i64]; omega
            have hcb : decide (cc < 0) = true := by simpa using hc
            have hcw2 : IntKind.i64.wrap (-(cc + 1)) = -(cc + 1) := by rw [IntKind.wrap_i64]; omega
            go_wp2_with fail
            go_meet
            case rel => exact ⟨_, rfl, by omega, by omega, rfl⟩
          · have hcb : decide (cc < 0) = false := by simpa using hc
            go_wp2_with fail
            go_meet
            case rel => exact ⟨_, rfl, by omega, by omega, rfl⟩
        case rest =>
          obtain ⟨c1, rfl, hc10, hc11, rfl⟩ := hcut
          obtain ⟨r, hr⟩ : ∃ r, (c1 : Int).tmod 1125899906842624 = r := ⟨_, rfl⟩
          have hrb : 0 ≤ r ∧ r < 1125899906842624 := by
            rw [Int.tmod_eq_emod_of_nonneg (by omega)] at hr
            omega
          have hrw : IntKind.i64.wrap r = r := by rw [IntKind.wrap_i64]; omega
          go_upto_region 12 with (fail)
          clear d0 d1 d2 cn0
          have HRS : Hid (RS w nb rb ob Bs (.slice (some ⟨b, off, none⟩) ys0.length cap) N S T (.slice ao k co) (.slice ao k co) yy wr.heap.size f t cc (wr.alloc (.cells #[.int .i64 f, .int .i64 t, .int .i64 cc] 68))) := Lib.hid ⟨S5.out, HXB.out⟩
          have hxo : ¬ wr.heap.size = ob := by have := S5w.out.net.lt; omega
          generalize (wr.alloc (.cells #[.int .i64 f, .int .i64 t, .int .i64 cc] 68)) = W0 at HRS ⊢
          generalize wr.heap.size = xb at HRS hxo HAP ⊢
          have HR := Lib.hid (show _ ∧ _ from ⟨hr, hrw⟩)
          have hN1 : (1 : Int) ≤ N := by omega
          have hN2 : N ≤ 4611686018427387904 := by omega
          clear S5 S5w HXB hr hrw
          refine wp_region_inv (fun l us W => ∃ (b0 b1 b2 b3 b4 b5 b6 b7 b8 b9 b10 b11 b12 b13 b14 b15 b16 b17 b18 : Bool) (v62 v63 v64 v65 v66 v67 v68 v69 v70 v71 v72 v73 v74 v75 v76 v77 v78 v79 : Value) (zb : Nat), l = #[b0, b1, b2, b3, b4, b5, b6, b7, b8, b9, b10, b11, b12, b13, b14, b15, b16, b17, b18] ∧ us = [v62, v63, v64, v65, v66, v67, v68, v69, v70, v71, v72, v73, v74, v75, v76, v77, v78, v79] ∧ Hid (RS w nb rb ob Bs (.slice (some ⟨b, off, none⟩) ys0.length cap) N S T (if b18 then v78 else .slice ao k co) (if b16 then v78 else .slice ao k co) (if b16 then yy ++ [⟨am f N, am t N, r⟩] else yy) xb f t cc W) ∧
              Hid (b0 = true → v62 = .pointer (some ⟨ob, 3, none⟩)) ∧
              Hid (b1 = true → v63 = .slice ao k co) ∧
              Hid (b2 = true → v64 = .pointer (some ⟨xb, 0, none⟩)) ∧
              Hid (b3 = true → v65 = .int .i64 f) ∧
              Hid (b4 = true → v66 = .pointer (some ⟨ob, 0, none⟩)) ∧
              Hid (b5 = true → v67 = .int .i64 N) ∧
              Hid (b6 = true → v68 = .int .i64 (am f N)) ∧
              Hid (b7 = true → v69 = .pointer (some ⟨xb, 1, none⟩)) ∧
              Hid (b8 = true → v70 = .int .i64 t) ∧
              Hid (b9 = true → v71 = .pointer (some ⟨ob, 0, none⟩)) ∧
              Hid (b10 = true → v72 = .int .i64 N) ∧
              Hid (b11 = true → v73 = .int .i64 (am t N)) ∧
              Hid (b12 = true → v74 = .int .i64 c1) ∧
              Hid (b13 = true → v75 = .int .i64 r) ∧
              Hid (b14 = true → v76 = .agg #[.int .i64 (am f N), .int .i64 (am t N), .int .i64 r]) ∧
              Hid (b15 = true → v77 = .slice (some ⟨zb, 0, none⟩) 1 1 ∧ (b16 = false → Blk W zb #[.int .i64 (am f N), .int .i64 (am t N), .int .i64 r] 68)) ∧
              Hid (b17 = true → v79 = .pointer (some ⟨ob, 3, none⟩)) ∧
              Hid (b16 = true → ∃ g c, v78 = .slice (some ⟨g, 0, none⟩) (k + 1) c) ∧
              Hid (b16 = true → b1 = true) ∧
              Hid (b18 = true → b16 = true ∧ b1 = true)) [62, 63, 64, 65, 66, 67, 68, 69, 70, 71, 72, 73, 74, 75, 76, 77, 78, 79] [u62, u63, u64, u65, u66, u67, u68, u69, u70, u71, u72, u73, u74, u75, u76, u77, u78, u79] (by kernel_rfl) (by kernel_rfl) (by simp only [putAll, Act.put, List.setIfInBounds_toArray, List.set_cons_zero, List.set_cons_succ]) ?_ ?_ ?_
          · exact ⟨false, false, false, false, false, false, false, false, false, false, false, false, false, false, false, false, false, false, false, _, _, _, _, _, _, _, _, _, _, _, _, _, _, _, _, _, _, 0, rfl, rfl, Lib.hid (HRS.out.kept (Upd.refl _ _).drew), Lib.hid (by simp), Lib.hid (by simp), Lib.hid (by simp), Lib.hid (by simp), Lib.hid (by simp), Lib.hid (by simp), Lib.hid (by simp), Lib.hid (by simp), Lib.hid (by simp), Lib.hid (by simp), Lib.hid (by simp), Lib.hid (by simp), Lib.hid (by simp), Lib.hid (by simp), Lib.hid (by simp), Lib.hid (by simp), Lib.hid (by simp), Lib.hid (by simp), Lib.hid (by simp), Lib.hid (by simp)⟩
          · rintro i l us W ⟨b0, b1, b2, b3, b4, b5, b6, b7, b8, b9, b10, b11, b12, b13, b14, b15, b16, b17, b18, v62, v63, v64, v65, v66, v67, v68, v69, v70, v71, v72, v73, v74, v75, v76, v77, v78, v79, zb, rfl, rfl, hI, h0, h1, h2, h3, h4, h5, h6, h7, h8, h9, h10, h11, h12, h13, h14, h15, h17, h16, g16, g18⟩ hr
            have hi : i = 0 ∨ i = 1 ∨ i = 2 ∨ i = 3 ∨ i = 4 ∨ i = 5 ∨ i = 6 ∨ i = 7 ∨ i = 8 ∨ i = 9 ∨ i = 10 ∨ i = 11 ∨ i = 12 ∨ i = 13 ∨ i = 14 ∨ i = 15 ∨ i = 16 ∨ i = 17 ∨ i = 18 := by
              have := ready_lt hr
              simp at this
              omega
            rcases hi with rfl | rfl | rfl | rfl | rfl | rfl | rfl | rfl | rfl | rfl | rfl | rfl | rfl | rfl | rfl | rfl | rfl | rfl | rfl
            · skip
              obtain ⟨hn, hd⟩ := ready_at hr rfl
              simp [Region.binds] at hn hd
              refine wpOp_step rfl (fun K' hK => ?_)
              simp only [putAll, Act.put, List.setIfInBounds_toArray, List.set_cons_zero, List.set_cons_succ]
              go_simp
              exact hK _ _ ⟨_, by simp only [putAll, Act.put, List.setIfInBounds_toArray, List.set_cons_zero, List.set_cons_succ], true, b1, b2, b3, b4, b5, b6, b7, b8, b9, b10, b11, b12, b13, b14, b15, b16, b17, b18, _, _, _, _, _, _, _, _, _, _, _, _, _, _, _, _, _, _, zb, rfl, rfl, hI, Lib.hid (fun _ => rfl), h1, h2, h3, h4, h5, h6, h7, h8, h9, h10, h11, h12, h13, h14, h15, h17, h16, g16, g18⟩
            · skip
              obtain ⟨hn, hd⟩ := ready_at hr rfl
              simp [Region.binds] at hn hd
              obtain rfl := h0.out (by simp [hd])
              have h18 : b18 = false := by cases b18 with | false => rfl | true => (have := g18.out rfl; simp_all)
              have hI1 : RS w nb rb ob Bs (.slice (some ⟨b, off, none⟩) ys0.length cap) N S T (.slice ao k co) ((if b16 then v78 else .slice ao k co)) ((if b16 then yy ++ [⟨am f N, am t N, r⟩] else yy)) xb f t cc W := by have h := hI.out; rw [h18] at h; exact h
              have co3 := hI1.sf.net.cell 3
              refine wpOp_step rfl (fun K' hK => ?_)
              simp only [putAll, Act.put, List.setIfInBounds_toArray, List.set_cons_zero, List.set_cons_succ]
              go_simp
              exact hK _ _ ⟨_, by simp only [putAll, Act.put, List.setIfInBounds_toArray, List.set_cons_zero, List.set_cons_succ], b0, true, b2, b3, b4, b5, b6, b7, b8, b9, b10, b11, b12, b13, b14, b15, b16, b17, b18, _, _, _, _, _, _, _, _, _, _, _, _, _, _, _, _, _, _, zb, rfl, rfl, hI, h0, Lib.hid (fun _ => rfl), h2, h3, h4, h5, h6, h7, h8, h9, h10, h11, h12, h13, h14, h15, h17, h16, Lib.hid (fun _ => rfl), Lib.hid (fun hb => ⟨(g18.out hb).1, rfl⟩)⟩
            · skip
              obtain ⟨hn, hd⟩ := ready_at hr rfl
              simp [Region.binds] at hn hd
              refine wpOp_step rfl (fun K' hK => ?_)
              simp only [putAll, Act.put, List.setIfInBounds_toArray, List.set_cons_zero, List.set_cons_succ]
              go_simp
              exact hK _ _ ⟨_, by simp only [putAll, Act.put, List.setIfInBounds_toArray, List.set_cons_zero, List.set_cons_succ], b0, b1, true, b3, b4, b5, b6, b7, b8, b9, b10, b11, b12, b13, b14, b15, b16, b17, b18, _, _, _, _, _, _, _, _, _, _, _, _, _, _, _, _, _, _, zb, rfl, rfl, hI, h0, h1, Lib.hid (fun _ => rfl), h3, h4, h5, h6, h7, h8, h9, h10, h11, h12, h13, h14, h15, h17, h16, g16, g18⟩
            · skip
              obtain ⟨hn, hd⟩ := ready_at hr rfl
              simp [Region.binds] at hn hd
              obtain rfl := h2.out (by simp [hd])
              refine wpOp_step rfl (fun K' hK => ?_)
              simp only [putAll, Act.put, List.setIfInBounds_toArray, List.set_cons_zero, List.set_cons_succ]
              have cxb := hI.out.bx.cell
              go_simp
              exact hK _ _ ⟨_, by simp only [putAll, Act.put, List.setIfInBounds_toArray, List.set_cons_zero, List.set_cons_succ], b0, b1, b2, true, b4, b5, b6, b7, b8, b9, b10, b11, b12, b13, b14, b15, b16, b17, b18, _, _, _, _, _, _, _, _, _, _, _, _, _, _, _, _, _, _, zb, rfl, rfl, hI, h0, h1, h2, Lib.hid (fun _ => rfl), h4, h5, h6, h7, h8, h9, h10, h11, h12, h13, h14, h15, h17, h16, g16, g18⟩
            · skip
              obtain ⟨hn, hd⟩ := ready_at hr rfl
              simp [Region.binds] at hn hd
              refine wpOp_step rfl (fun K' hK => ?_)
              simp only [putAll, Act.put, List.setIfInBounds_toArray, List.set_cons_zero, List.set_cons_succ]
              go_simp
              exact hK _ _ ⟨_, by simp only [putAll, Act.put, List.setIfInBounds_toArray, List.set_cons_zero, List.set_cons_succ], b0, b1, b2, b3, true, b5, b6, b7, b8, b9, b10, b11, b12, b13, b14, b15, b16, b17, b18, _, _, _, _, _, _, _, _, _, _, _, _, _, _, _, _, _, _, zb, rfl, rfl, hI, h0, h1, h2, h3, Lib.hid (fun _ => rfl), h5, h6, h7, h8, h9, h10, h11, h12, h13, h14, h15, h17, h16, g16, g18⟩
            · skip
              obtain ⟨hn, hd⟩ := ready_at hr rfl
              simp [Region.binds] at hn hd
              obtain rfl := h4.out (by simp [hd])
              refine wpOp_step rfl (fun K' hK => ?_)
              simp only [putAll, Act.put, List.setIfInBounds_toArray, List.set_cons_zero, List.set_cons_succ]
              have co0 := hI.out.sf.net.cell 0
              go_simp
              exact hK _ _ ⟨_, by simp only [putAll, Act.put, List.setIfInBounds_toArray, List.set_cons_zero, List.set_cons_succ], b0, b1, b2, b3, b4, true, b6, b7, b8, b9, b10, b11, b12, b13, b14, b15, b16, b17, b18, _, _, _, _, _, _, _, _, _, _, _, _, _, _, _, _, _, _, zb, rfl, rfl, hI, h0, h1, h2, h3, h4, Lib.hid (fun _ => rfl), h6, h7, h8, h9, h10, h11, h12, h13, h14, h15, h17, h16, g16, g18⟩
            · skip
              obtain ⟨hn, hd⟩ := ready_at hr rfl
              simp [Region.binds] at hn hd
              obtain rfl := h3.out (by simp [hd])
              obtain rfl := h5.out (by simp [hd])
              refine wpOp_step rfl (fun K' hK => ?_)
              simp only [putAll, Act.put, List.setIfInBounds_toArray, List.set_cons_zero, List.set_cons_succ]
              go_simp
              refine (Among_any f N hN1 hN2 W).mono ?_
              rintro e' w' ⟨rfl, rfl⟩
              have hk : Kept w' w' := Upd.refl _ _
              have h15K := h15.out
              exact hK _ _ ⟨_, by simp only [putAll, Act.put, List.setIfInBounds_toArray, List.set_cons_zero, List.set_cons_succ], b0, b1, b2, b3, b4, b5, true, b7, b8, b9, b10, b11, b12, b13, b14, b15, b16, b17, b18, _, _, _, _, _, _, _, _, _, _, _, _, _, _, _, _, _, _, zb, rfl, rfl, (Lib.hid (hI.out.kept hk)), h0, h1, h2, h3, h4, h5, Lib.hid (fun _ => rfl), h7, h8, h9, h10, h11, h12, h13, h14, Lib.hid (fun hb => ⟨(h15.out hb).1, fun e => ((h15.out hb).2 e).kept hk⟩), h17, h16, g16, g18⟩
            · skip
              obtain ⟨hn, hd⟩ := ready_at hr rfl
              simp [Region.binds] at hn hd
              refine wpOp_step rfl (fun K' hK => ?_)
              simp only [putAll, Act.put, List.setIfInBounds_toArray, List.set_cons_zero, List.set_cons_succ]
              go_simp
              exact hK _ _ ⟨_, by simp only [putAll, Act.put, List.setIfInBounds_toArray, List.set_cons_zero, List.set_cons_succ], b0, b1, b2, b3, b4, b5, b6, true, b8, b9, b10, b11, b12, b13, b14, b15, b16, b17, b18, _, _, _, _, _, _, _, _, _, _, _, _, _, _, _, _, _, _, zb, rfl, rfl, hI, h0, h1, h2, h3, h4, h5, h6, Lib.hid (fun _ => rfl), h8, h9, h10, h11, h12, h13, h14, h15, h17, h16, g16, g18⟩
            · skip
              obtain ⟨hn, hd⟩ := ready_at hr rfl
              simp [Region.binds] at hn hd
              obtain rfl := h7.out (by simp [hd])
              refine wpOp_step rfl (fun K' hK => ?_)
              simp only [putAll, Act.put, List.setIfInBounds_toArray, List.set_cons_zero, List.set_cons_succ]
              have cxb := hI.out.bx.cell
              go_simp
              exact hK _ _ ⟨_, by simp only [putAll, Act.put, List.setIfInBounds_toArray, List.set_cons_zero, List.set_cons_succ], b0, b1, b2, b3, b4, b5, b6, b7, true, b9, b10, b11, b12, b13, b14, b15, b16, b17, b18, _, _, _, _, _, _, _, _, _, _, _, _, _, _, _, _, _, _, zb, rfl, rfl, hI, h0, h1, h2, h3, h4, h5, h6, h7, Lib.hid (fun _ => rfl), h9, h10, h11, h12, h13, h14, h15, h17, h16, g16, g18⟩
            · skip
              obtain ⟨hn, hd⟩ := ready_at hr rfl
              simp [Region.binds] at hn hd
              refine wpOp_step rfl (fun K' hK => ?_)
              simp only [putAll, Act.put, List.setIfInBounds_toArray, List.set_cons_zero, List.set_cons_succ]
              go_simp
              exact hK _ _ ⟨_, by simp only [putAll, Act.put, List.setIfInBounds_toArray, List.set_cons_zero, List.set_cons_succ], b0, b1, b2, b3, b4, b5, b6, b7, b8, true, b10, b11, b12, b13, b14, b15, b16, b17, b18, _, _, _, _, _, _, _, _, _, _, _, _, _, _, _, _, _, _, zb, rfl, rfl, hI, h0, h1, h2, h3, h4, h5, h6, h7, h8, Lib.hid (fun _ => rfl), h10, h11, h12, h13, h14, h15, h17, h16, g16, g18⟩
            · skip
              obtain ⟨hn, hd⟩ := ready_at hr rfl
              simp [Region.binds] at hn hd
              obtain rfl := h9.out (by simp [hd])
              refine wpOp_step rfl (fun K' hK => ?_)
              simp only [putAll, Act.put, List.setIfInBounds_toArray, List.set_cons_zero, List.set_cons_succ]
              have co0 := hI.out.sf.net.cell 0
              go_simp
              exact hK _ _ ⟨_, by simp only [putAll, Act.put, List.setIfInBounds_toArray, List.set_cons_zero, List.set_cons_succ], b0, b1, b2, b3, b4, b5, b6, b7, b8, b9, true, b11, b12, b13, b14, b15, b16, b17, b18, _, _, _, _, _, _, _, _, _, _, _, _, _, _, _, _, _, _, zb, rfl, rfl, hI, h0, h1, h2, h3, h4, h5, h6, h7, h8, h9, Lib.hid (fun _ => rfl), h11, h12, h13, h14, h15, h17, h16, g16, g18⟩
            · skip
              obtain ⟨hn, hd⟩ := ready_at hr rfl
              simp [Region.binds] at hn hd
              obtain rfl := h8.out (by simp [hd])
              obtain rfl := h10.out (by simp [hd])
              refine wpOp_step rfl (fun K' hK => ?_)
              simp only [putAll, Act.put, List.setIfInBounds_toArray, List.set_cons_zero, List.set_cons_succ]
              go_simp
              refine (Among_any t N hN1 hN2 W).mono ?_
              rintro e' w' ⟨rfl, rfl⟩
              have hk : Kept w' w' := Upd.refl _ _
              have h15K := h15.out
              exact hK _ _ ⟨_, by simp only [putAll, Act.put, List.setIfInBounds_toArray, List.set_cons_zero, List.set_cons_succ], b0, b1, b2, b3, b4, b5, b6, b7, b8, b9, b10, true, b12, b13, b14, b15, b16, b17, b18, _, _, _, _, _, _, _, _, _, _, _, _, _, _, _, _, _, _, zb, rfl, rfl, (Lib.hid (hI.out.kept hk)), h0, h1, h2, h3, h4, h5, h6, h7, h8, h9, h10, Lib.hid (fun _ => rfl), h12, h13, h14, Lib.hid (fun hb => ⟨(h15.out hb).1, fun e => ((h15.out hb).2 e).kept hk⟩), h17, h16, g16, g18⟩
            · skip
              obtain ⟨hn, hd⟩ := ready_at hr rfl
              simp [Region.binds] at hn hd
              refine wpOp_step rfl (fun K' hK => ?_)
              simp only [putAll, Act.put, List.setIfInBounds_toArray, List.set_cons_zero, List.set_cons_succ]
              go_simp
              exact hK _ _ ⟨_, by simp only [putAll, Act.put, List.setIfInBounds_toArray, List.set_cons_zero, List.set_cons_succ], b0, b1, b2, b3, b4, b5, b6, b7, b8, b9, b10, b11, true, b13, b14, b15, b16, b17, b18, _, _, _, _, _, _, _, _, _, _, _, _, _, _, _, _, _, _, zb, rfl, rfl, hI, h0, h1, h2, h3, h4, h5, h6, h7, h8, h9, h10, h11, Lib.hid (fun _ => rfl), h13, h14, h15, h17, h16, g16, g18⟩
            · skip
              obtain ⟨hn, hd⟩ := ready_at hr rfl
              simp [Region.binds] at hn hd
              obtain rfl := h12.out (by simp [hd])
              refine wpOp_step rfl (fun K' hK => ?_)
              simp only [putAll, Act.put, List.setIfInBounds_toArray, List.set_cons_zero, List.set_cons_succ]
              have hr := HR.out.1
              have hrw := HR.out.2
              go_simp
              exact hK _ _ ⟨_, by simp only [putAll, Act.put, List.setIfInBounds_toArray, List.set_cons_zero, List.set_cons_succ], b0, b1, b2, b3, b4, b5, b6, b7, b8, b9, b10, b11, b12, true, b14, b15, b16, b17, b18, _, _, _, _, _, _, _, _, _, _, _, _, _, _, _, _, _, _, zb, rfl, rfl, hI, h0, h1, h2, h3, h4, h5, h6, h7, h8, h9, h10, h11, h12, Lib.hid (fun _ => rfl), h14, h15, h17, h16, g16, g18⟩
            · skip
              obtain ⟨hn, hd⟩ := ready_at hr rfl
              simp [Region.binds] at hn hd
              obtain rfl := h6.out (by simp [hd])
              obtain rfl := h11.out (by simp [hd])
              obtain rfl := h13.out (by simp [hd])
              refine wpOp_step rfl (fun K' hK => ?_)
              simp only [putAll, Act.put, List.setIfInBounds_toArray, List.set_cons_zero, List.set_cons_succ]
              go_simp
              exact hK _ _ ⟨_, by simp only [putAll, Act.put, List.setIfInBounds_toArray, List.set_cons_zero, List.set_cons_succ], b0, b1, b2, b3, b4, b5, b6, b7, b8, b9, b10, b11, b12, b13, true, b15, b16, b17, b18, _, _, _, _, _, _, _, _, _, _, _, _, _, _, _, _, _, _, zb, rfl, rfl, hI, h0, h1, h2, h3, h4, h5, h6, h7, h8, h9, h10, h11, h12, h13, Lib.hid (fun _ => rfl), h15, h17, h16, g16, g18⟩
            · skip
              obtain ⟨hn, hd⟩ := ready_at hr rfl
              simp [Region.binds] at hn hd
              obtain rfl := h14.out (by simp [hd])
              refine wpOp_step rfl (fun K' hK => ?_)
              simp only [putAll, Act.put, List.setIfInBounds_toArray, List.set_cons_zero, List.set_cons_succ]
              go_simp
              have hk : Kept W (W.alloc (.cells #[.int .i64 (am f N), .int .i64 (am t N), .int .i64 r] 68)) := (Upd.refl _ _).alloc _
              exact hK _ _ ⟨_, by simp only [putAll, Act.put, List.setIfInBounds_toArray, List.set_cons_zero, List.set_cons_succ], b0, b1, b2, b3, b4, b5, b6, b7, b8, b9, b10, b11, b12, b13, b14, true, b16, b17, b18, _, _, _, _, _, _, _, _, _, _, _, _, _, _, _, _, _, _, W.heap.size, rfl, rfl, (Lib.hid (hI.out.kept hk)), h0, h1, h2, h3, h4, h5, h6, h7, h8, h9, h10, h11, h12, h13, h14, Lib.hid (fun _ => ⟨rfl, fun _ => Blk.new _ _ _⟩), h17, h16, g16, g18⟩
            · skip
              obtain ⟨hn, hd⟩ := ready_at hr rfl
              simp [Region.binds] at hn hd
              obtain rfl := h1.out (by simp [hd])
              obtain ⟨rfl, hR15⟩ := h15.out (by simp [hd])
              have h18 : b18 = false := by cases b18 with | false => rfl | true => (have := g18.out rfl; simp_all)
              obtain rfl : b16 = false := hn
              have hI0 : RS w nb rb ob Bs (.slice (some ⟨b, off, none⟩) ys0.length cap) N S T (.slice ao k co) (.slice ao k co) (yy) xb f t cc W := by have h := hI.out; rw [h18] at h; exact h
              obtain ⟨j0, hi, hz0, hz1, hz2⟩ := info_parts infoArc
              have hO : W.ownsRow Bs 68 3 (.slice ao k co) k (acells yy) := by have h := hI0.sf.own; unfold Own at h; rw [HY.out.1] at h; exact h
              have hM40 := HM4.out
              have hbs := hI0.sf.lt.2.2.2.2.1
              refine wpOp_step rfl (fun K' hK => ?_)
              simp only [putAll, Act.put, List.setIfInBounds_toArray, List.set_cons_zero, List.set_cons_succ]
              rw [if_pos (by rfl)]
              refine wp_append_tot (.tmp 63) (.tmp 77) 22 (by rfl) Bs 68 j0 (.agg #[.int .i64 0, .int .i64 0, .int .i64 0]) 3 24 Try.underlying22 hi hz0 hz1 hz2 rfl (by decide) (.slice ao k co) k (acells yy) (by simp [Act.eval]) hO ⟨zb, 0, none⟩ 1 1 [.int .i64 (am f N), .int .i64 (am t N), .int .i64 r] (by simp [Act.eval]) rfl (fun j u hu => by rw [Addr.add_lit, Nat.zero_add, (hR15 rfl).cell]; simpa using hu) (by intro u hu; simp at hu; rcases hu with rfl | rfl | rfl <;> rfl) (k + 1) rfl (by omega) (by unfold maxLen; omega) (by omega) hbs ?_
              intro g8 cap8 w8 hown hgrow
              change K' (Act.put _ (some 78) (.slice (some ⟨g8, 0, none⟩) (k + 1) cap8)) w8
              have hlt8 := World.ownsRow.lt hown g8 rfl
              have S8 : RS w nb rb ob Bs (.slice (some ⟨b, off, none⟩) ys0.length cap) N S T (.slice ao k co) (.slice (some ⟨g8, 0, none⟩) (k + 1) cap8) (yy ++ [⟨am f N, am t N, r⟩]) xb f t cc w8 := ⟨hI0.sf.app (x := ⟨am f N, am t N, r⟩) (by rw [HY.out.1]) hown hgrow, hI0.bx.upd (Upd.grown (S := fun kk => (.slice ao k co : Value).ownBlock = some kk) (Upd.refl _ _) hgrow (fun kk hk => .inl hk)) (fun e => HAP.out xb e rfl)⟩
              exact hK _ _ ⟨_, by simp only [putAll, Act.put, List.setIfInBounds_toArray, List.set_cons_zero, List.set_cons_succ], b0, b1, b2, b3, b4, b5, b6, b7, b8, b9, b10, b11, b12, b13, b14, b15, true, b17, b18, _, _, _, _, _, _, _, _, _, _, _, _, _, _, _, _, _, _, zb, rfl, rfl, (Lib.hid (by rw [h18]; exact S8)), h0, h1, h2, h3, h4, h5, h6, h7, h8, h9, h10, h11, h12, h13, h14, Lib.hid (fun hb => ⟨(h15.out hb).1, fun e => (by cases e)⟩), h17, Lib.hid (fun _ => ⟨g8, cap8, rfl⟩), Lib.hid (fun _ => (by simp [hd])), Lib.hid (fun hb => ⟨rfl, (g18.out hb).2⟩)⟩
            · skip
              obtain ⟨hn, hd⟩ := ready_at hr rfl
              simp [Region.binds] at hn hd
              refine wpOp_step rfl (fun K' hK => ?_)
              simp only [putAll, Act.put, List.setIfInBounds_toArray, List.set_cons_zero, List.set_cons_succ]
              go_simp
              exact hK _ _ ⟨_, by simp only [putAll, Act.put, List.setIfInBounds_toArray, List.set_cons_zero, List.set_cons_succ], b0, b1, b2, b3, b4, b5, b6, b7, b8, b9, b10, b11, b12, b13, b14, b15, b16, true, b18, _, _, _, _, _, _, _, _, _, _, _, _, _, _, _, _, _, _, zb, rfl, rfl, hI, h0, h1, h2, h3, h4, h5, h6, h7, h8, h9, h10, h11, h12, h13, h14, h15, Lib.hid (fun _ => rfl), h16, g16, g18⟩
            · skip
              obtain ⟨hn, hd⟩ := ready_at hr rfl
              simp [Region.binds] at hn hd
              obtain rfl := h17.out (by simp [hd])
              obtain rfl : b18 = false := hn
              have hb16 : b16 = true := by simp [hd]
              obtain ⟨g8, cap8, rfl⟩ := h16.out hb16
              have hI0 : RS w nb rb ob Bs (.slice (some ⟨b, off, none⟩) ys0.length cap) N S T (.slice ao k co) (.slice (some ⟨g8, 0, none⟩) (k + 1) cap8) (yy ++ [⟨am f N, am t N, r⟩]) xb f t cc W := by have h := hI.out; rw [hb16] at h; exact h
              have co := hI0.sf.net.cell
              have fo := hI0.sf.net.free
              refine wpOp_step rfl (fun K' hK => ?_)
              simp only [putAll, Act.put, List.setIfInBounds_toArray, List.set_cons_zero, List.set_cons_succ]
              go_simp
              have S9 : RS w nb rb ob Bs (.slice (some ⟨b, off, none⟩) ys0.length cap) N S T (.slice (some ⟨g8, 0, none⟩) (k + 1) cap8) (.slice (some ⟨g8, 0, none⟩) (k + 1) cap8) (yy ++ [⟨am f N, am t N, r⟩]) xb f t cc _ := ⟨hI0.sf.setN (.slice (some ⟨g8, 0, none⟩) (k + 1) cap8), Blk.other hI0.bx (p := ⟨ob, 3, none⟩) hxo _⟩
              exact hK _ _ ⟨_, by simp only [putAll, Act.put, List.setIfInBounds_toArray, List.set_cons_zero, List.set_cons_succ], b0, b1, b2, b3, b4, b5, b6, b7, b8, b9, b10, b11, b12, b13, b14, b15, b16, b17, true, _, _, _, _, _, _, _, _, _, _, _, _, _, _, _, _, _, _, zb, rfl, rfl, (Lib.hid (by rw [hb16]; exact S9)), h0, h1, h2, h3, h4, h5, h6, h7, h8, h9, h10, h11, h12, h13, h14, Lib.hid (fun hb => ⟨(h15.out hb).1, fun e => (by rw [hb16] at e; cases e)⟩), h17, h16, g16, Lib.hid (fun _ => ⟨hb16, g16.out hb16⟩)⟩
          · rintro l us W ⟨b0, b1, b2, b3, b4, b5, b6, b7, b8, b9, b10, b11, b12, b13, b14, b15, b16, b17, b18, v62, v63, v64, v65, v66, v67, v68, v69, v70, v71, v72, v73, v74, v75, v76, v77, v78, v79, zb, rfl, rfl, hI, h0, h1, h2, h3, h4, h5, h6, h7, h8, h9, h10, h11, h12, h13, h14, h15, h17, h16, g16, g18⟩ hall
            as_aux_lemma =>
            obtain rfl : b0 = true := by simpa using hall 0
            obtain rfl : b1 = true := by simpa using hall 1
            obtain rfl : b2 = true := by simpa using hall 2
            obtain rfl : b3 = true := by simpa using hall 3
            obtain rfl : b4 = true := by simpa using hall 4
            obtain rfl : b5 = true := by simpa using hall 5
            obtain rfl : b6 = true := by simpa using hall 6
            obtain rfl : b7 = true := by simpa using hall 7
            obtain rfl : b8 = true := by simpa using hall 8
            obtain rfl : b9 = true := by simpa using hall 9
            obtain rfl : b10 = true := by simpa using hall 10
            obtain rfl : b11 = true := by simpa using hall 11
            obtain rfl : b12 = true := by simpa using hall 12
            obtain rfl : b13 = true := by simpa using hall 13
            obtain rfl : b14 = true := by simpa using hall 14
            obtain rfl : b15 = true := by simpa using hall 15
            obtain rfl : b16 = true := by simpa using hall 16
            obtain rfl : b17 = true := by simpa using hall 17
            obtain rfl : b18 = true := by simpa using hall 18
            obtain rfl := h0.out rfl
            obtain rfl := h1.out rfl
            obtain rfl := h2.out rfl
            obtain rfl := h3.out rfl
            obtain rfl := h4.out rfl
            obtain rfl := h5.out rfl
            obtain rfl := h6.out rfl
            obtain rfl := h7.out rfl
            obtain rfl := h8.out rfl
            obtain rfl := h9.out rfl
            obtain rfl := h10.out rfl
            obtain rfl := h11.out rfl
            obtain rfl := h12.out rfl
            obtain rfl := h13.out rfl
            obtain rfl := h14.out rfl
            obtain ⟨rfl, hG15⟩ := h15.out rfl
            obtain rfl := h17.out rfl
            obtain ⟨g9, c9, rfl⟩ := h16.out rfl
            have hF : RS w nb rb ob Bs (.slice (some ⟨b, off, none⟩) ys0.length cap) N S T (.slice (some ⟨g9, 0, none⟩) (k + 1) c9) (.slice (some ⟨g9, 0, none⟩) (k + 1) c9) (yy ++ [⟨am f N, am t N, r⟩]) xb f t cc W := hI.out
            have HY2 : Hid ((yy ++ [(⟨am f N, am t N, r⟩ : Ar)]).length = k + 1 ∧ ∀ x ∈ yy ++ [(⟨am f N, am t N, r⟩ : Ar)], ArcOk N x) := Lib.hid ⟨by simp [HY.out.1], fun x hx => by
                rw [List.mem_append] at hx
                rcases hx with hx | hx
                · exact HY.out.2 x hx
                · simp at hx; subst hx; exact ⟨(am_in hN1).1, (am_in hN1).2, (am_in hN1).1, (am_in hN1).2, hrb.1, hrb.2⟩⟩
            have SFN := Lib.hid hF.sf
            clear hI hF HY HAP HRS HR
            simp only [putAll, Act.put, List.setIfInBounds_toArray, List.set_cons_zero, List.set_cons_succ]
            have hM40 := HM4.out
            go_wp2_with fail
            go_roundw
            case rel => exact ⟨k + 1, yy ++ [⟨am f N, am t N, r⟩], some ⟨g9, 0, none⟩, c9, by go_num, by omega, SFN, HY2⟩
            case measure => simp [intOf]; omega
      · as_aux_lemma =>
        have hkM : k = M := by omega
        subst hkM
        have hYO := HY.out.1
        have cnet := S5.out.net.cell
        have cres := S5.out.res.cell
        have fres := S5.out.res.free
        go_wp2_with fail
        obtain ⟨w9, hw9, hB9, hU9⟩ := S5.out.res.put4 (.int .i64 N) (.int .i64 S) (.int .i64 T) (.slice ao k co)
        rw [← hw9]
        have hc3 := hB9.cell
        clear hw9 cnet cres fres
        have hb := S5.out.lt
        have hok : NetOk N S T yy := ⟨HNN.out.1, HNN.out.2, HST.out.1, HST.out.2.1, HST.out.2.2, by have := HM4.out; omega, HY.out.2⟩
        refine bodyPost_ret (v := .agg #[.int .i64 N, .int .i64 S, .int .i64 T, .slice ao k co]) ?_ rfl ?_
        · simp [results, go_sem, hc3]
        · subst hYO
          exact ⟨N, S, T, ao, co, yy, rfl, hok, (S5.out.own.upd hU9 (fun k hk he => by omega)).base (by omega), S5.out.kp.then hU9 (fun k hk he => by omega)⟩
end Go.Proofs.Ytdhimfkmgcfohaa
