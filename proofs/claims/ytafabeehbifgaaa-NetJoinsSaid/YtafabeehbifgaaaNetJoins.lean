/- The law NetJoins (printed by gen_joins01.py). -/
import Derived.Test.YtafabeehbifgaaaJoins2
import Derived.Test.YtafabeehbifgaaaBump
import Derived.Test.YtafabeehbifgaaaAwake01
import Derived.Test.YtafabeehbifgaaaOpenNet
import Derived.Deep.CutRange
import Derived.Deep.RegionHeld3
import Derived.StillTailTactics
namespace Go.Proofs.Ytafabeehbifgaaa
set_option linter.unusedVariables false
open Go.RowKit

theorem check_is {w : World} {a : Option Addr} {xs : List Ar} (h : Ars w a xs) {n : Nat} (hn : xs.length = n) (hm : n ≤ 1000000) {N S T e0 : Int} (he : chkOf N S T xs = e0) (c : Nat) :
    Calls Try.prog 10 #[.agg #[.int .i64 N, .int .i64 S, .int .i64 T, .slice a n c]] w fun e w' => e = .returned (.int .i64 e0) ∧ Kept w w' := by
  subst hn he; exact Check_any N S T a c xs w h (by omega)
theorem join_is {w : World} {a : Option Addr} {xs : List Ar} (h : Ars w a xs) {n : Nat} (hn : xs.length = n) (hm : n ≤ 1000000) {N S T : Int} (he : chkOf N S T xs = 0) {out : List Ar} {ofl : List Int} (hj : joinGo [] [] xs = (out, ofl)) {on fn : Nat} (ho : out.length = on) (hf : ofl.length = fn) (c : Nat) :
    Calls Try.prog 13 #[.agg #[.int .i64 N, .int .i64 S, .int .i64 T, .slice a n c]] w fun e w' => ∃ aj cj af cf, e = .returned (.tuple #[.agg #[.int .i64 N, .int .i64 S, .int .i64 T, .slice aj on cj], .slice af fn cf]) ∧ Ars w' aj out ∧ Rd w' af (ofl.map (Value.int .i64)) ∧ Kept w w' := by
  subst hn ho hf
  refine (Join_ok N S T a c xs w h hm he).mono ?_
  rw [hj]
  rintro e w' ⟨aj, cj, vof, rfl, ho, hr, hk⟩
  obtain ⟨af, cf, rfl⟩ := row_form hr
  obtain ⟨a2, c2, e2, hR⟩ := Rd.owns hr
  cases e2
  exact ⟨aj, cj, af, cf, rfl, ho.at.2, hR, hk⟩
theorem join_no {w : World} {a : Option Addr} {xs : List Ar} (h : Ars w a xs) {n : Nat} (hn : xs.length = n) (hm : n ≤ 1000000) {N S T : Int} (he : ¬ chkOf N S T xs = 0) (c : Nat) :
    Calls Try.prog 13 #[.agg #[.int .i64 N, .int .i64 S, .int .i64 T, .slice a n c]] w fun e w' => ∃ aj cj af cf, e = .returned (.tuple #[.agg #[.int .i64 0, .int .i64 0, .int .i64 0, .slice aj 0 cj], .slice af 0 cf]) ∧ Kept w w' := by
  subst hn
  refine (Join_bad N S T a c xs w h hm he).mono ?_
  rintro e w' ⟨aj, cj, vof, rfl, ho, hr, hk⟩
  obtain ⟨af, cf, rfl⟩ := row_form hr
  exact ⟨aj, cj, af, cf, rfl, hk⟩
theorem copy_is (N S T : Int) {w : World} {a : Option Addr} {xs : List Ar} (h : Ars w a xs) {n : Nat} (hn : xs.length = n) (hm : n ≤ 1000000) (c : Nat) :
    Calls Try.prog 9 #[.agg #[.int .i64 N, .int .i64 S, .int .i64 T, .slice a n c]] w fun e w' => ∃ a' c', e = .returned (.agg #[.int .i64 N, .int .i64 S, .int .i64 T, (.slice a' n c')]) ∧ Own w' w.heap.size (.slice a' n c') xs ∧ Kept w w' := by
  subst hn; exact Copy_any N S T a c xs w h (by omega)
theorem samenet_is {w : World} {a a' : Option Addr} {xs : List Ar} (h : Ars w a xs) (h' : Ars w a' xs) {n : Nat} (hn : xs.length = n) (hm : n ≤ 1000000) (N S T : Int) (c c' : Nat) :
    Calls Try.prog 14 #[.agg #[.int .i64 N, .int .i64 S, .int .i64 T, .slice a n c], .agg #[.int .i64 N, .int .i64 S, .int .i64 T, .slice a' n c']] w fun e w' => e = .returned (.bool true) ∧ Kept w w' := by
  subst hn
  have h1 := SameNet_eq N S T a a' c c' xs xs w h h' rfl (by omega)
  simpa using h1
set_option maxRecDepth 100000 in
set_option maxHeartbeats 4000000 in
theorem netJoins_core (N S T : Int) (a : Option Addr) (n c : Nat) (ys : List Ar) (w : World) (h : Ars w a ys) (hn : ys.length = n) (hmost : n ≤ 9223372036854775807) :
    Calls Try.prog 5 #[.agg #[.int .i64 N, .int .i64 S, .int .i64 T, .slice a n c]] w fun e w' => e = .returned (.bool true) ∧ Kept w w' := by
  have HAW := fun w => Lib.hid (awake_any w)
  have HK0 := Lib.hid ((Upd.refl (fun _ => False) w).alloc (.cells #[.int .i64 N, .int .i64 S, .int .i64 T, .slice a n c] 24))
  have HX := Lib.hid h
  have HB0 := Lib.hid (Blk.new w #[.int .i64 N, .int .i64 S, .int .i64 T, .slice a n c] 24)
  have HN := Lib.hid hn
  clear h hn
  by_cases h1 : (200 : Int) < (n : Int)
  · as_aux_lemma =>
    go_enter Try.func5, Try.ntmps5
    go_wp2_with fail
    refine (HAW _).out.mono ?_
    rintro e w9 ⟨rfl, hk⟩
    have HKZ := Lib.hid (HK0.out.trans hk)
    clear hk
    go_wp2_with fail
    go_ret
    exact ⟨rfl, HKZ.out⟩
  · have hn2 : n ≤ 200 := by omega
    by_cases hck : chkOf N S T ys = 0
    · obtain ⟨out, ofl, hj⟩ : ∃ out ofl, joinGo [] [] ys = (out, ofl) := ⟨_, _, rfl⟩
      obtain ⟨hN0, hN1, hfi, _⟩ := chk_zero hck
      have hji := ji_of hfi.vy
      have hgo := fine_go ys [] [] hfi
      have hcj := chk_join hck (by have := HN.out; omega)
      rw [hj] at hji hgo hcj
      simp only at hji hgo hcj
      obtain ⟨on, hon⟩ : ∃ on, out.length = on := ⟨_, rfl⟩
      have HJI := Lib.hid hji
      have HFY := Lib.hid hfi
      have HFO := Lib.hid hgo
      have HCJ := Lib.hid hcj
      have HCK := Lib.hid hck
      have HL : Hid (ys.length = n ∧ out.length = on ∧ ofl.length = n ∧ n ≤ 200 ∧ on ≤ 200) := Lib.hid ⟨HN.out, hon, by rw [hji.len]; exact HN.out, hn2, by have := hji.ole; have := HN.out; omega⟩
      have HJO := Lib.hid (join_is (HX.out.kept HK0.out) HL.out.1 (by omega) hck hj HL.out.2.1 HL.out.2.2.1 c)
      clear hj hji hgo hcj hon hck hfi
      go_enter Try.func5, Try.ntmps5
      go_wp2_with fail
      refine HJO.out.mono ?_
      rintro e w1 ⟨aj, cj, af, cf, rfl, hA, hR, hk⟩
      have HB1 := Lib.hid (HB0.out.kept hk)
      have HK1 := Lib.hid (HK0.out.trans hk)
      have HA1 := Lib.hid hA
      have HR1 := Lib.hid hR
      clear hA hR hk HB0 HK0 HJO
      go_upto_region 4 with (fail)
      obtain ⟨nb, hnb⟩ : ∃ nb, nb = w.heap.size := ⟨_, rfl⟩
      obtain ⟨jb, hjb⟩ : ∃ jb, jb = w1.heap.size := ⟨_, rfl⟩
      have S2 : Hid (JW w nb jb N S T a aj af n c on cj cf ys out ofl (w1.alloc (.cells #[.int .i64 N, .int .i64 S, .int .i64 T, .slice aj on cj] 24))) := Lib.hid (by
        rw [hnb, hjb]
        exact ⟨HK1.out.alloc _, HB1.out.alloc _, Blk.new _ _ _, HX.out.kept (HK1.out.alloc _), HA1.out.kept ((Upd.refl _ _).alloc _), HR1.out.kept ((Upd.refl _ _).alloc _)⟩)
      generalize (w1.alloc (.cells #[.int .i64 N, .int .i64 S, .int .i64 T, .slice aj on cj] 24)) = W2 at S2 ⊢
      rw [← hnb, ← hjb]
      clear hnb hjb HB1 HK1 HA1 HR1
      have HC := Lib.hid (check_is S2.out.an HL.out.1 (by omega) HCK.out c)
      have cn := S2.out.nn.cell
      go_wp2_with fail
      refine HC.out.mono ?_
      rintro e w3 ⟨rfl, hk⟩
      have S3 := Lib.hid (S2.out.kept hk)
      clear hk S2 HC cn
      have HC := Lib.hid (check_is S3.out.aj' HL.out.2.1 (by have := HL.out; omega) HCJ.out cj)
      have cn := S3.out.nn.cell
      have cj' := S3.out.jj.cell
      go_upto_region 6 with (fail)
      go_wp2_with fail
      refine HC.out.mono ?_
      rintro e w4 ⟨rfl, hk⟩
      have S8 := Lib.hid (S3.out.kept hk)
      clear hk S3 HC cn cj'
      have cn := S8.out.nn.cell
      have cj' := S8.out.jj.cell
      go_upto_region 8 with (fail)
      have hmk := @run_makeMap Try.prog
      have HM9 := Lib.hid (MK.new w4)
      have HK9 : Hid (Kept w4 (w4.alloc (.map #[] 0))) := Lib.hid ((Upd.refl _ _).alloc _)
      have hlj := S8.out.jj.lt
      go_upto_region 10 with (fail)
      clear hmk cn cj' hlj
      generalize (w4.alloc (.map #[] 0)) = W9 at HM9 HK9 ⊢
      obtain ⟨mb, hmb⟩ : ∃ mb, mb = w4.heap.size := ⟨_, rfl⟩
      have HMB : Hid (w4.heap.size ≤ mb) := Lib.hid (Nat.le_of_eq hmb.symm)
      rw [← hmb] at HM9 ⊢
      clear hmb
      generalize w4 = W8 at S8 HK9 HMB
      go_loopw [85] (fun ix wr => ∃ (k m : Nat), ix = .int .i64 k ∧ k ≤ on ∧ Hid (Kept W8 wr) ∧ Hid (MK wr mb m (metG (out.take k)) ∧ m ≤ 2 * k)) (fun ix _ => on - (intOf ix).toNat)
      case atStart => exact ⟨0, 0, rfl, by omega, HK9, Lib.hid ⟨by rw [List.take_zero, metG_nil]; exact HM9.out, Nat.le_refl _⟩⟩
      case round =>
        obtain ⟨k, m, rfl, hk, HKr, HMr⟩ := hrel
        clear HK9 HM9
        by_cases hlt : k < on
        · as_aux_lemma =>
          have hko : k < out.length := by rw [HL.out.2.1]; exact hlt
          have SJ := Lib.hid (S8.out.kept HKr.out)
          obtain ⟨b, off, rfl, c0, c1, c2⟩ := SJ.out.aj'.at k hko
          have hr := HJI.out.rng out[k] (List.getElem_mem _)
          have hgn := metG_none HJI.out.one k hko
          have hgs : metG (out.take (k + 1)) = fun f' t' => if f' = out[k].f ∧ t' = out[k].t then some 1 else metG (out.take k) f' t' := by rw [List.take_succ_eq_append_getElem hko, metG_snoc]
          generalize out[k].f = f at c0 hr hgn hgs
          generalize out[k].t = t at c1 hr hgn hgs
          generalize out[k].c = cc at c2
          have hwf : wfi f := wfi_of (by omega) (by omega)
          have hwt : wfi t := wfi_of (by omega) (by omega)
          have q0 : (0 : Int) ≤ (k : Int) := by omega
          have q1 : (k : Int) < (on : Int) := by omega
          have hob := HL.out.2.2.2.2
          have HM1 : Hid (MK (wr.alloc (.cells #[.int .i64 f, .int .i64 t, .int .i64 cc] 31)).drew mb m (metG (out.take k))) := Lib.hid (HMr.out.1.upd (((Upd.refl (fun _ => False) wr).alloc _).drew) (fun x => x))
          have HA1 : Hid (Blk (wr.alloc (.cells #[.int .i64 f, .int .i64 t, .int .i64 cc] 31)).drew wr.heap.size #[.int .i64 f, .int .i64 t, .int .i64 cc] 31) := Lib.hid (Blk.new _ _ _).drew
          obtain ⟨st, w1, w2, hl0, he0, hl1, hs1, hM2, hU1, hU2⟩ := HM1.out.bump hwf hwt hgn (by have := HL.out; have := HMr.out.2; unfold maxLen; omega)
          have hne := HM1.out.ne HA1.out
          have HA2 := Lib.hid (HA1.out.upd hU1 (fun e => hne e.symm))
          have HA3 := Lib.hid (HA1.out.upd hU2 (fun e => hne e.symm))
          have HKr3 : Hid (Kept W8 w2) := Lib.hid ((HKr.out.trans (((Upd.refl (fun _ => False) wr).alloc (.cells #[.int .i64 f, .int .i64 t, .int .i64 cc] 31)).drew)).then hU2 (fun i hi he => by have := HMB.out; omega))
          have HM3 : Hid (MK w2 mb (m + 2) (metG (out.take (k + 1))) ∧ m + 2 ≤ 2 * (k + 1)) := Lib.hid ⟨by rw [hgs]; exact hM2, by have := HMr.out.2; omega⟩
          have hl2 := hM2.look hwf hwt (c := 1) (by simp)
          have hw1 : IntKind.i64.wrap 1 = 1 := by rw [IntKind.wrap_i64]; omega
          have hft : (f == t) = false := by simpa using hr.2.2.2.2
          have C1 := HA1.out.cell
          have C2 := HA2.out.cell
          have C3 := HA3.out.cell
          clear hgs hM2 hU1 hU2 hgn HM1 HMr hne
          go_upto_region 12 with (fail)
          clear c0 c1 c2
          generalize (wr.alloc (.cells #[.int .i64 f, .int .i64 t, .int .i64 cc] 31)) = W at HA1 hl0 he0 C1 ⊢
          generalize wr.heap.size = ab at HA1 HA2 HA3 C1 C2 C3 ⊢
          go_region_held3 (fun w' => ∀ i, w'.cell? ⟨ab, i, none⟩ = (#[.int .i64 f, .int .i64 t, .int .i64 cc] : Array Value)[i]?)
            (first | exact C1 | exact C2 | exact C3)
            (fail)
          all_goals
            clear C1 C2 hl0 he0 hl1 hs1
            go_wp2_with fail
            go_roundw
            case rel => exact ⟨k + 1, m + 2, by go_num, by omega, HKr3, HM3⟩
            case measure => simp [intOf]; omega
        · as_aux_lemma =>
          have SJ := Lib.hid (S8.out.kept HKr.out)
          clear HMr S8 HMB HKr
          generalize wr = Wa at SJ ⊢
          have HCP := Lib.hid (copy_is N S T SJ.out.aj' HL.out.2.1 (by have := HL.out; omega) cj)
          have cj' := SJ.out.jj.cell
          go_upto_region 16 with (fail)
          go_wp2_with fail
          refine HCP.out.mono ?_
          rintro e w10 ⟨al, cl, rfl, hO, hk⟩
          have NF0 : Hid (NF Wa w10.heap.size N S T al on cl out (w10.alloc (.cells #[.int .i64 N, .int .i64 S, .int .i64 T, .slice al on cl] 24))) := Lib.hid ⟨hk.alloc _, Blk.new _ _ _, hO.kept ((Upd.refl _ _).alloc _), hk.size⟩
          clear hO hk cj' HCP
          go_upto_region 17 with (fail)
          generalize (w10.alloc (.cells #[.int .i64 N, .int .i64 S, .int .i64 T, .slice al on cl] 24)) = W11 at NF0 ⊢
          generalize w10.heap.size = lb at NF0 ⊢
          go_wp2_with fail
          go_loopw [9, 119] (fun la ix wr => ∃ i : Nat, ix = .int .i64 i ∧ i ≤ n ∧ la = .int .i64 (lastOf (ofl.take i)) ∧ Hid (NF Wa lb N S T al on cl (leftAt out (ys.take i) (ofl.take i)) wr)) (fun _ ix _ => n - (intOf ix).toNat)
          case atStart => exact ⟨0, rfl, by omega, rfl, by rw [List.take_zero, List.take_zero, leftAt_zero]; exact NF0⟩
          case round =>
            obtain ⟨i, rfl, hi, rfl, NF1⟩ := hrel
            clear NF0
            by_cases hlt : i < n
            · as_aux_lemma =>
              have hiy : i < ys.length := by rw [HL.out.1]; exact hlt
              have hio : i < ofl.length := by rw [HL.out.2.2.1]; exact hlt
              have S12 := Lib.hid (SJ.out.kept NF1.out.kp)
              have hL0 := last_bounds HJI.out (by have := HL.out; omega) i
              have hLn := last_next ofl i hio
              have hrise := HJI.out.rise i hio
              have hpos := HJI.out.pos i hiy hio
              have hcy := HFY.out.cy ys[i] (List.getElem_mem _)
              have hcy2 : ys[i].c ≤ 4611686018427387904 := by
                have h1 := capsOf_ge ys HFY.out.cy ys[i] (List.getElem_mem _)
                have h2 := HFY.out.sum
                simp only [capsOf] at h2
                omega
              obtain ⟨b, off, rfl, c0, c1, c2⟩ := S12.out.an.at i hiy
              have hofc : ∃ bo oo, af = some ⟨bo, oo, none⟩ ∧ wr.cell? ⟨bo, oo + i, none⟩ = some (.int .i64 ofl[i]) := by
                obtain ⟨bo, oo, e1, e2⟩ := S12.out.of.at i (by simpa using hio)
                exact ⟨bo, oo, e1, by rw [e2]; simp [hio]⟩
              obtain ⟨bo, oo, rfl, co⟩ := hofc
              have q0 : (0 : Int) ≤ (i : Int) := by omega
              have q1 : (i : Int) < (n : Int) := by omega
              have hob := HL.out.2.2.2
              rcases hpos with ⟨hft, ho1⟩ | ⟨hft, k, hko, ho1, hkf, hkt⟩
              · as_aux_lemma =>
                have hsk := left_next_skip (out := out) HJI.out.len i hiy ho1
                have NF2 : Hid (NF Wa lb N S T al on cl (leftAt out (ys.take (i + 1)) (ofl.take (i + 1))) (wr.alloc (.cells #[.int .i64 ys[i].f, .int .i64 ys[i].t, .int .i64 ys[i].c] 31))) := Lib.hid (by rw [hsk]; exact NF1.out.kept ((Upd.refl _ _).alloc _))
                rw [ho1] at hLn co
                have hL1 : lastOf (ofl.take (i + 1)) = lastOf (ofl.take i) := by rw [hLn, if_neg (by omega)]
                generalize lastOf (ofl.take i) = L0 at hL0 hL1 hrise hLn ⊢
                have hnl : ¬ L0 < -1 := by omega
                rw [← hft] at c1 NF2
                generalize ys[i].f = f at c0 c1 NF2
                generalize ys[i].c = cc at c2 NF2
                have cn := S12.out.nn.cell
                have cj' := S12.out.jj.cell
                have hln := S12.out.nn.lt
                have hlj := S12.out.jj.lt
                clear hsk hLn hrise hcy hcy2 hft
                go_wp2_with fail
                go_roundw
                case rel => exact ⟨i + 1, by go_num, by omega, by rw [hL1], NF2⟩
                case measure => simp [intOf]; omega
              · as_aux_lemma =>
                have hq' : k < (leftAt out (ys.take i) (ofl.take i)).length := by rw [leftAt_len]; exact hko
                have hst := left_next_step HJI.out.len i hiy k hko ho1 hq'
                have hroom := left_room HFY.out HFO.out i k hko hq'
                obtain ⟨bj, oj, rfl, d0, d1, d2⟩ := S12.out.aj'.at k hko
                rw [hkf] at d0
                rw [hkt] at d1
                rw [ho1] at hLn co hrise
                have hkon : k < on := by rw [← HL.out.2.1]; exact hko
                obtain ⟨L1, hL1⟩ : ∃ L1, lastOf (ofl.take (i + 1)) = L1 := ⟨_, rfl⟩
                rw [hL1] at hLn
                have HL1 := Lib.hid hL1
                generalize lastOf (ofl.take i) = L0 at hL0 hrise hLn ⊢
                have NF2 := Lib.hid (NF1.out.kept ((Upd.refl _ _).alloc (.cells #[.int .i64 ys[i].f, .int .i64 ys[i].t, .int .i64 ys[i].c] 31)))
                have S13 := Lib.hid (S12.out.kept ((Upd.refl _ _).alloc (.cells #[.int .i64 ys[i].f, .int .i64 ys[i].t, .int .i64 ys[i].c] 31)))
                have HA := Lib.hid (Blk.new wr #[.int .i64 ys[i].f, .int .i64 ys[i].t, .int .i64 ys[i].c] 31)
                have k0 : (0 : Int) ≤ (k : Int) := by omega
                have k1 : (k : Int) < (on : Int) := by omega
                have k2 : ¬ (on : Int) ≤ (k : Int) := by omega
                have k3 : ¬ (k : Int) < 0 := by omega
                have k4 : ¬ L0 + 1 < (k : Int) := by omega
                have hfb : (ys[i].f == ys[i].t) = false := by simpa using hft
                have cn := S12.out.nn.cell
                have cj' := S12.out.jj.cell
                have hln := S12.out.nn.lt
                have hlj := S12.out.jj.lt
                clear hL1 hft ho1
                by_cases hm : L0 < (k : Int)
                · as_aux_lemma =>
                  rw [if_pos hm] at hLn
                  go_upto_region 26 with (fail)
                  clear c0 c1 c2 co d0 d1 d2 cn cj' hln hlj k2 k3 k4 hfb S12
                  generalize (wr.alloc (.cells #[.int .i64 ys[i].f, .int .i64 ys[i].t, .int .i64 ys[i].c] 31)) = W at NF2 S13 HA ⊢
                  generalize wr.heap.size = ab at HA ⊢
                  have hd := S13.out.aj'.at k hko
                  rw [hkf, hkt] at hd
                  obtain ⟨bj2, oj2, ej, d0, d1, d2⟩ := hd
                  cases ej
                  have ca := HA.out.cell
                  have cj' := S13.out.jj.cell
                  have HKQ : ∀ nq, Hid (Kept W (W.drewN nq)) := fun nq => Lib.hid ⟨rfl, rfl, rfl, Nat.le_refl _, fun _ _ _ => rfl⟩
                  go_wp2_with fail
                  go_quiet (fail)
                  have NF3 := Lib.hid (NF2.out.kept (HKQ nq).out)
                  have HA3 := Lib.hid (HA.out.kept (HKQ nq).out)
                  clear HKQ d0 d1 d2 ca cj' NF2 HA S13
                  generalize W.drewN nq = W3 at NF3 HA3 ⊢
                  obtain ⟨gl, rfl, hgl, hgs, hgf⟩ := NF3.out.own.blk (by rw [leftAt_len, HL.out.2.1]; omega)
                  have ccl := NF3.out.own.capAt k hq'
                  have cl8 := NF3.out.net.cell
                  have ca := HA3.out.cell
                  obtain ⟨r, hr⟩ : ∃ r, (leftAt out (ys.take i) (ofl.take i))[k].c - ys[i].c = r := ⟨_, rfl⟩
                  have NF4 : Hid (NF Wa lb N S T (some ⟨gl, 0, none⟩) on cl (leftAt out (ys.take (i + 1)) (ofl.take (i + 1))) (W3.drew.setCell ⟨gl, k * 3 + 2, none⟩ (.int .i64 r))) := Lib.hid (by
                    have h := (NF3.out.kept ((Upd.refl _ _).drew)).setC k hq' r
                    rw [← hr, ← hst, hr] at h
                    exact h)
                  generalize (leftAt out (ys.take i) (ofl.take i))[k].c = lc at ccl hroom hr
                  have hw1 : IntKind.i64.wrap (lc - ys[i].c) = r := by rw [IntKind.wrap_i64]; omega
                  clear hr hst
                  go_upto_region 28 with (fail)
                  go_still_tail 9, (by kernel_rfl)
                  change wpList _ _ _ _ _ W3.drew
                  have f0 : W3.drew.cell? ⟨gl, k * 3 + 2, none⟩ = some (.int .i64 lc) := ccl
                  have f1 : ∀ j, W3.drew.frozen? ⟨gl, j, none⟩ = false := hgf
                  clear ccl cl8 ca hgf hw1 NF3 HA3
                  generalize W3.drew = W5 at NF4 f0 f1 ⊢
                  go_wp2_with fail
                  go_roundw
                  case rel => exact ⟨i + 1, by go_num, by omega, by rw [HL1.out, hLn], NF4⟩
                  case measure => simp [intOf]; omega
                · as_aux_lemma =>
                  rw [if_neg hm] at hLn
                  go_upto_region 26 with (fail)
                  clear c0 c1 c2 co d0 d1 d2 cn cj' hln hlj k2 k3 k4 hfb S12
                  generalize (wr.alloc (.cells #[.int .i64 ys[i].f, .int .i64 ys[i].t, .int .i64 ys[i].c] 31)) = W at NF2 S13 HA ⊢
                  generalize wr.heap.size = ab at HA ⊢
                  have hd := S13.out.aj'.at k hko
                  rw [hkf, hkt] at hd
                  obtain ⟨bj2, oj2, ej, d0, d1, d2⟩ := hd
                  cases ej
                  have ca := HA.out.cell
                  have cj' := S13.out.jj.cell
                  have HKQ : ∀ nq, Hid (Kept W (W.drewN nq)) := fun nq => Lib.hid ⟨rfl, rfl, rfl, Nat.le_refl _, fun _ _ _ => rfl⟩
                  go_wp2_with fail
                  go_quiet (fail)
                  have NF3 := Lib.hid (NF2.out.kept (HKQ nq).out)
                  have HA3 := Lib.hid (HA.out.kept (HKQ nq).out)
                  clear HKQ d0 d1 d2 ca cj' NF2 HA S13
                  generalize W.drewN nq = W3 at NF3 HA3 ⊢
                  obtain ⟨gl, rfl, hgl, hgs, hgf⟩ := NF3.out.own.blk (by rw [leftAt_len, HL.out.2.1]; omega)
                  have ccl := NF3.out.own.capAt k hq'
                  have cl8 := NF3.out.net.cell
                  have ca := HA3.out.cell
                  obtain ⟨r, hr⟩ : ∃ r, (leftAt out (ys.take i) (ofl.take i))[k].c - ys[i].c = r := ⟨_, rfl⟩
                  have NF4 : Hid (NF Wa lb N S T (some ⟨gl, 0, none⟩) on cl (leftAt out (ys.take (i + 1)) (ofl.take (i + 1))) (W3.drew.setCell ⟨gl, k * 3 + 2, none⟩ (.int .i64 r))) := Lib.hid (by
                    have h := (NF3.out.kept ((Upd.refl _ _).drew)).setC k hq' r
                    rw [← hr, ← hst, hr] at h
                    exact h)
                  generalize (leftAt out (ys.take i) (ofl.take i))[k].c = lc at ccl hroom hr
                  have hw1 : IntKind.i64.wrap (lc - ys[i].c) = r := by rw [IntKind.wrap_i64]; omega
                  clear hr hst
                  go_upto_region 28 with (fail)
                  go_still_tail 9, (by kernel_rfl)
                  change wpList _ _ _ _ _ W3.drew
                  have f0 : W3.drew.cell? ⟨gl, k * 3 + 2, none⟩ = some (.int .i64 lc) := ccl
                  have f1 : ∀ j, W3.drew.frozen? ⟨gl, j, none⟩ = false := hgf
                  clear ccl cl8 ca hgf hw1 NF3 HA3
                  generalize W3.drew = W5 at NF4 f0 f1 ⊢
                  go_wp2_with fail
                  go_roundw
                  case rel => exact ⟨i + 1, by go_num, by omega, by rw [HL1.out, hLn], NF4⟩
                  case measure => simp [intOf]; omega
            · as_aux_lemma =>
              obtain rfl : n = i := by omega
              have HZ : ∀ q (hq' : q < (leftAt out (ys.take n) (ofl.take n)).length), (leftAt out (ys.take n) (ofl.take n))[q].c = 0 := by
                have h := @left_end _ _ _ _ HJI.out
                rw [HL.out.1] at h
                exact h
              have HLF : Hid ((leftAt out (ys.take n) (ofl.take n)).length = on) := Lib.hid (by rw [leftAt_len]; exact HL.out.2.1)
              generalize leftAt out (ys.take n) (ofl.take n) = lf at NF1 HZ HLF
              have HZH := Lib.hid HZ
              clear HZ
              have cl8 := NF1.out.net.cell
              go_upto_region 31 with (fail)
              clear cl8
              generalize lastOf (ofl.take n) = L0
              go_loopw [190] (fun ix wx => ∃ q : Nat, ix = .int .i64 q ∧ q ≤ on ∧ Hid (Kept wr wx)) (fun ix _ => on - (intOf ix).toNat)
              case atStart => exact ⟨0, rfl, by omega, Lib.hid (Upd.refl _ _)⟩
              case round =>
                obtain ⟨q, rfl, hq, HKx⟩ := hrel
                by_cases hlt2 : q < on
                · as_aux_lemma =>
                  have hql : q < lf.length := by rw [HLF.out]; exact hlt2
                  obtain ⟨b, off, rfl, d0, d1, d2⟩ := (NF1.out.own.at.2.kept HKx.out).at q hql
                  rw [HZH.out q hql] at d2
                  generalize lf[q].f = f at d0
                  generalize lf[q].t = t at d1
                  have q0 : (0 : Int) ≤ (q : Int) := by omega
                  have q1 : (q : Int) < (on : Int) := by omega
                  have hob := HL.out.2.2.2.2
                  have HKy := Lib.hid (HKx.out.alloc (.cells #[.int .i64 f, .int .i64 t, .int .i64 0] 31))
                  clear HKx
                  go_wp2_with fail
                  go_roundw
                  case rel => exact ⟨q + 1, by go_num, by omega, HKy⟩
                  case measure => simp [intOf]; omega
                · as_aux_lemma =>
                  have S20 := Lib.hid (SJ.out.kept (NF1.out.kp.trans HKx.out))
                  have hj2 := join_again out [] [] (by simpa using HJI.out.one) (fun x hx => (HJI.out.rng x hx).2.2.2.2) (by simp)
                  rw [List.nil_append] at hj2
                  have HJ2 := Lib.hid (join_is S20.out.aj' HL.out.2.1 (by have := HL.out; omega) HCJ.out hj2 HL.out.2.1 (fn := on) (by simp; exact HL.out.2.1) cj)
                  have cj' := S20.out.jj.cell
                  clear NF1 HKx HZH HLF hj2
                  go_upto_region 36 with (fail)
                  go_wp2_with fail
                  refine HJ2.out.mono ?_
                  rintro e w21 ⟨a5, c5, f5, g5, rfl, hA, hR, hk⟩
                  have S21 := Lib.hid (S20.out.kept hk)
                  have HA21 := Lib.hid hA
                  have HR21 := Lib.hid hR
                  clear hA hR hk HJ2 cj' S20
                  go_upto_region 37 with (fail)
                  have HG22 := Lib.hid (Blk.new w21 #[.int .i64 N, .int .i64 S, .int .i64 T, .slice a5 on c5] 24)
                  have S22 := Lib.hid (S21.out.kept ((Upd.refl _ _).alloc (.cells #[.int .i64 N, .int .i64 S, .int .i64 T, .slice a5 on c5] 24)))
                  have HA22 := Lib.hid (HA21.out.kept ((Upd.refl _ _).alloc (.cells #[.int .i64 N, .int .i64 S, .int .i64 T, .slice a5 on c5] 24)))
                  have HR22 := Lib.hid (HR21.out.kept ((Upd.refl _ _).alloc (.cells #[.int .i64 N, .int .i64 S, .int .i64 T, .slice a5 on c5] 24)))
                  generalize (w21.alloc (.cells #[.int .i64 N, .int .i64 S, .int .i64 T, .slice a5 on c5] 24)) = w22 at HG22 S22 HA22 HR22 ⊢
                  generalize w21.heap.size = kb at HG22 ⊢
                  clear S21 HA21 HR21
                  go_wp2_with fail
                  go_loopw [205] (fun ix wx => ∃ q : Nat, ix = .int .i64 q ∧ q ≤ on ∧ Hid (Kept w22 wx)) (fun ix _ => on - (intOf ix).toNat)
                  case atStart => exact ⟨0, rfl, by omega, Lib.hid (Upd.refl _ _)⟩
                  case round =>
                    obtain ⟨q, rfl, hq2, HKz⟩ := hrel
                    by_cases hlt3 : q < on
                    · as_aux_lemma =>
                      have hqo : q < out.length := by rw [HL.out.2.1]; exact hlt3
                      have hofc : ∃ bo oo, f5 = some ⟨bo, oo, none⟩ ∧ wr.cell? ⟨bo, oo + q, none⟩ = some (.int .i64 (q : Int)) := by
                        obtain ⟨bo, oo, e1, e2⟩ := (HR22.out.kept HKz.out).at q (by simpa using hqo)
                        exact ⟨bo, oo, e1, by rw [e2]; simp [hqo]⟩
                      obtain ⟨bo, oo, rfl, co⟩ := hofc
                      have q0 : (0 : Int) ≤ (q : Int) := by omega
                      have q1 : (q : Int) < (on : Int) := by omega
                      have hob := HL.out.2.2.2.2
                      go_wp2_with fail
                      go_roundw
                      case rel => exact ⟨q + 1, by go_num, by omega, HKz⟩
                      case measure => simp [intOf]; omega
                    · as_aux_lemma =>
                      have S23 := Lib.hid (S22.out.kept HKz.out)
                      have HG23 := Lib.hid (HG22.out.kept HKz.out)
                      have HS := Lib.hid (samenet_is (HA22.out.kept HKz.out) S23.out.aj' HL.out.2.1 (by have := HL.out; omega) N S T c5 cj)
                      have cj' := S23.out.jj.cell
                      have cg := HG23.out.cell
                      clear S22 HG22 HA22 HR22 HKz
                      go_upto_region 43 with (fail)
                      go_wp2_with fail
                      refine HS.out.mono ?_
                      rintro e w24 ⟨rfl, hk⟩
                      have HK24 := Lib.hid (S23.out.kp.trans hk)
                      clear hk cj' cg HS S23 HG23
                      go_wp2_with fail
                      refine (HAW _).out.mono ?_
                      rintro e w25 ⟨rfl, hk⟩
                      have HK25 := Lib.hid (HK24.out.trans hk)
                      clear hk
                      go_wp2_with fail
                      go_ret
                      exact ⟨rfl, HK25.out⟩
    · as_aux_lemma =>
      obtain ⟨ck, hcke⟩ : ∃ ck, chkOf N S T ys = ck := ⟨_, rfl⟩
      have HJO := Lib.hid (join_no (HX.out.kept HK0.out) HN.out (by omega) hck c)
      rw [hcke] at hck
      have HCK := Lib.hid hcke
      have hcb : (ck != 0) = true := by simpa using hck
      clear hcke hck
      go_enter Try.func5, Try.ntmps5
      go_wp2_with fail
      refine HJO.out.mono ?_
      rintro e w1 ⟨aj, cj, af, cf, rfl, hk⟩
      have HB1 := Lib.hid (HB0.out.kept hk)
      have HK1 := Lib.hid (HK0.out.trans hk)
      clear hk HB0 HK0 HJO
      go_upto_region 4 with (fail)
      have HB2 := Lib.hid (HB1.out.alloc (.cells #[.int .i64 0, .int .i64 0, .int .i64 0, .slice aj 0 cj] 24))
      have HK2 := Lib.hid (HK1.out.alloc (.cells #[.int .i64 0, .int .i64 0, .int .i64 0, .slice aj 0 cj] 24))
      have HJ2 := Lib.hid (Blk.new w1 #[.int .i64 0, .int .i64 0, .int .i64 0, .slice aj 0 cj] 24)
      generalize (w1.alloc (.cells #[.int .i64 0, .int .i64 0, .int .i64 0, .slice aj 0 cj] 24)) = W2 at HB2 HK2 HJ2 ⊢
      generalize w1.heap.size = jb at HJ2 ⊢
      clear HB1 HK1
      have HC := Lib.hid (check_is (HX.out.kept HK2.out) HN.out (by omega) HCK.out c)
      have cn := HB2.out.cell
      go_wp2_with fail
      refine HC.out.mono ?_
      rintro e w3 ⟨rfl, hk⟩
      have HK3 := Lib.hid (HK2.out.trans hk)
      have HJ3 := Lib.hid (HJ2.out.kept hk)
      clear hk HC cn HK2 HJ2 HB2
      have cj' := HJ3.out.cell
      go_wp2_with fail
      refine (HAW _).out.mono ?_
      rintro e w9 ⟨rfl, hk⟩
      have HKZ := Lib.hid (HK3.out.trans hk)
      clear hk
      go_wp2_with fail
      go_ret
      exact ⟨rfl, HKZ.out⟩
theorem netJoins_walk (N S T : Int) (a : Option Addr) (cap : Nat) (els : List (List Value)) (w : World) (_wN : (Lit.int .i64 N).wf = true) (_wS : (Lit.int .i64 S).wf = true) (_wT : (Lit.int .i64 T).wf = true) (hrow : FlatRow [some .i64, some .i64, some .i64] w a cap els) (_hf : ∀ x ∈ els, fits [some .i64, some .i64, some .i64] x) :
    Calls Try.prog 5 #[.agg #[.int .i64 N, .int .i64 S, .int .i64 T, .slice a els.length cap]] w fun e w' => e = .returned (.bool true) ∧ Kept w w' := by
  obtain ⟨ys, hl, hA, _⟩ := ars_of_flat hrow
  have hle := hrow.le
  have hmo := hrow.most
  unfold maxLen at hmo
  exact netJoins_core N S T a els.length cap ys w hA hl (by omega)
end Go.Proofs.Ytafabeehbifgaaa
