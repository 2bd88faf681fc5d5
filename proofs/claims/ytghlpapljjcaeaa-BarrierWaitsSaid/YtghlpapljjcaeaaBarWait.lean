/- The law BarrierWaits (printed by gen_barwait.py). -/
import Derived.Test.YtghlpapljjcaeaaCrowdLaw
import Derived.Test.YtghlpapljjcaeaaBarWaitP
import Derived.Test.YtghlpapljjcaeaaAwake14
import Derived.Test.YtghlpapljjcaeaaRowsRd
import Derived.Deep.CutRange
namespace Go.Proofs.Ytghlpapljjcaeaa
set_option linter.unusedVariables false
open Go.RowKit
attribute [local go_sem] cell?_ext

set_option maxRecDepth 100000 in
set_option maxHeartbeats 8000000 in
theorem barrierWaits_walk (a0 a1 a2 : Int) (s3 : Option Addr) (cap3 : Nat) (z3 : List Int) (w : World) (w0 : (Lit.int .u8 a0).wf = true) (w1 : (Lit.int .u8 a1).wf = true) (w2 : (Lit.int .u8 a2).wf = true) (h3 : IntRow .u8 w s3 cap3 z3) (m3 : ∀ n ∈ z3, (Lit.int .u8 n).wf = true) :
    Calls Try.prog 4 #[.int .u8 a0, .int .u8 a1, .int .u8 a2, .slice s3 z3.length cap3] w fun e w' => e = .returned (.bool true) ∧ Kept w w' := by
  have ba := bounds_u8 w0
  have bb1 := bounds_u8 w1
  have bb2 := bounds_u8 w2
  obtain ⟨n, hn⟩ := Int.eq_ofNat_of_zero_le (show 0 ≤ 2 + a0 % 11 by omega)
  have hn1 : 2 ≤ n := by omega
  have hn12 : n ≤ 12 := by omega
  have hn0 : ¬ (n : Int) = 0 := by omega
  obtain ⟨t, ht⟩ := Int.eq_ofNat_of_zero_le (show 0 ≤ a2 % 6 by omega)
  have ht5 : t ≤ 5 := by omega
  have hT5 : 0 ≤ a2 % 6 ∧ a2 % 6 ≤ 5 := by omega
  have HT : Hid ((t : Int) = a2 % 6) := Lib.hid ht.symm
  obtain ⟨k, hk⟩ := Int.eq_ofNat_of_zero_le (Int.emod_nonneg a1 hn0)
  have hkn : k < n := by have := Int.emod_lt_of_pos a1 (show (0 : Int) < n by omega); omega
  have hkt : a1.tmod (n : Int) = (k : Int) := by rw [Int.tmod_eq_emod_of_nonneg bb1.1, hk]
  have HR := Lib.hid h3.rd
  have hle := h3.le
  have hmost := h3.most
  unfold maxLen at hmost
  have HM := Lib.hid m3
  have HMR := Lib.hid (fun (i : Nat) (h : i < z3.length) => bounds_u8 (HM.out z3[i] (List.getElem_mem h)))
  have HAW := fun w => Lib.hid (awake_any w)
  have HCR := fun w => Lib.hid (crowded_any n (by omega) hn12 w)
  clear h3 w0 w1 w2 m3 HM ht hk
  obtain ⟨M, hM⟩ : ∃ M : Nat, min z3.length 300 = M := ⟨_, rfl⟩
  have hM1 : M ≤ z3.length := by omega
  have hM2 : M ≤ 300 := by omega
  have hif1 : (if (300 : Int) < (z3.length : Int) then (300 : Int) else (z3.length : Int)) = (M : Int) := by split <;> omega
  have hif2 : (if 300 < z3.length then (300 : Int) else (z3.length : Int)) = (M : Int) := by split <;> omega
  have htk := fun w => run_take (P := Try.prog) Try.underlying22 (size := 1) (by kernel_rfl) s3 z3.length cap3 M (by omega) w
  clear hM
  go_enter Try.func4, Try.ntmps4
  go_wp2_with fail
  refine (HCR _).out.mono ?_
  rintro e w1 ⟨xb, bb, g, mb, gb, db, B, s, capn, L, rfl, hs, hC⟩
  have HE0 : Hid (CrE w (fun _ => False) xb bb g mb gb db B n s capn L 0 n (List.replicate n ⟨0, 0, 0⟩) w1) := Lib.hid ⟨_, _, _, hC⟩
  have HS := Lib.hid hs
  have HST := Lib.hid (steps_of w (fun _ => False) xb bb g mb gb db B n s capn L hs (by omega) hn12)
  clear hs hC HCR hn
  go_wp2_with fail
  go_loopw [38] (fun y wr => ∃ (R p C : Nat) (ws : List Wk), y = .int .i64 R ∧ R ≤ 30 * t ∧ Hid (RW t R 0 p ws) ∧ Hid (WB t ws) ∧ Hid (CrE w (fun _ => False) xb bb g mb gb db B n s capn L p C ws wr)) (fun y _ => 30 * t - (intOf y).toNat)
  case atStart => exact ⟨0, 0, n, _, rfl, by omega, Lib.hid (RW.start HE0.out.inv rfl), Lib.hid (fun x hx => by rw [(List.mem_replicate.1 hx).2]; exact ⟨Nat.zero_le _, fun _ => rfl⟩), HE0⟩
  case round =>
    obtain ⟨R, p, C, ws, rfl, hR, HRW, HWB, HE⟩ := hrel
    clear HE0
    by_cases hRt : R < 30 * t
    · as_aux_lemma =>
      have hRt' : (R : Int) < 30 * (a2 % 6) := by have := HT.out; omega
      clear hRt
      go_wp2_with fail
      go_loopw [41] (fun y wr => ∃ (i p C : Nat) (ws : List Wk), y = .int .i64 i ∧ i ≤ n ∧ Hid (RW t R i p ws) ∧ Hid (WB t ws) ∧ Hid (CrE w (fun _ => False) xb bb g mb gb db B n s capn L p C ws wr)) (fun y _ => n - (intOf y).toNat)
      case atStart => exact ⟨0, p, C, ws, rfl, by omega, HRW, HWB, HE⟩
      case round =>
        obtain ⟨ii, p, C, ws, rfl, hi, HRW, HWB, HE⟩ := hrel
        by_cases hin : ii < n
        · as_aux_lemma =>
          have hin' : (ii : Int) < (n : Int) := by omega
          have hin0 : (0 : Int) ≤ (ii : Int) := by omega
          obtain ⟨x, hx⟩ := HE.out.at hin
          have e1 := HE.out.dn hx
          have e3 := HE.out.done
          obtain ⟨a, ha⟩ : ∃ a : Int, ((x.d : Nat) : Int) = a := ⟨_, rfl⟩
          rw [ha] at e1
          have HA := Lib.hid ha
          clear ha
          by_cases hlt : x.d < t
          · have g1 : a < a2 % 6 := by have := HA.out; have := HT.out; omega
            clear hlt
            go_wp2_with fail
            refine (HST.out _ _ _ _ HE.out _ _ hx (by have h1 := HE.out.inv.near x (List.mem_of_getElem? hx); have h2 := (HWB.out x (List.mem_of_getElem? hx)).1; omega)).mono ?_
            rintro e w2 ⟨rfl, z, x', C', p', hd, hE⟩
            have HD := Lib.hid hd
            have HE2 := Lib.hid hE
            have HX : Hid (x ∈ ws ∧ (ws.set ii x')[ii]? = some x') := Lib.hid ⟨List.mem_of_getElem? hx, List.getElem?_set_self (List.getElem?_eq_some_iff.1 hx).1⟩
            clear hE hd
            have hlt : x.d < t := by have := HA.out; have := HT.out; omega
            have HRW2 := Lib.hid (HRW.out.step HE.out.inv (by omega) hx HD.out hlt)
            have HWB2 := Lib.hid (HWB.out.step hx HD.out hlt)
            clear HRW HWB HE e1 e3 hlt
            go_wp2_with fail
            go_roundw
            case rel => exact ⟨ii + 1, p', C', _, by go_num, by omega, HRW2, HWB2, HE2⟩
            case measure => simp [intOf]; omega
          · have g1 : ¬ a < a2 % 6 := by have := HA.out; have := HT.out; omega
            have HRW2 := Lib.hid (HRW.out.skip HE.out.inv hx hlt)
            clear hlt HRW
            go_wp2_with fail
            go_roundw
            case rel => exact ⟨ii + 1, p, C, _, by go_num, by omega, HRW2, HWB, HE⟩
            case measure => simp [intOf]; omega
        · as_aux_lemma =>
          have hin' : ¬ (ii : Int) < (n : Int) := by omega
          obtain rfl : n = ii := by omega
          have HRW2 := Lib.hid (HRW.out.next HE.out.inv (by omega))
          have hR9 : (R : Int) < 30 * t := by have := HT.out; omega
          clear HRW
          go_wp2_with fail
          go_roundw
          case rel => exact ⟨R + 1, p, C, _, by go_num, by omega, HRW2, HWB, HE⟩
          case measure => simp [intOf]; omega
    · as_aux_lemma =>
      have hRt' : ¬ (R : Int) < 30 * (a2 % 6) := by have := HT.out; omega
      have HAwa : Hid (Aw t k p ws) := Lib.hid (Aw.of HE.out.inv (by omega) HWB.out (HRW.out.all (by omega)))
      clear HRW HWB hR hRt
      go_wp2_with fail
      clear htk hif1 hif2 hRt'
      as_aux_lemma =>
        go_loopw [73] (fun y wr => ∃ (q p C : Nat) (ws : List Wk), y = .int .i64 q ∧ q ≤ M ∧ Hid (Aw t k p ws) ∧ Hid (CrE w (fun _ => False) xb bb g mb gb db B n s capn L p C ws wr)) (fun y _ => M - (intOf y).toNat)
        case atStart => exact ⟨0, p, C, ws, rfl, by omega, HAwa, HE⟩
        case round =>
          obtain ⟨q, p, C, ws, rfl, hq, HAwa, HE⟩ := hrel
          by_cases hqM : q < M
          · as_aux_lemma =>
            have hqM' : (q : Int) < (M : Int) := by omega
            have hkz : q < z3.length := by omega
            obtain ⟨b9, off9, e9, c9⟩ := HR.out.at q (by simpa using hkz)
            subst e9
            obtain ⟨v, hv⟩ : ∃ v, z3[q] = v := ⟨_, rfl⟩
            have c9' : wr.cell? ⟨b9, off9 + q, none⟩ = some (.int .u8 v) := by
              have h : w.cell? ⟨b9, off9 + q, none⟩ = some (.int .u8 v) := by rw [c9, ← hv]; simp [hkz]
              exact (keptCells HE.out.kp _ (by rw [h]; rfl)).trans h
            have hv2 := HMR.out q hkz
            rw [hv] at hv2
            clear c9 hv
            obtain ⟨ii, hj⟩ := Int.eq_ofNat_of_zero_le (Int.emod_nonneg v hn0)
            have hin : ii < n := by have := Int.emod_lt_of_pos v (show (0 : Int) < n by omega); omega
            have hin' : (ii : Int) < (n : Int) := by omega
            have hin0 : (0 : Int) ≤ (ii : Int) := by omega
            have htm : v.tmod (n : Int) = (ii : Int) := by rw [Int.tmod_eq_emod_of_nonneg hv2.1, hj]
            clear hj
            obtain ⟨x, hx⟩ := HE.out.at hin
            have e1 := HE.out.dn hx
            have e3 := HE.out.done
            obtain ⟨a, ha⟩ : ∃ a : Int, ((x.d : Nat) : Int) = a := ⟨_, rfl⟩
            rw [ha] at e1
            have HA := Lib.hid ha
            clear ha
            by_cases hik : ii = k
            · have g1 : ((ii : Int) != (k : Int)) = false := by subst hik; simp
              clear hik
              go_wp2_with fail
              go_roundw
              case rel => exact ⟨q + 1, p, C, ws, by go_num, by omega, HAwa, HE⟩
              case measure => simp [intOf]; omega
            · have g1 : ((ii : Int) != (k : Int)) = true := by simp; omega
              have HIK := Lib.hid hik
              clear hik
              go_wp2_with fail
              refine (HST.out _ _ _ _ HE.out _ _ hx (by have h1 := HE.out.inv.near x (List.mem_of_getElem? hx); have h2 := HAwa.out.2.1 x (List.mem_of_getElem? hx); omega)).mono ?_
              rintro e w2 ⟨rfl, z, x', C', p', hd, hE⟩
              have HD := Lib.hid hd
              have HE2 := Lib.hid hE
              have HX : Hid (x ∈ ws ∧ (ws.set ii x')[ii]? = some x') := Lib.hid ⟨List.mem_of_getElem? hx, List.getElem?_set_self (List.getElem?_eq_some_iff.1 hx).1⟩
              clear hE hd
              have h9 := HAwa.out.step HE.out.inv HE2.out.inv hkn HIK.out hx HD.out
              have HAw2 := Lib.hid h9.1
              have f1 := HE2.out.dn HX.out.2
              rw [h9.2.2.1, HA.out] at f1
              have f3 := HE2.out.done
              clear h9 HAwa HE e1 e3 c9' htm
              go_wp2_with fail
              go_roundw
              case rel => exact ⟨q + 1, p', C', _, by go_num, by omega, HAw2, HE2⟩
              case measure => simp [intOf]; omega
          · as_aux_lemma =>
            have hqM' : ¬ (q : Int) < (M : Int) := by omega
            have HCM : Hid (Cm t k 0 0 p ws) := Lib.hid (Cm.start HAwa.out (fun _ _ => trivial))
            clear HAwa hq hqM HR HMR hle hmost hM1 hM2
            go_wp2_with fail
            clear hqM'
            as_aux_lemma =>
              go_loopw [110] (fun y wr => ∃ (i p C : Nat) (ws : List Wk), y = .int .i64 i ∧ i ≤ n ∧ Hid (Cm t k i 0 p ws) ∧ Hid (CrE w (fun _ => False) xb bb g mb gb db B n s capn L p C ws wr)) (fun y _ => n - (intOf y).toNat)
              case atStart => exact ⟨0, p, C, ws, rfl, by omega, HCM, HE⟩
              case round =>
                obtain ⟨ii, p, C, ws, rfl, hi, HCM, HE⟩ := hrel
                by_cases hin : ii < n
                · as_aux_lemma =>
                  have hin' : (ii : Int) < (n : Int) := by omega
                  go_wp2_with fail
                  go_loopw [113] (fun y wr => ∃ (q p C : Nat) (ws : List Wk), y = .int .i64 q ∧ q ≤ 2 ∧ Hid (Cm t k ii q p ws) ∧ Hid (CrE w (fun _ => False) xb bb g mb gb db B n s capn L p C ws wr)) (fun y _ => 2 - (intOf y).toNat)
                  case atStart => exact ⟨0, p, C, ws, rfl, by omega, HCM, HE⟩
                  case round =>
                    obtain ⟨q, p, C, ws, rfl, hq, HCM, HE⟩ := hrel
                    by_cases hq2 : q < 2
                    · as_aux_lemma =>
                      have hq2' : (q : Int) < 2 := by omega
                      obtain ⟨x, hx⟩ := HE.out.at hin
                      by_cases hik : ii = k
                      · have g1 : ((ii : Int) != (k : Int)) = false := by subst hik; simp
                        have HCM2 : Hid (Cm t k ii (q + 1) p ws) := Lib.hid (by have h := HCM.out; subst hik; exact h.skip)
                        clear hik HCM
                        go_wp2_with fail
                        go_roundw
                        case rel => exact ⟨q + 1, p, C, ws, by go_num, by omega, HCM2, HE⟩
                        case measure => simp [intOf]; omega
                      · have g1 : ((ii : Int) != (k : Int)) = true := by simp; omega
                        have HIK := Lib.hid hik
                        clear hik
                        go_wp2_with fail
                        refine (HST.out _ _ _ _ HE.out _ _ hx (by have h1 := HE.out.inv.near x (List.mem_of_getElem? hx); have h2 := HCM.out.1.2.1 x (List.mem_of_getElem? hx); omega)).mono ?_
                        rintro e w2 ⟨rfl, z, x', C', p', hd, hE⟩
                        have HD := Lib.hid hd
                        have HE2 := Lib.hid hE
                        have HX : Hid (x ∈ ws ∧ (ws.set ii x')[ii]? = some x') := Lib.hid ⟨List.mem_of_getElem? hx, List.getElem?_set_self (List.getElem?_eq_some_iff.1 hx).1⟩
                        clear hE hd
                        have HCM2 := Lib.hid (HCM.out.step HE.out.inv HE2.out.inv hkn HIK.out hq2 hx HD.out)
                        clear HCM HE
                        go_wp2_with fail
                        go_roundw
                        case rel => exact ⟨q + 1, p', C', _, by go_num, by omega, HCM2, HE2⟩
                        case measure => simp [intOf]; omega
                    · as_aux_lemma =>
                      have hq2' : ¬ (q : Int) < 2 := by omega
                      obtain rfl : q = 2 := by omega
                      have HCM2 := Lib.hid HCM.out.next
                      clear HCM
                      go_wp2_with fail
                      go_roundw
                      case rel => exact ⟨ii + 1, p, C, _, by go_num, by omega, HCM2, HE⟩
                      case measure => simp [intOf]; omega
                · as_aux_lemma =>
                  have hin' : ¬ (ii : Int) < (n : Int) := by omega
                  obtain rfl : n = ii := by omega
                  have HKK := Lib.hid (Kk.start HE.out.inv HCM.out)
                  clear HCM hi hin
                  go_wp2_with fail
                  clear hin'
                  as_aux_lemma =>
                    go_loopw [126] (fun y wr => ∃ (i p C : Nat) (ws : List Wk), y = .int .i64 i ∧ i ≤ 4 ∧ Hid (Kk t k i p ws) ∧ Hid (CrE w (fun _ => False) xb bb g mb gb db B n s capn L p C ws wr)) (fun y _ => 4 - (intOf y).toNat)
                    case atStart => exact ⟨0, p, C, ws, rfl, by omega, HKK, HE⟩
                    case round =>
                      obtain ⟨jj, p, C, ws, rfl, hi, HKK, HE⟩ := hrel
                      by_cases hin : jj < 4
                      · as_aux_lemma =>
                        have hin' : (jj : Int) < 4 := by omega
                        obtain ⟨x, hx⟩ := HE.out.at hkn
                        have hkn' : (k : Int) < (n : Int) := by omega
                        have hkn0 : (0 : Int) ≤ (k : Int) := by omega
                        have e1 := HE.out.dn hx
                        have e3 := HE.out.done
                        obtain ⟨a, ha⟩ : ∃ a : Int, ((x.d : Nat) : Int) = a := ⟨_, rfl⟩
                        rw [ha] at e1
                        have HA := Lib.hid ha
                        clear ha
                        go_wp2_with fail
                        refine (HST.out _ _ _ _ HE.out _ _ hx (by have h1 := HE.out.inv.near x (List.mem_of_getElem? hx); have h2 := ((HKK.out.2 x hx).1 hin).2.1; omega)).mono ?_
                        rintro e w2 ⟨rfl, z, x', C', p', hd, hE⟩
                        have HD := Lib.hid hd
                        have HE2 := Lib.hid hE
                        have HX : Hid (x ∈ ws ∧ (ws.set k x')[k]? = some x') := Lib.hid ⟨List.mem_of_getElem? hx, List.getElem?_set_self (List.getElem?_eq_some_iff.1 hx).1⟩
                        clear hE hd
                        have h9 := HKK.out.step HE2.out.inv hin hx HD.out
                        have HK2 := Lib.hid h9.1
                        have HAT : Hid (a = t) := Lib.hid (by rw [← HA.out, h9.2.1])
                        have f1 := HE2.out.dn HX.out.2
                        obtain ⟨b, hb⟩ : ∃ b : Int, ((x'.d : Nat) : Int) = b := ⟨_, rfl⟩
                        rw [hb] at f1
                        have HBT : Hid (b = if jj = 3 then (t : Int) + 1 else t) := Lib.hid (by rw [← hb, h9.2.2]; split <;> simp)
                        have f3 := HE2.out.done
                        clear h9 HKK HE e1 e3 hb HA HD HX
                        by_cases hj3 : jj = 3
                        · have g1 : a < b := by have h1 := HBT.out; have h2 := HAT.out; rw [if_pos hj3] at h1; omega
                          have g2 : ((jj : Int) == 3) = true := by subst hj3; rfl
                          clear HBT HAT hj3
                          go_wp2_with fail
                          go_roundw
                          case rel => exact ⟨jj + 1, p', C', _, by go_num, by omega, HK2, HE2⟩
                          case measure => simp [intOf]; omega
                        · have g1 : ¬ a < b := by have h1 := HBT.out; have h2 := HAT.out; rw [if_neg hj3] at h1; omega
                          have g2 : ((jj : Int) == 3) = false := by simp; omega
                          clear HBT HAT hj3
                          go_wp2_with fail
                          go_roundw
                          case rel => exact ⟨jj + 1, p', C', _, by go_num, by omega, HK2, HE2⟩
                          case measure => simp [intOf]; omega
                      · as_aux_lemma =>
                        have hin' : ¬ (jj : Int) < 4 := by omega
                        obtain rfl : jj = 4 := by omega
                        have HPP : Hid (Pp t k 0 p ws) := Lib.hid (Pp.start HKK.out (by rw [HE.out.inv.len]; exact hkn))
                        clear HKK hi hin
                        go_wp2_with fail
                        clear hin'
                        as_aux_lemma =>
                          go_loopw [156] (fun y wr => ∃ (i p C : Nat) (ws : List Wk), y = .int .i64 i ∧ i ≤ n ∧ Hid (Pp t k i p ws) ∧ Hid (CrE w (fun _ => False) xb bb g mb gb db B n s capn L p C ws wr)) (fun y _ => n - (intOf y).toNat)
                          case atStart => exact ⟨0, p, C, ws, rfl, by omega, HPP, HE⟩
                          case round =>
                            obtain ⟨ii, p, C, ws, rfl, hi, HPP, HE⟩ := hrel
                            by_cases hin : ii < n
                            · as_aux_lemma =>
                              have hin' : (ii : Int) < (n : Int) := by omega
                              have hin0 : (0 : Int) ≤ (ii : Int) := by omega
                              obtain ⟨x, hx⟩ := HE.out.at hin
                              have e1 := HE.out.dn hx
                              have e3 := HE.out.done
                              obtain ⟨a, ha⟩ : ∃ a : Int, ((x.d : Nat) : Int) = a := ⟨_, rfl⟩
                              rw [ha] at e1
                              have HA := Lib.hid ha
                              clear ha
                              by_cases hik : ii = k
                              · have g1 : ((ii : Int) != (k : Int)) = false := by subst hik; simp
                                have HPP2 : Hid (Pp t k (ii + 1) p ws) := Lib.hid (by have h := HPP.out; subst hik; exact h.skip)
                                clear hik HPP
                                go_wp2_with fail
                                go_roundw
                                case rel => exact ⟨ii + 1, p, C, ws, by go_num, by omega, HPP2, HE⟩
                                case measure => simp [intOf]; omega
                              · have g1 : ((ii : Int) != (k : Int)) = true := by simp; omega
                                have HIK := Lib.hid hik
                                have HPD := Lib.hid ((HPP.out.2 ii x hx).2 hik (Nat.le_refl _)).1
                                clear hik
                                go_wp2_with fail
                                refine (HST.out _ _ _ _ HE.out _ _ hx (by have h1 := HE.out.inv.near x (List.mem_of_getElem? hx); have h2 := HPD.out; omega)).mono ?_
                                rintro e w2 ⟨rfl, z, x', C', p', hd, hE⟩
                                have HD := Lib.hid hd
                                have HE2 := Lib.hid hE
                                have HX : Hid (x ∈ ws ∧ (ws.set ii x')[ii]? = some x') := Lib.hid ⟨List.mem_of_getElem? hx, List.getElem?_set_self (List.getElem?_eq_some_iff.1 hx).1⟩
                                clear hE hd
                                have h9 := HPP.out.step HIK.out hx HD.out
                                have HPP2 := Lib.hid h9.1
                                have f1 := HE2.out.dn HX.out.2
                                obtain ⟨b, hb⟩ : ∃ b : Int, ((x'.d : Nat) : Int) = b := ⟨_, rfl⟩
                                rw [hb] at f1
                                have hab : b = a + 1 ∧ 0 ≤ a ∧ a ≤ 100 := by have h1 := HA.out; have h2 := ht5; omega
                                obtain ⟨rfl, ha0, ha1⟩ := hab
                                have f3 := HE2.out.done
                                clear h9 HPP HE e1 e3 hb HA HD HX HPD
                                go_wp2_with fail
                                go_roundw
                                case rel => exact ⟨ii + 1, p', C', _, by go_num, by omega, HPP2, HE2⟩
                                case measure => simp [intOf]; omega
                            · as_aux_lemma =>
                              have hin' : ¬ (ii : Int) < (n : Int) := by omega
                              obtain rfl : n = ii := by omega
                              obtain rfl := (Pp.count HE.out.inv HPP.out).symm
                              have hB := HE.out.bk
                              have e1 := hB.1
                              have e2 := hB.2.1
                              have hld := fun w' (hk : Kept wr w') => (load_9 (hB.2.2.1.kept hk) (by rw [hB.2.2.2]; have := HS.out; omega)).mono (R' := fun e w'' => e = .returned (.int .i64 _) ∧ Kept w' w'') (by rintro e w'' ⟨rfl, rfl⟩; exact ⟨rfl, Upd.refl _ _⟩)
                              have HLD := Lib.hid hld
                              clear hB hld HPP hi hin HST HS
                              go_upto_region 46 with (fail)
                              refine wp_region_kept (by kernel_rfl) (by kernel_rfl) ?_
                              repeat (go_big_quiet_step ((first | (go_at_call 10; exact kept_call (HLD.out _ (kept_ext _ _))) | (go_at_call 9; exact kept_call ((HAW _).out)))))
                              refine wpQuiet_nil ?_
                              intro w3 hk3
                              go_wp2_with fail
                              go_ret
                              exact ⟨rfl, HE.out.kp.trans hk3⟩
end Go.Proofs.Ytghlpapljjcaeaa
