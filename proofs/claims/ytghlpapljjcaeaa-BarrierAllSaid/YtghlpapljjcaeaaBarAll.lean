/- The law BarrierAll (printed by gen_barall.py). -/
import Derived.Test.YtghlpapljjcaeaaCrowdLaw
import Derived.Test.YtghlpapljjcaeaaAwake14
import Derived.Test.YtghlpapljjcaeaaRowsRd
import Derived.Test.YtghlpapljjcaeaaCopyRow
import Derived.Deep.CutRange
namespace Go.Proofs.Ytghlpapljjcaeaa
set_option linter.unusedVariables false
open Go.RowKit
attribute [local go_sem] cell?_ext

set_option maxRecDepth 100000 in
set_option maxHeartbeats 8000000 in
theorem barrierAll_walk (a0 : Int) (s1 : Option Addr) (cap1 : Nat) (z1 : List Int) (w : World) (w0 : (Lit.int .u8 a0).wf = true) (h1 : IntRow .u8 w s1 cap1 z1) (m1 : ∀ n ∈ z1, (Lit.int .u8 n).wf = true) :
    Calls Try.prog 3 #[.int .u8 a0, .slice s1 z1.length cap1] w fun e w' => e = .returned (.bool true) ∧ Kept w w' := by
  have ba := bounds_u8 w0
  obtain ⟨n, hn⟩ := Int.eq_ofNat_of_zero_le (show 0 ≤ 1 + a0 % 12 by omega)
  have hn1 : 1 ≤ n := by omega
  have hn12 : n ≤ 12 := by omega
  have HR := Lib.hid h1.rd
  have hle := h1.le
  have hmost := h1.most
  unfold maxLen at hmost
  have HM := Lib.hid m1
  have HAW := fun w => Lib.hid (awake_any w)
  have HCR := fun w => Lib.hid (crowded_any n hn1 hn12 w)
  clear h1 w0 m1
  go_enter Try.func3, Try.ntmps3
  go_wp2_with fail
  refine (HCR _).out.mono ?_
  rintro e w1 ⟨xb, bb, g, mb, gb, db, B, s, capn, L, rfl, hs, hC⟩
  have HE0 : Hid (CrE w (fun _ => False) xb bb g mb gb db B n s capn L 0 n (List.replicate n ⟨0, 0, 0⟩) w1) := Lib.hid ⟨_, _, _, hC⟩
  have HS := Lib.hid hs
  have HST := Lib.hid (steps_of w (fun _ => False) xb bb g mb gb db B n s capn L hs hn1 hn12)
  clear hs hC HCR
  obtain ⟨M, hM⟩ : ∃ M : Nat, min z1.length 600 = M := ⟨_, rfl⟩
  have hM1 : M ≤ z1.length := by omega
  have hM2 : M ≤ 600 := by omega
  have hif1 : (if (600 : Int) < (z1.length : Int) then (600 : Int) else (z1.length : Int)) = (M : Int) := by split <;> omega
  have hif2 : (if 600 < z1.length then (600 : Int) else (z1.length : Int)) = (M : Int) := by split <;> omega
  have htk := fun w => run_take (P := Try.prog) Try.underlying22 (size := 1) (by kernel_rfl) s1 z1.length cap1 M (by omega) w
  clear hn
  have HMR := Lib.hid (fun (i : Nat) (h : i < z1.length) => bounds_u8 (HM.out z1[i] (List.getElem_mem h)))
  clear HM
  go_wp2_with fail
  clear htk hif1 hif2
  have hn0 : ¬ (n : Int) = 0 := by omega
  go_loopw [36] (fun x wr => ∃ (k p C : Nat) (ws : List Wk), x = .int .i64 k ∧ k ≤ M ∧ p ≤ k ∧ Hid (CrE w (fun _ => False) xb bb g mb gb db B n s capn L p C ws wr)) (fun x _ => M - (intOf x).toNat)
  case atStart => exact ⟨0, 0, n, _, rfl, by omega, by omega, HE0⟩
  case round =>
    obtain ⟨k, p, C, ws, rfl, hk, hp, HE⟩ := hrel
    clear HE0
    by_cases hlt : k < M
    · as_aux_lemma =>
      have hlt' : (k : Int) < (M : Int) := by omega
      have hkz : k < z1.length := by omega
      obtain ⟨b9, off9, e9, c9⟩ := HR.out.at k (by simpa using hkz)
      subst e9
      obtain ⟨v, hv⟩ : ∃ v, z1[k] = v := ⟨_, rfl⟩
      have c9' : wr.cell? ⟨b9, off9 + k, none⟩ = some (.int .u8 v) := by
        have h : w.cell? ⟨b9, off9 + k, none⟩ = some (.int .u8 v) := by rw [c9, ← hv]; simp [hkz]
        exact (keptCells HE.out.kp _ (by rw [h]; rfl)).trans h
      have hv2 := HMR.out k hkz
      rw [hv] at hv2
      clear c9 hv
      obtain ⟨j, hj⟩ := Int.eq_ofNat_of_zero_le (Int.emod_nonneg v hn0)
      have hjn : j < n := by have := Int.emod_lt_of_pos v (show (0 : Int) < n by omega); omega
      have htm : v.tmod (n : Int) = (j : Int) := by rw [Int.tmod_eq_emod_of_nonneg hv2.1, hj]
      clear hj
      obtain ⟨x, hx⟩ := HE.out.at hjn
      go_wp2_with fail
      refine (HST.out _ _ _ _ HE.out _ _ hx (by omega)).mono ?_
      rintro e w2 ⟨rfl, z, x', C', p', hd, hE⟩
      have HE2 := Lib.hid hE
      have hp' : p' ≤ k + 1 := by rcases hd with ⟨-, h, -⟩ | ⟨-, -, -, h⟩ <;> omega
      have HX : Hid ((ws.set j x')[j]? = some x') := Lib.hid (List.getElem?_set_self (List.getElem?_eq_some_iff.1 hx).1)
      clear hE hd c9' HE
      generalize ws.set j x' = ws2 at HE2 HX
      go_wp2_with fail
      go_loopw [48] (fun y wr => ∃ i : Nat, y = .int .i64 i ∧ i ≤ n ∧ Hid (CrE w (fun _ => False) xb bb g mb gb db B n s capn L p' C' ws2 wr)) (fun y _ => n - (intOf y).toNat)
      case atStart => exact ⟨0, rfl, by omega, HE2⟩
      case round =>
        obtain ⟨i, rfl, hi, HE3⟩ := hrel
        clear HE2
        by_cases hin : i < n
        · as_aux_lemma =>
          have hin' : (i : Int) < (n : Int) := by omega
          have hin0 : (0 : Int) ≤ (i : Int) := by omega
          have hjn' : (j : Int) < (n : Int) := by omega
          have hjn0 : (0 : Int) ≤ (j : Int) := by omega
          obtain ⟨y, hy⟩ := HE3.out.at hin
          have e1 := HE3.out.dn hy
          have e2 := HE3.out.dn HX.out
          have e3 := HE3.out.done
          have m1 := HE3.out.inv.near y (HE3.out.inv.mem hy)
          have m2 := HE3.out.inv.near x' (HE3.out.inv.mem HX.out)
          obtain ⟨a, ha⟩ : ∃ a : Int, ((y.d : Nat) : Int) = a := ⟨_, rfl⟩
          obtain ⟨b, hb⟩ : ∃ b : Int, ((x'.d : Nat) : Int) = b := ⟨_, rfl⟩
          rw [ha] at e1
          rw [hb] at e2
          have g1 : decide (b + 1 < a) = false := decide_eq_false (by omega)
          have g2 : decide (a + 1 < b) = false := decide_eq_false (by omega)
          have g3 : 0 ≤ a ∧ a ≤ 1000 ∧ 0 ≤ b ∧ b ≤ 1000 := by omega
          clear m1 m2 ha hb hy
          go_upto_region 13 with (fail)
          refine wp_region_kept (by kernel_rfl) (by kernel_rfl) ?_
          repeat (go_big_quiet_step (fail))
          refine wpQuiet_nil ?_
          intro w3 hk3
          have HE4 := Lib.hid (HE3.out.kept hk3)
          clear hk3 HE3 e1 e2 e3
          go_wp2_with fail
          go_roundw
          case rel => exact ⟨i + 1, by go_num, by omega, HE4⟩
          case measure => simp [intOf]; omega
        · as_aux_lemma =>
          have hin' : ¬ (i : Int) < (n : Int) := by omega
          go_wp2_with fail
          go_roundw
          case rel => exact ⟨k + 1, p', C', ws2, by go_num, by omega, hp', HE3⟩
          case measure => simp [intOf]; omega
    · as_aux_lemma =>
      have hlt' : ¬ (k : Int) < (M : Int) := by omega
      have hp6 : p ≤ 600 := by omega
      clear HMR HR hk hlt hM hle hmost hM1 hM2 hp
      have e3 := HE.out.done
      have hRD : Rd wr (some ⟨db, 0, none⟩) (dv ws) := HE.out.rdn
      have hRL : (dv ws).length = n := by rw [dv_len, HE.out.inv.len]
      have hR1 := dv_one ws
      have hsoo : SomeOr (some ⟨db, 0, none⟩) n n := .inl ⟨_, rfl⟩
      have hdl := HE.out.lts.1
      have hxl := HE.out.lts.2
      obtain ⟨i0, hi0, hz0, hz1, hz2⟩ := info_parts infoInt
      go_upto_region 18 with (first | (at_builtin; refine wpList_copied rfl _ _ 31 rfl 3 i0 (.int .i64 0) 8 Try.underlying31 hi0 hz0 hz1 hz2 rfl (by decide) (some ⟨db, 0, none⟩) n n _ rfl rfl hRD hRL hsoo hR1 (by omega) ?_; intro ua uc w3 hown hk3; clear hi0 hz0 hz1 hz2 hR1 hsoo hRD) | fail)
      obtain ⟨SX, hE5, hs1, hs2⟩ := HE.out.rebase hk3
      have HE5 := Lib.hid hE5
      have HSX := Lib.hid (And.intro hs1 hs2)
      have HKP : Hid (Kept w w3) := Lib.hid (HE.out.kp.trans hk3)
      have HUA := Lib.hid (row_rd hown)
      have HUB := Lib.hid (row_bet hown)
      have HW : Hid (∀ y ∈ ws, y.d ≤ p) := Lib.hid (fun y hy => (HE.out.inv.near y hy).1)
      have HWL : Hid (ws.length = n) := Lib.hid HE.out.inv.len
      have HRN : Hid (Rnd p 0 0 p ws) := Lib.hid (Rnd.start HE.out.inv)
      have HST2 := Lib.hid (steps_of w3 SX xb bb g mb gb db B n s capn L HS.out hn1 hn12)
      clear HE hdl hxl e3 hk3 hown hRL hE5 hs1 hs2 HST hlt'
      as_aux_lemma =>
        go_wp2_with fail
        go_loopw [99] (fun x wr => ∃ (r p1 C1 : Nat) (ws1 : List Wk), x = .int .i64 r ∧ r ≤ 10 ∧ p1 ≤ 600 + 12 * r ∧ Hid (Rnd p r 0 p1 ws1) ∧ Hid (CrE w3 SX xb bb g mb gb db B n s capn L p1 C1 ws1 wr)) (fun x _ => 10 - (intOf x).toNat)
        case atStart => exact ⟨0, p, C, ws, rfl, by omega, by omega, HRN, HE5⟩
        case round =>
          obtain ⟨r, p1, C1, ws1, rfl, hr, hp1, HRN1, HE6⟩ := hrel
          clear HRN HE5
          by_cases hrt : r < 10
          · as_aux_lemma =>
            have hrt' : (r : Int) < 10 := by omega
            go_wp2_with fail
            go_loopw [102] (fun x wr => ∃ (i p1 C1 : Nat) (ws1 : List Wk), x = .int .i64 i ∧ i ≤ n ∧ p1 ≤ 600 + 12 * r + i ∧ Hid (Rnd p r i p1 ws1) ∧ Hid (CrE w3 SX xb bb g mb gb db B n s capn L p1 C1 ws1 wr)) (fun x _ => n - (intOf x).toNat)
            case atStart => exact ⟨0, p1, C1, ws1, rfl, by omega, by omega, HRN1, HE6⟩
            case round =>
              obtain ⟨i, p2, C2, ws2, rfl, hi, hp2, HRN2, HE7⟩ := hrel
              clear HRN1 HE6
              by_cases hin : i < n
              · as_aux_lemma =>
                have hin' : (i : Int) < (n : Int) := by omega
                obtain ⟨x, hx⟩ := HE7.out.at hin
                go_wp2_with fail
                refine (HST2.out _ _ _ _ HE7.out _ _ hx (by omega)).mono ?_
                rintro e w5 ⟨rfl, z, x', C3, p3, hd, hE⟩
                have HE8 := Lib.hid hE
                have HRN3 := Lib.hid (HRN2.out.step HE7.out.inv (by omega) hx hd)
                have hp3 : p3 ≤ 600 + 12 * r + (i + 1) := by rcases hd with ⟨-, h, -⟩ | ⟨-, -, -, h⟩ <;> omega
                clear hE hd HE7 HRN2
                go_wp2_with fail
                go_roundw
                case rel => exact ⟨i + 1, p3, C3, _, by go_num, by omega, hp3, HRN3, HE8⟩
                case measure => simp [intOf]; omega
              · as_aux_lemma =>
                have hin' : ¬ (i : Int) < (n : Int) := by omega
                obtain rfl : i = n := by omega
                have HRN3 := Lib.hid (HRN2.out.next HE7.out.inv)
                go_wp2_with fail
                go_roundw
                case rel => exact ⟨r + 1, p2, C2, _, by go_num, by omega, by omega, HRN3, HE7⟩
                case measure => simp [intOf]; omega
          · as_aux_lemma =>
            have hrt' : ¬ (r : Int) < 10 := by omega
            have HALL := Lib.hid (HRN1.out.more (by omega))
            have hp9 : p1 ≤ 1000 := by omega
            clear HRN1 HST2 hrt hr hp1
            go_wp2_with fail
            go_loopw [112] (fun x wr => ∃ i : Nat, x = .int .i64 i ∧ i ≤ n ∧ Hid (CrE w3 SX xb bb g mb gb db B n s capn L p1 C1 ws1 wr)) (fun x _ => n - (intOf x).toNat)
            case atStart => exact ⟨0, rfl, by omega, HE6⟩
            case round =>
              obtain ⟨i, rfl, hi, HE7⟩ := hrel
              clear HE6 hrt'
              by_cases hin : i < n
              · as_aux_lemma =>
                have hin' : (i : Int) < (n : Int) := by omega
                have hin0 : (0 : Int) ≤ (i : Int) := by omega
                have HR9 := Lib.hid (rd_upd HUA.out HE7.out.kp (fun x e h => by have h1 := HUB.out x e; have h2 := HSX.out.2 _ h; omega))
                obtain ⟨x, hx⟩ := HE7.out.at hin
                obtain ⟨y, hy⟩ : ∃ y, ws[i]? = some y := ⟨ws[i]'(by have := HWL.out; omega), List.getElem?_eq_getElem _⟩
                have e1 := HE7.out.dn hx
                have e3 := HE7.out.done
                obtain ⟨b9, off9, e9, e2⟩ := HR9.out.at i (by rw [dv_len, HWL.out]; exact hin)
                rw [dv_at hy] at e2
                subst e9
                have m1 := HALL.out x (List.mem_of_getElem? hx)
                have m2 := HW.out y (List.mem_of_getElem? hy)
                have m3 := (HE7.out.inv.near x (List.mem_of_getElem? hx)).1
                obtain ⟨a, ha⟩ : ∃ a : Int, ((x.d : Nat) : Int) = a := ⟨_, rfl⟩
                obtain ⟨b, hb⟩ : ∃ b : Int, ((y.d : Nat) : Int) = b := ⟨_, rfl⟩
                rw [ha] at e1
                rw [hb] at e2
                have g1 : decide (a ≤ b) = false := decide_eq_false (by omega)
                have g3 : 0 ≤ a ∧ a ≤ 1000 ∧ 0 ≤ b ∧ b ≤ 1000 := by omega
                clear m1 m2 m3 ha hb hy hx
                go_upto_region 30 with (fail)
                refine wp_region_kept (by kernel_rfl) (by kernel_rfl) ?_
                repeat (go_big_quiet_step (fail))
                refine wpQuiet_nil ?_
                intro w5 hk3
                have HE8 := Lib.hid (HE7.out.kept hk3)
                clear hk3 HE7 e1 e2 e3
                go_wp2_with fail
                go_roundw
                case rel => exact ⟨i + 1, by go_num, by omega, HE8⟩
                case measure => simp [intOf]; omega
              · as_aux_lemma =>
                have hin' : ¬ (i : Int) < (n : Int) := by omega
                have hn0' : (0 : Int) < (n : Int) := by omega
                clear HUA HUB HALL HW HWL hi hin
                obtain ⟨x, hx⟩ := HE7.out.at (show 0 < n by omega)
                have e1 := HE7.out.dn hx
                have e3 := HE7.out.done
                obtain ⟨a, ha⟩ : ∃ a : Int, ((x.d : Nat) : Int) = a := ⟨_, rfl⟩
                rw [ha] at e1
                clear ha hx
                go_wp2_with fail
                clear e1 e3
                go_loopw [14, 139] (fun y x wr => ∃ (i : Nat) (v : Int), x = .int .i64 i ∧ y = .int .i64 v ∧ i ≤ n ∧ Hid (CrE w3 SX xb bb g mb gb db B n s capn L p1 C1 ws1 wr)) (fun _ x _ => n - (intOf x).toNat)
                case atStart => exact ⟨0, a, rfl, rfl, by omega, HE7⟩
                case round =>
                  obtain ⟨i, v, rfl, rfl, hi, HE8⟩ := hrel
                  clear HE7 hin'
                  by_cases hin : i < n
                  · as_aux_lemma =>
                    have hin' : (i : Int) < (n : Int) := by omega
                    obtain ⟨x, hx⟩ := HE8.out.at hin
                    have e1 := HE8.out.dn hx
                    obtain ⟨a, ha⟩ : ∃ a : Int, ((x.d : Nat) : Int) = a := ⟨_, rfl⟩
                    rw [ha] at e1
                    clear ha hx
                    go_wp2_with fail
                    go_roundw
                    case rel => exact ⟨i + 1, _, by go_num, rfl, by omega, HE8⟩
                    case measure => simp [intOf]; omega
                  · as_aux_lemma =>
                    have hin' : ¬ (i : Int) < (n : Int) := by omega
                    obtain ⟨la, lc, e4, hrl⟩ := HE8.out.lasts
                    have HRL := Lib.hid hrl
                    clear hrl hi hin
                    obtain ⟨wo, hwo⟩ : ∃ wo, wo = wr := ⟨_, rfl⟩
                    have HKO : Hid (Kept wo wr) := Lib.hid (by rw [hwo]; exact Upd.refl _ _)
                    rw [← hwo] at HRL
                    clear hwo
                    go_wp2_with fail
                    go_loopw [152] (fun x wr => ∃ i : Nat, x = .int .i64 i ∧ i ≤ p1 ∧ Hid (Kept wo wr) ∧ Hid (CrE w3 SX xb bb g mb gb db B n s capn L p1 C1 ws1 wr)) (fun x _ => p1 - (intOf x).toNat)
                    case atStart => exact ⟨0, rfl, by omega, HKO, HE8⟩
                    case round =>
                      obtain ⟨i, rfl, hi, HKO1, HE9⟩ := hrel
                      clear HE8 HKO e4 hin'
                      by_cases hip : i < p1
                      · as_aux_lemma =>
                        have hip' : (i : Int) < (p1 : Int) := by omega
                        obtain ⟨b9, off9, e9, c9⟩ := (HRL.out.kept HKO1.out).at i (by simpa using hip)
                        have c8 : wr.cell? ⟨b9, off9 + i, none⟩ = some (.int .i64 1) := by rw [c9]; simp [hip]
                        subst e9
                        clear c9
                        by_cases hv : (i : Int) < v
                        · go_wp2_with fail
                          go_roundw
                          case rel => exact ⟨i + 1, by go_num, by omega, HKO1, HE9⟩
                          case measure => simp [intOf]; omega
                        · go_wp2_with fail
                          go_roundw
                          case rel => exact ⟨i + 1, by go_num, by omega, HKO1, HE9⟩
                          case measure => simp [intOf]; omega
                      · as_aux_lemma =>
                        have hip' : ¬ (i : Int) < (p1 : Int) := by omega
                        go_wp2_with fail
                        refine (HAW _).out.mono ?_
                        rintro e w9 ⟨rfl, hk⟩
                        go_wp2
                        go_ret
                        exact ⟨rfl, (HKP.out.then HE9.out.kp (fun i hi h => by rcases HSX.out.1 i h with f | f; exact f; omega)).trans hk⟩
end Go.Proofs.Ytghlpapljjcaeaa
