/- The law CountOrder. -/
import Derived.Test.YtccjgbmbggbmgaaCountState
import Derived.Test.YtccjgbmbggbmgaaRd
namespace Go.Proofs.Ytccjgbmbggbmgaa
set_option linter.unusedVariables false
open Go.RowKit

theorem BoolRow.rd {w : World} {a : Option Addr} {cap : Nat} {zs : List Bool} (h : BoolRow w a cap zs) : Rd w a (zs.map Value.bool) := by
  rcases h.cells with h0 | ⟨b, off, rfl, hc⟩
  · exact .inl (by rw [List.eq_nil_of_length_eq_zero h0]; rfl)
  · refine .inr ⟨b, off, rfl, fun i u hu => ?_⟩
    rw [List.getElem?_map] at hu
    obtain ⟨x, hx, rfl⟩ := Option.map_eq_some_iff.1 hu
    obtain ⟨hi, rfl⟩ := List.getElem?_eq_some_iff.1 hx
    exact hc i hi

set_option maxRecDepth 100000 in
set_option maxHeartbeats 8000000 in
theorem countOrder_core (a0 : Int) (a : Option Addr) (cap : Nat) (zs : List Bool) (w : World) (w0 : 0 ≤ a0 ∧ a0 ≤ 255) (hr : Rd w a (zs.map Value.bool)) (hlen : zs.length ≤ cap) (hmost : cap ≤ maxLen) :
    Calls Try.prog 5 #[.int .u8 a0, .slice a zs.length cap] w fun e w' => e = .returned (.bool true) ∧ Kept w w' := by
  have HP := fun w => Lib.hid (bank_any w)
  obtain ⟨N, hN⟩ := Int.eq_ofNat_of_zero_le (show 0 ≤ 1 + a0 % 60 by omega)
  have hN1 : 1 ≤ N := by omega
  have hN2 : N ≤ 60 := by omega
  have HR := Lib.hid hr
  unfold maxLen at hmost
  clear hr
  go_enter Try.func5, Try.ntmps5
  go_wp2_with fail
  refine (HP _).out.mono ?_
  rintro e w1 ⟨bb, g, rfl, hB, hbb, hg, hk⟩
  have S0 := Lib.hid (CS.of hB hg hk)
  clear hB hbb hg hk HP
  generalize hpb : w1.heap.size = pb at S0
  simp only [lv] at S0 ⊢
  go_wp2_with fail
  clear hN
  go_loopw [26] (fun x wr => ∃ (k : Nat), x = .int .i64 k ∧ k ≤ N ∧ Hid (CS w bb g pb (cnt k 0) wr)) (fun x _ => N - (intOf x).toNat)
  case atStart => exact ⟨0, rfl, by omega, S0⟩
  case round =>
    obtain ⟨k, rfl, hk0, S1⟩ := hrel
    clear S0 hpb
    by_cases hlt : k < N
    · as_aux_lemma =>
        have S1c := S1.out.box.cell
        go_wp2_with fail
        refine (NewUp_any 1 _).mono ?_
        rintro e w2 ⟨lb, nb, rfl, hl, hnn, h1, h2, hk⟩
        have S2 := Lib.hid (S1.out.kept hk)
        have HM := Lib.hid S2.out.machine
        have HLN := Lib.hid (And.intro hl hnn)
        clear hk S1 S1c h1 h2 hl hnn
        go_wp2_with fail
        refine (Up_step (step_add (Blk.newAt w2 _ _ _ rfl) HM.out.1 (addIt (S2.out.alloc _).bank rfl (Blk.alloc HLN.out.1 _) _ (HLN.out.2.alloc _) ((k + 1 : Nat) : Int) (by rw [cnt_7, wrap64_id _ (by omega)]; rfl)))).mono ?_
        rintro e w3 ⟨rfl, hS⟩
        have S4 : Hid (CS w bb g pb (cnt ((k + 1 : Nat) : Int) 0) w3) := Lib.hid (CS.step (S2.out.alloc _) hS HM.out.2.1 HM.out.2.2)
        clear hS S2 HM HLN
        go_wp2_with fail
        go_roundw
        case rel => exact ⟨k + 1, by go_num, by omega, S4⟩
        case measure => simp [intOf]; omega
    · obtain rfl : k = N := by omega
      obtain ⟨wo, rfl⟩ : ∃ wo : World, wo = wr := ⟨_, rfl⟩
      go_wp2_with fail
      go_loopw [10, 34] (fun y x wr => ∃ (i u t : Nat), x = .int .i64 i ∧ u + i = k ∧ y = .int .i64 t ∧ t = (if u = 0 then 1 else 0) ∧ Hid (CS w bb g pb (cnt u 0) wr)) (fun _ x _ => k - (intOf x).toNat)
      case atStart => exact ⟨0, k, 0, rfl, by omega, rfl, by rw [if_neg (by omega)], S1⟩
      case round =>
        obtain ⟨i, u, t, rfl, hui, rfl, ht, S3⟩ := hrel
        clear S1
        by_cases hi : i < k
        · obtain rfl : t = 0 := by rw [ht, if_neg (by omega)]
          clear ht
          obtain ⟨r, rfl⟩ : ∃ r, u = r + 1 := ⟨u - 1, by omega⟩
          have hib : ((i : Int) < (zs.length : Int)) ↔ i < zs.length := by omega
          by_cases hr0 : r = 0
          · by_cases hg : i < zs.length
            · by_cases hgv : zs[i] = true
              · as_aux_lemma =>
                  have hz : ((r : Int) == 0) = true := by simp; omega
                  have hkz : ((i : Int) == (k : Int) - 1) = true := by simp; omega
                  have hkm : 1 ≤ (k : Int) := by omega
                  have S1c := S3.out.box.cell
                  go_wp2_with fail
                  refine (NewDown_any _).mono ?_
                  rintro e w2 ⟨lb, nb, rfl, hl, hnn, h1, h2, hk⟩
                  have S2 := Lib.hid (S3.out.kept hk)
                  have HM := Lib.hid S2.out.machine
                  have HLN := Lib.hid (And.intro hl hnn)
                  clear hk S3 S1c h1 h2 hl hnn
                  go_wp2_with fail
                  refine (Down_step (step_add ((Blk.newAt w2 _ _ _ rfl).alloc _) HM.out.1 (addIt ((S2.out.alloc _).alloc _).bank rfl (Blk.alloc (Blk.alloc HLN.out.1 _) _) _ ((HLN.out.2.alloc _).alloc _) (r : Int) (by rw [cnt_7, wrap64_id _ (by omega)]; omega)))).mono ?_
                  rintro e w3 ⟨rfl, hS⟩
                  have S4 : Hid (CS w bb g pb (cnt r 0) w3) := Lib.hid (CS.step ((S2.out.alloc _).alloc _) hS HM.out.2.1 HM.out.2.2)
                  have hc := (Blk.newAt (w2.alloc (.cells #[.func (.func 44) #[] #[.pointer (some ⟨lb, 0, none⟩), .pointer (some ⟨nb, 0, none⟩)], .bool false, .bool false] 48)) #[.func (.func 44) #[] #[.pointer (some ⟨lb, 0, none⟩), .pointer (some ⟨nb, 0, none⟩)], .bool false, .bool false] 48 (w2.heap.size + 1) (by simp)).upd hS.upd (fun e => by have := HM.out.1.1; have := (S2.out.bank.row.lt); rcases e with e | e <;> omega)
                  have d1 : w3.cell? ⟨w2.heap.size, 1, none⟩ = some (.bool true) := by rw [hS.mach.cell]; rfl
                  have d2 : w3.cell? ⟨w2.heap.size, 2, none⟩ = some (.bool ((r : Int) == 0)) := by rw [hS.mach.cell]; rfl
                  have d3 : w3.cell? ⟨w2.heap.size + 1, 2, none⟩ = some (.bool false) := by rw [hc.cell]; rfl
                  rw [hz] at d2
                  clear hS hc S2 HM HLN
                  obtain ⟨b, off, rfl, hcc⟩ := HR.out.at i (by simp; omega)
                  have c0 : w3.cell? ⟨b, off + i, none⟩ = some (.bool true) := (keptCells S4.out.kp _ (by rw [hcc]; simp [hg])).trans (by rw [hcc]; simp [hg, hgv])
                  clear hcc
                  go_wp2_with fail
                  refine (Down_step (step_done d1)).mono ?_
                  rintro e w' ⟨rfl, rfl⟩
                  go_wp2_with fail
                  refine (Down_Last d2).mono ?_
                  rintro e w' ⟨rfl, rfl⟩
                  go_wp2_with fail
                  refine (Down_Last d3).mono ?_
                  rintro e w' ⟨rfl, rfl⟩
                  go_wp2_with fail
                  refine (Down_Last d2).mono ?_
                  rintro e w' ⟨rfl, rfl⟩
                  go_wp2_with fail
                  go_roundw
                  case rel => exact ⟨i + 1, r, 1, by go_num, by omega, rfl, by rw [if_pos (by omega)], S4⟩
                  case measure => simp [intOf]; omega
              · have hgv : zs[i] = false := by simpa using hgv
                as_aux_lemma =>
                  have hz : ((r : Int) == 0) = true := by simp; omega
                  have hkz : ((i : Int) == (k : Int) - 1) = true := by simp; omega
                  have hkm : 1 ≤ (k : Int) := by omega
                  have S1c := S3.out.box.cell
                  go_wp2_with fail
                  refine (NewDown_any _).mono ?_
                  rintro e w2 ⟨lb, nb, rfl, hl, hnn, h1, h2, hk⟩
                  have S2 := Lib.hid (S3.out.kept hk)
                  have HM := Lib.hid S2.out.machine
                  have HLN := Lib.hid (And.intro hl hnn)
                  clear hk S3 S1c h1 h2 hl hnn
                  go_wp2_with fail
                  refine (Down_step (step_add ((Blk.newAt w2 _ _ _ rfl).alloc _) HM.out.1 (addIt ((S2.out.alloc _).alloc _).bank rfl (Blk.alloc (Blk.alloc HLN.out.1 _) _) _ ((HLN.out.2.alloc _).alloc _) (r : Int) (by rw [cnt_7, wrap64_id _ (by omega)]; omega)))).mono ?_
                  rintro e w3 ⟨rfl, hS⟩
                  have S4 : Hid (CS w bb g pb (cnt r 0) w3) := Lib.hid (CS.step ((S2.out.alloc _).alloc _) hS HM.out.2.1 HM.out.2.2)
                  have hc := (Blk.newAt (w2.alloc (.cells #[.func (.func 44) #[] #[.pointer (some ⟨lb, 0, none⟩), .pointer (some ⟨nb, 0, none⟩)], .bool false, .bool false] 48)) #[.func (.func 44) #[] #[.pointer (some ⟨lb, 0, none⟩), .pointer (some ⟨nb, 0, none⟩)], .bool false, .bool false] 48 (w2.heap.size + 1) (by simp)).upd hS.upd (fun e => by have := HM.out.1.1; have := (S2.out.bank.row.lt); rcases e with e | e <;> omega)
                  have d1 : w3.cell? ⟨w2.heap.size, 1, none⟩ = some (.bool true) := by rw [hS.mach.cell]; rfl
                  have d2 : w3.cell? ⟨w2.heap.size, 2, none⟩ = some (.bool ((r : Int) == 0)) := by rw [hS.mach.cell]; rfl
                  have d3 : w3.cell? ⟨w2.heap.size + 1, 2, none⟩ = some (.bool false) := by rw [hc.cell]; rfl
                  rw [hz] at d2
                  clear hS hc S2 HM HLN
                  obtain ⟨b, off, rfl, hcc⟩ := HR.out.at i (by simp; omega)
                  have c0 : w3.cell? ⟨b, off + i, none⟩ = some (.bool false) := (keptCells S4.out.kp _ (by rw [hcc]; simp [hg])).trans (by rw [hcc]; simp [hg, hgv])
                  clear hcc
                  go_wp2_with fail
                  refine (Down_Last d2).mono ?_
                  rintro e w' ⟨rfl, rfl⟩
                  go_wp2_with fail
                  refine (Down_Last d3).mono ?_
                  rintro e w' ⟨rfl, rfl⟩
                  go_wp2_with fail
                  refine (Down_Last d2).mono ?_
                  rintro e w' ⟨rfl, rfl⟩
                  go_wp2_with fail
                  go_roundw
                  case rel => exact ⟨i + 1, r, 1, by go_num, by omega, rfl, by rw [if_pos (by omega)], S4⟩
                  case measure => simp [intOf]; omega
            · as_aux_lemma =>
                have hz : ((r : Int) == 0) = true := by simp; omega
                have hkz : ((i : Int) == (k : Int) - 1) = true := by simp; omega
                have hkm : 1 ≤ (k : Int) := by omega
                have S1c := S3.out.box.cell
                go_wp2_with fail
                refine (NewDown_any _).mono ?_
                rintro e w2 ⟨lb, nb, rfl, hl, hnn, h1, h2, hk⟩
                have S2 := Lib.hid (S3.out.kept hk)
                have HM := Lib.hid S2.out.machine
                have HLN := Lib.hid (And.intro hl hnn)
                clear hk S3 S1c h1 h2 hl hnn
                go_wp2_with fail
                refine (Down_step (step_add ((Blk.newAt w2 _ _ _ rfl).alloc _) HM.out.1 (addIt ((S2.out.alloc _).alloc _).bank rfl (Blk.alloc (Blk.alloc HLN.out.1 _) _) _ ((HLN.out.2.alloc _).alloc _) (r : Int) (by rw [cnt_7, wrap64_id _ (by omega)]; omega)))).mono ?_
                rintro e w3 ⟨rfl, hS⟩
                have S4 : Hid (CS w bb g pb (cnt r 0) w3) := Lib.hid (CS.step ((S2.out.alloc _).alloc _) hS HM.out.2.1 HM.out.2.2)
                have hc := (Blk.newAt (w2.alloc (.cells #[.func (.func 44) #[] #[.pointer (some ⟨lb, 0, none⟩), .pointer (some ⟨nb, 0, none⟩)], .bool false, .bool false] 48)) #[.func (.func 44) #[] #[.pointer (some ⟨lb, 0, none⟩), .pointer (some ⟨nb, 0, none⟩)], .bool false, .bool false] 48 (w2.heap.size + 1) (by simp)).upd hS.upd (fun e => by have := HM.out.1.1; have := (S2.out.bank.row.lt); rcases e with e | e <;> omega)
                have d1 : w3.cell? ⟨w2.heap.size, 1, none⟩ = some (.bool true) := by rw [hS.mach.cell]; rfl
                have d2 : w3.cell? ⟨w2.heap.size, 2, none⟩ = some (.bool ((r : Int) == 0)) := by rw [hS.mach.cell]; rfl
                have d3 : w3.cell? ⟨w2.heap.size + 1, 2, none⟩ = some (.bool false) := by rw [hc.cell]; rfl
                rw [hz] at d2
                clear hS hc S2 HM HLN
                go_wp2_with fail
                refine (Down_Last d2).mono ?_
                rintro e w' ⟨rfl, rfl⟩
                go_wp2_with fail
                refine (Down_Last d3).mono ?_
                rintro e w' ⟨rfl, rfl⟩
                go_wp2_with fail
                refine (Down_Last d2).mono ?_
                rintro e w' ⟨rfl, rfl⟩
                go_wp2_with fail
                go_roundw
                case rel => exact ⟨i + 1, r, 1, by go_num, by omega, rfl, by rw [if_pos (by omega)], S4⟩
                case measure => simp [intOf]; omega
          · by_cases hg : i < zs.length
            · by_cases hgv : zs[i] = true
              · as_aux_lemma =>
                  have hz : ((r : Int) == 0) = false := by simp; omega
                  have hkz : ((i : Int) == (k : Int) - 1) = false := by simp; omega
                  have hkm : 1 ≤ (k : Int) := by omega
                  have S1c := S3.out.box.cell
                  go_wp2_with fail
                  refine (NewDown_any _).mono ?_
                  rintro e w2 ⟨lb, nb, rfl, hl, hnn, h1, h2, hk⟩
                  have S2 := Lib.hid (S3.out.kept hk)
                  have HM := Lib.hid S2.out.machine
                  have HLN := Lib.hid (And.intro hl hnn)
                  clear hk S3 S1c h1 h2 hl hnn
                  go_wp2_with fail
                  refine (Down_step (step_add ((Blk.newAt w2 _ _ _ rfl).alloc _) HM.out.1 (addIt ((S2.out.alloc _).alloc _).bank rfl (Blk.alloc (Blk.alloc HLN.out.1 _) _) _ ((HLN.out.2.alloc _).alloc _) (r : Int) (by rw [cnt_7, wrap64_id _ (by omega)]; omega)))).mono ?_
                  rintro e w3 ⟨rfl, hS⟩
                  have S4 : Hid (CS w bb g pb (cnt r 0) w3) := Lib.hid (CS.step ((S2.out.alloc _).alloc _) hS HM.out.2.1 HM.out.2.2)
                  have hc := (Blk.newAt (w2.alloc (.cells #[.func (.func 44) #[] #[.pointer (some ⟨lb, 0, none⟩), .pointer (some ⟨nb, 0, none⟩)], .bool false, .bool false] 48)) #[.func (.func 44) #[] #[.pointer (some ⟨lb, 0, none⟩), .pointer (some ⟨nb, 0, none⟩)], .bool false, .bool false] 48 (w2.heap.size + 1) (by simp)).upd hS.upd (fun e => by have := HM.out.1.1; have := (S2.out.bank.row.lt); rcases e with e | e <;> omega)
                  have d1 : w3.cell? ⟨w2.heap.size, 1, none⟩ = some (.bool true) := by rw [hS.mach.cell]; rfl
                  have d2 : w3.cell? ⟨w2.heap.size, 2, none⟩ = some (.bool ((r : Int) == 0)) := by rw [hS.mach.cell]; rfl
                  have d3 : w3.cell? ⟨w2.heap.size + 1, 2, none⟩ = some (.bool false) := by rw [hc.cell]; rfl
                  rw [hz] at d2
                  clear hS hc S2 HM HLN
                  obtain ⟨b, off, rfl, hcc⟩ := HR.out.at i (by simp; omega)
                  have c0 : w3.cell? ⟨b, off + i, none⟩ = some (.bool true) := (keptCells S4.out.kp _ (by rw [hcc]; simp [hg])).trans (by rw [hcc]; simp [hg, hgv])
                  clear hcc
                  go_wp2_with fail
                  refine (Down_step (step_done d1)).mono ?_
                  rintro e w' ⟨rfl, rfl⟩
                  go_wp2_with fail
                  refine (Down_Last d2).mono ?_
                  rintro e w' ⟨rfl, rfl⟩
                  go_wp2_with fail
                  refine (Down_Last d3).mono ?_
                  rintro e w' ⟨rfl, rfl⟩
                  go_wp2_with fail
                  refine (Down_Last d2).mono ?_
                  rintro e w' ⟨rfl, rfl⟩
                  go_wp2_with fail
                  go_roundw
                  case rel => exact ⟨i + 1, r, 0, by go_num, by omega, rfl, by rw [if_neg (by omega)], S4⟩
                  case measure => simp [intOf]; omega
              · have hgv : zs[i] = false := by simpa using hgv
                as_aux_lemma =>
                  have hz : ((r : Int) == 0) = false := by simp; omega
                  have hkz : ((i : Int) == (k : Int) - 1) = false := by simp; omega
                  have hkm : 1 ≤ (k : Int) := by omega
                  have S1c := S3.out.box.cell
                  go_wp2_with fail
                  refine (NewDown_any _).mono ?_
                  rintro e w2 ⟨lb, nb, rfl, hl, hnn, h1, h2, hk⟩
                  have S2 := Lib.hid (S3.out.kept hk)
                  have HM := Lib.hid S2.out.machine
                  have HLN := Lib.hid (And.intro hl hnn)
                  clear hk S3 S1c h1 h2 hl hnn
                  go_wp2_with fail
                  refine (Down_step (step_add ((Blk.newAt w2 _ _ _ rfl).alloc _) HM.out.1 (addIt ((S2.out.alloc _).alloc _).bank rfl (Blk.alloc (Blk.alloc HLN.out.1 _) _) _ ((HLN.out.2.alloc _).alloc _) (r : Int) (by rw [cnt_7, wrap64_id _ (by omega)]; omega)))).mono ?_
                  rintro e w3 ⟨rfl, hS⟩
                  have S4 : Hid (CS w bb g pb (cnt r 0) w3) := Lib.hid (CS.step ((S2.out.alloc _).alloc _) hS HM.out.2.1 HM.out.2.2)
                  have hc := (Blk.newAt (w2.alloc (.cells #[.func (.func 44) #[] #[.pointer (some ⟨lb, 0, none⟩), .pointer (some ⟨nb, 0, none⟩)], .bool false, .bool false] 48)) #[.func (.func 44) #[] #[.pointer (some ⟨lb, 0, none⟩), .pointer (some ⟨nb, 0, none⟩)], .bool false, .bool false] 48 (w2.heap.size + 1) (by simp)).upd hS.upd (fun e => by have := HM.out.1.1; have := (S2.out.bank.row.lt); rcases e with e | e <;> omega)
                  have d1 : w3.cell? ⟨w2.heap.size, 1, none⟩ = some (.bool true) := by rw [hS.mach.cell]; rfl
                  have d2 : w3.cell? ⟨w2.heap.size, 2, none⟩ = some (.bool ((r : Int) == 0)) := by rw [hS.mach.cell]; rfl
                  have d3 : w3.cell? ⟨w2.heap.size + 1, 2, none⟩ = some (.bool false) := by rw [hc.cell]; rfl
                  rw [hz] at d2
                  clear hS hc S2 HM HLN
                  obtain ⟨b, off, rfl, hcc⟩ := HR.out.at i (by simp; omega)
                  have c0 : w3.cell? ⟨b, off + i, none⟩ = some (.bool false) := (keptCells S4.out.kp _ (by rw [hcc]; simp [hg])).trans (by rw [hcc]; simp [hg, hgv])
                  clear hcc
                  go_wp2_with fail
                  refine (Down_Last d2).mono ?_
                  rintro e w' ⟨rfl, rfl⟩
                  go_wp2_with fail
                  refine (Down_Last d3).mono ?_
                  rintro e w' ⟨rfl, rfl⟩
                  go_wp2_with fail
                  refine (Down_Last d2).mono ?_
                  rintro e w' ⟨rfl, rfl⟩
                  go_wp2_with fail
                  go_roundw
                  case rel => exact ⟨i + 1, r, 0, by go_num, by omega, rfl, by rw [if_neg (by omega)], S4⟩
                  case measure => simp [intOf]; omega
            · as_aux_lemma =>
                have hz : ((r : Int) == 0) = false := by simp; omega
                have hkz : ((i : Int) == (k : Int) - 1) = false := by simp; omega
                have hkm : 1 ≤ (k : Int) := by omega
                have S1c := S3.out.box.cell
                go_wp2_with fail
                refine (NewDown_any _).mono ?_
                rintro e w2 ⟨lb, nb, rfl, hl, hnn, h1, h2, hk⟩
                have S2 := Lib.hid (S3.out.kept hk)
                have HM := Lib.hid S2.out.machine
                have HLN := Lib.hid (And.intro hl hnn)
                clear hk S3 S1c h1 h2 hl hnn
                go_wp2_with fail
                refine (Down_step (step_add ((Blk.newAt w2 _ _ _ rfl).alloc _) HM.out.1 (addIt ((S2.out.alloc _).alloc _).bank rfl (Blk.alloc (Blk.alloc HLN.out.1 _) _) _ ((HLN.out.2.alloc _).alloc _) (r : Int) (by rw [cnt_7, wrap64_id _ (by omega)]; omega)))).mono ?_
                rintro e w3 ⟨rfl, hS⟩
                have S4 : Hid (CS w bb g pb (cnt r 0) w3) := Lib.hid (CS.step ((S2.out.alloc _).alloc _) hS HM.out.2.1 HM.out.2.2)
                have hc := (Blk.newAt (w2.alloc (.cells #[.func (.func 44) #[] #[.pointer (some ⟨lb, 0, none⟩), .pointer (some ⟨nb, 0, none⟩)], .bool false, .bool false] 48)) #[.func (.func 44) #[] #[.pointer (some ⟨lb, 0, none⟩), .pointer (some ⟨nb, 0, none⟩)], .bool false, .bool false] 48 (w2.heap.size + 1) (by simp)).upd hS.upd (fun e => by have := HM.out.1.1; have := (S2.out.bank.row.lt); rcases e with e | e <;> omega)
                have d1 : w3.cell? ⟨w2.heap.size, 1, none⟩ = some (.bool true) := by rw [hS.mach.cell]; rfl
                have d2 : w3.cell? ⟨w2.heap.size, 2, none⟩ = some (.bool ((r : Int) == 0)) := by rw [hS.mach.cell]; rfl
                have d3 : w3.cell? ⟨w2.heap.size + 1, 2, none⟩ = some (.bool false) := by rw [hc.cell]; rfl
                rw [hz] at d2
                clear hS hc S2 HM HLN
                go_wp2_with fail
                refine (Down_Last d2).mono ?_
                rintro e w' ⟨rfl, rfl⟩
                go_wp2_with fail
                refine (Down_Last d3).mono ?_
                rintro e w' ⟨rfl, rfl⟩
                go_wp2_with fail
                refine (Down_Last d2).mono ?_
                rintro e w' ⟨rfl, rfl⟩
                go_wp2_with fail
                go_roundw
                case rel => exact ⟨i + 1, r, 0, by go_num, by omega, rfl, by rw [if_neg (by omega)], S4⟩
                case measure => simp [intOf]; omega
        · obtain rfl : u = 0 := by omega
          have ht1 : t = 1 := by rw [ht]; rfl
          have htb : ((t : Int) == 1) = true := by simp [ht1]
          clear ht
          have S3c := S3.out.box.cell
          go_wp2_with fail
          refine (Load_bank S3.out.bank 7).mono ?_
          rintro e w' ⟨rfl, rfl⟩
          simp only [cnt_7]
          go_wp2_with fail
          refine (awake_any _).mono ?_
          rintro e w5 ⟨rfl, hk5⟩
          go_wp2
          go_ret
          exact ⟨rfl, S3.out.kp.trans hk5⟩
theorem countOrder_walk (a0 : Int) (a : Option Addr) (cap : Nat) (zs : List Bool) (w : World) (w0 : (Lit.int .u8 a0).wf = true) (h : BoolRow w a cap zs) :
    Calls Try.prog 5 #[.int .u8 a0, .slice a zs.length cap] w fun e w' => e = .returned (.bool true) ∧ Kept w w' :=
  countOrder_core a0 a cap zs w (bounds_u8 w0) h.rd h.le h.most
end Go.Proofs.Ytccjgbmbggbmgaa
