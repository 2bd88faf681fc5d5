/- The law CountPending. -/
import Derived.Test.YtccjgbmbggbmgaaCountState
import Derived.Test.YtccjgbmbggbmgaaRd
namespace Go.Proofs.Ytccjgbmbggbmgaa
set_option linter.unusedVariables false
open Go.RowKit

theorem IntRow.rd {k : IntKind} {w : World} {a : Option Addr} {cap : Nat} {zs : List Int} (h : IntRow k w a cap zs) : Rd w a (zs.map (Value.int k)) := by
  rcases h.cells with h0 | ⟨b, off, rfl, hc⟩
  · exact .inl (by rw [List.eq_nil_of_length_eq_zero h0]; rfl)
  · refine .inr ⟨b, off, rfl, fun i u hu => ?_⟩
    rw [List.getElem?_map] at hu
    obtain ⟨x, hx, rfl⟩ := Option.map_eq_some_iff.1 hu
    obtain ⟨hi, rfl⟩ := List.getElem?_eq_some_iff.1 hx
    exact hc i hi

set_option maxRecDepth 100000 in
set_option maxHeartbeats 4000000 in
theorem countPending_core (a : Option Addr) (cap : Nat) (zs : List Int) (w : World) (hr : Rd w a (zs.map (Value.int .u8))) (hlen : zs.length ≤ cap) (hmost : cap ≤ maxLen) (hz : ∀ z ∈ zs, 0 ≤ z ∧ z ≤ 255) :
    Calls Try.prog 3 #[.slice a zs.length cap] w fun e w' => e = .returned (.bool true) ∧ Kept w w' := by
  have HP := fun w => Lib.hid (bank_any w)
  obtain ⟨M, hM⟩ : ∃ M, M = min zs.length 200 := ⟨_, rfl⟩
  have hM1 : M ≤ zs.length := by omega
  have hM2 : M ≤ 200 := by omega
  have hsl := fun w => run_take (P := Try.prog) Try.underlying22 (size := 1) (by kernel_rfl) a zs.length cap M (by omega) w
  have hif1 : (if (200 : Int) < (zs.length : Int) then (200 : Int) else (zs.length : Int)) = (M : Int) := by split <;> omega
  have hif2 : (if 200 < zs.length then (200 : Int) else (zs.length : Int)) = (M : Int) := by split <;> omega
  have HR := Lib.hid hr
  have HZ := Lib.hid hz
  unfold maxLen at hmost
  clear hr hz hM
  go_enter Try.func3, Try.ntmps3
  go_wp2_with fail
  refine (HP _).out.mono ?_
  rintro e w1 ⟨bb, g, rfl, hB, hbb, hg, hk⟩
  have S0 := Lib.hid (CS.of hB hg hk)
  clear hB hbb hg hk HP
  generalize hpb : w1.heap.size = pb at S0
  simp only [lv] at S0 ⊢
  go_wp2_with fail
  go_loopw [6, 24] (fun y x wr => ∃ (k u : Nat), x = .int .i64 k ∧ k ≤ M ∧ y = .int .i64 u ∧ u ≤ 9 * k ∧ Hid (CS w bb g pb (cnt u 0) wr)) (fun _ x _ => M - (intOf x).toNat)
  case atStart => exact ⟨0, 0, rfl, by omega, rfl, by omega, S0⟩
  case round =>
    obtain ⟨k, u, rfl, hk0, rfl, hu, S1⟩ := hrel
    clear S0 hpb
    by_cases hlt : k < M
    · obtain ⟨b, off, rfl, hc⟩ := HR.out.at k (by simp; omega)
      have c0 : wr.cell? ⟨b, off + k, none⟩ = some (.int .u8 (zs[k]'(by omega))) := (keptCells S1.out.kp _ (by rw [hc]; simp [show k < zs.length by omega])).trans (by rw [hc]; simp [show k < zs.length by omega])
      have hx := HZ.out (zs[k]'(by omega)) (List.getElem_mem _)
      generalize zs[k]'(by omega) = x at c0 hx
      obtain ⟨hx0, hx1⟩ := hx
      clear hc
      by_cases he : x % 2 = 0
      · as_aux_lemma =>
          have hxb : (x % 2 == 0) = true := by simp [he]
          have S1c := S1.out.box.cell
          obtain ⟨n, hn⟩ : ∃ n : Nat, 1 + x / 2 % 9 = (n : Int) := ⟨(1 + x / 2 % 9).toNat, by omega⟩
          have hn1 : 1 ≤ n := by omega
          have hn2 : n ≤ 9 := by omega
          obtain ⟨r, hr⟩ : ∃ r : Nat, (u : Int) + (n : Int) = (r : Int) := ⟨u + n, by omega⟩
          have hr1 : r ≤ 9 * (k + 1) := by omega
          have hr2 : ¬ (r : Int) = 0 := by omega
          have hr0 : 0 ≤ (r : Int) := by omega
          have hbz : ((r : Int) == 0) = false := beq_eq_false_iff_ne.2 hr2
          have hrn : ¬ r = 0 := by omega
          have hnz : ((n : Int) == 0) = false := beq_eq_false_iff_ne.2 (by omega)
          have hnn0 : ¬ n = 0 := by omega
          have hn0 : 0 ≤ (n : Int) := by omega
          go_wp2_with fail
          refine (NewUp_any n _).mono ?_
          rintro e w2 ⟨lb, nb, rfl, hl, hnn, h1, h2, hk⟩
          have S2 := Lib.hid (S1.out.kept hk)
          have HM := Lib.hid S2.out.machine
          have HLN := Lib.hid (And.intro hl hnn)
          clear hk S1 S1c h1 h2 hl hnn c0
          go_wp2_with fail
          refine (Up_step (step_add (Blk.newAt w2 _ _ _ rfl) HM.out.1 (addIt (S2.out.alloc _).bank rfl (Blk.alloc HLN.out.1 _) _ (HLN.out.2.alloc _) (r : Int) (by rw [cnt_7, wrap64_id _ (by omega)]; exact hr)))).mono ?_
          rintro e w3 ⟨rfl, hS⟩
          have S4 : Hid (CS w bb g pb (cnt r 0) w3) := Lib.hid (CS.step (S2.out.alloc _) hS HM.out.2.1 HM.out.2.2)
          clear hS S2 HM HLN
          have cl := S4.out.box.cell
          go_wp2_with fail
          refine (Load_bank S4.out.bank 7).mono ?_
          rintro e w' ⟨rfl, rfl⟩
          simp only [cnt_7]
          go_wp2_with fail
          refine (zero_any (z := false) S4.out.bank rfl (by rw [cnt_7]; exact hbz) rfl).mono ?_
          rintro e w5 ⟨rfl, hB, hU⟩
          have S5 := Lib.hid (S4.out.acc hB hU)
          clear hB hU S4 cl
          go_wp2_with fail
          go_roundw
          case rel => exact ⟨k + 1, r, by go_num, by omega, by (first | rfl | (congr 1; omega)), by omega, S5⟩
          case measure => simp [intOf]; omega
      · by_cases hu0 : u = 0
        · as_aux_lemma =>
            have hxb : (x % 2 == 0) = false := by simp [he]
            have hub : ((u : Int) == 0) = true := by simp [hu0]
            have S1c := S1.out.box.cell
            obtain ⟨n, hn⟩ : ∃ n : Nat, 1 + x / 2 % 9 = (n : Int) := ⟨(1 + x / 2 % 9).toNat, by omega⟩
            have hn1 : 1 ≤ n := by omega
            have hn2 : n ≤ 9 := by omega
            obtain ⟨r, hr⟩ : ∃ r : Nat, (u : Int) + (n : Int) = (r : Int) := ⟨u + n, by omega⟩
            have hr1 : r ≤ 9 * (k + 1) := by omega
            have hr2 : ¬ (r : Int) = 0 := by omega
            have hr0 : 0 ≤ (r : Int) := by omega
            have hbz : ((r : Int) == 0) = false := beq_eq_false_iff_ne.2 hr2
            have hrn : ¬ r = 0 := by omega
            have hnz : ((n : Int) == 0) = false := beq_eq_false_iff_ne.2 (by omega)
            have hnn0 : ¬ n = 0 := by omega
            have hn0 : 0 ≤ (n : Int) := by omega
            go_wp2_with fail
            refine (NewUp_any n _).mono ?_
            rintro e w2 ⟨lb, nb, rfl, hl, hnn, h1, h2, hk⟩
            have S2 := Lib.hid (S1.out.kept hk)
            have HM := Lib.hid S2.out.machine
            have HLN := Lib.hid (And.intro hl hnn)
            clear hk S1 S1c h1 h2 hl hnn c0
            go_wp2_with fail
            refine (Up_step (step_add (Blk.newAt w2 _ _ _ rfl) HM.out.1 (addIt (S2.out.alloc _).bank rfl (Blk.alloc HLN.out.1 _) _ (HLN.out.2.alloc _) (r : Int) (by rw [cnt_7, wrap64_id _ (by omega)]; exact hr)))).mono ?_
            rintro e w3 ⟨rfl, hS⟩
            have S4 : Hid (CS w bb g pb (cnt r 0) w3) := Lib.hid (CS.step (S2.out.alloc _) hS HM.out.2.1 HM.out.2.2)
            clear hS S2 HM HLN
            have cl := S4.out.box.cell
            go_wp2_with fail
            refine (Load_bank S4.out.bank 7).mono ?_
            rintro e w' ⟨rfl, rfl⟩
            simp only [cnt_7]
            go_wp2_with fail
            refine (zero_any (z := false) S4.out.bank rfl (by rw [cnt_7]; exact hbz) rfl).mono ?_
            rintro e w5 ⟨rfl, hB, hU⟩
            have S5 := Lib.hid (S4.out.acc hB hU)
            clear hB hU S4 cl
            go_wp2_with fail
            go_roundw
            case rel => exact ⟨k + 1, r, by go_num, by omega, by (first | rfl | (congr 1; omega)), by omega, S5⟩
            case measure => simp [intOf]; omega
        · have hu1 : ¬ (u : Int) = 0 := by omega
          obtain ⟨r, hr⟩ : ∃ r : Nat, (u : Int) - 1 = (r : Int) := ⟨u - 1, by omega⟩
          have hr1 : r ≤ 9 * (k + 1) := by omega
          have hr0 : 0 ≤ (r : Int) := by omega
          by_cases hrz : r = 0
          · as_aux_lemma =>
              have hxb : (x % 2 == 0) = false := by simp [he]
              have hub : ((u : Int) == 0) = false := by simp [hu0]
              have S1c := S1.out.box.cell
              have hbz : ((r : Int) == 0) = true := by simp [hrz]
              go_wp2_with fail
              refine (last_any (z := true) (ys := cnt r 0) S1.out.bank rfl (by rw [cnt_7, wrap64_id _ (by omega), show (u : Int) + -1 = r by omega]; exact hbz) (by rw [cnt_7, wrap64_id _ (by omega), show (u : Int) + -1 = r by omega]; rfl)).mono ?_
              rintro e w3 ⟨rfl, hB, hU⟩
              have S4 := Lib.hid (S1.out.acc hB hU)
              clear hB hU S1 S1c c0
              have cl := S4.out.box.cell
              go_wp2_with fail
              refine (Load_bank S4.out.bank 7).mono ?_
              rintro e w' ⟨rfl, rfl⟩
              simp only [cnt_7]
              go_wp2_with fail
              refine (zero_any (z := true) S4.out.bank rfl (by rw [cnt_7]; exact hbz) rfl).mono ?_
              rintro e w5 ⟨rfl, hB, hU⟩
              have S5 := Lib.hid (S4.out.acc hB hU)
              clear hB hU S4 cl
              go_wp2_with fail
              go_roundw
              case rel => exact ⟨k + 1, r, by go_num, by omega, by (first | rfl | (congr 1; omega)), by omega, S5⟩
              case measure => simp [intOf]; omega
          · have hr2 : ¬ (r : Int) = 0 := by omega
            as_aux_lemma =>
              have hxb : (x % 2 == 0) = false := by simp [he]
              have hub : ((u : Int) == 0) = false := by simp [hu0]
              have S1c := S1.out.box.cell
              have hbz : ((r : Int) == 0) = false := by simp; omega
              go_wp2_with fail
              refine (last_any (z := false) (ys := cnt r 0) S1.out.bank rfl (by rw [cnt_7, wrap64_id _ (by omega), show (u : Int) + -1 = r by omega]; exact hbz) (by rw [cnt_7, wrap64_id _ (by omega), show (u : Int) + -1 = r by omega]; rfl)).mono ?_
              rintro e w3 ⟨rfl, hB, hU⟩
              have S4 := Lib.hid (S1.out.acc hB hU)
              clear hB hU S1 S1c c0
              have cl := S4.out.box.cell
              go_wp2_with fail
              refine (Load_bank S4.out.bank 7).mono ?_
              rintro e w' ⟨rfl, rfl⟩
              simp only [cnt_7]
              go_wp2_with fail
              refine (zero_any (z := false) S4.out.bank rfl (by rw [cnt_7]; exact hbz) rfl).mono ?_
              rintro e w5 ⟨rfl, hB, hU⟩
              have S5 := Lib.hid (S4.out.acc hB hU)
              clear hB hU S4 cl
              go_wp2_with fail
              go_roundw
              case rel => exact ⟨k + 1, r, by go_num, by omega, by (first | rfl | (congr 1; omega)), by omega, S5⟩
              case measure => simp [intOf]; omega
    · go_wp2_with fail
      refine (awake_any _).mono ?_
      rintro e w5 ⟨rfl, hk5⟩
      go_wp2
      go_ret
      exact ⟨rfl, S1.out.kp.trans hk5⟩
theorem countPending_walk (a : Option Addr) (cap : Nat) (zs : List Int) (w : World) (h : IntRow .u8 w a cap zs) (h2 : ∀ n ∈ zs, (Lit.int .u8 n).wf = true) :
    Calls Try.prog 3 #[.slice a zs.length cap] w fun e w' => e = .returned (.bool true) ∧ Kept w w' :=
  countPending_core a cap zs w h.rd h.le h.most (fun z hz => bounds_u8 (h2 z hz))
end Go.Proofs.Ytccjgbmbggbmgaa
