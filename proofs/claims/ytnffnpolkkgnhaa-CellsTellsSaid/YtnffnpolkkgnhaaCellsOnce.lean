/- The law CellsOnce. -/
import Derived.Test.YtnffnpolkkgnhaaAwake10
import Derived.Test.YtnffnpolkkgnhaaOpen
import Derived.Deep.RegionHeld3
namespace Go.Proofs.Ytnffnpolkkgnhaa
set_option linter.unusedVariables false
open Go.RowKit

theorem flat45 : flatB Try.prog 45 [some .u8, some .i64, some .i64, some .i64, none] = true := by kernel_rfl

set_option maxRecDepth 100000 in
set_option maxHeartbeats 4000000 in
theorem cellsOnce_some (n : Int) (b off cap : Nat) (els : List (List Value)) (w : World) (w0 : 0 ≤ n ∧ n ≤ 255) (hle : els.length ≤ cap) (hmost : cap ≤ maxLen)
    (hcells : ∀ i (h : i < els.length) j v, els[i][j]? = some v → w.cell? ⟨b, off + i * 5 + j, none⟩ = some v) (hfit : ∀ e ∈ els, fits [some .u8, some .i64, some .i64, some .i64, none] e) :
    Calls Try.prog 7 #[.int .u8 n, .slice (some ⟨b, off, none⟩) els.length cap] w fun e w' => e = .returned (.bool true) ∧ Kept w w' := by
  obtain ⟨N, hN⟩ := Int.eq_ofNat_of_zero_le (show 0 ≤ 1 + n % 20 by omega)
  have hN1 : 1 ≤ N := by omega
  have hN2 : N ≤ 20 := by omega
  obtain ⟨M, hM⟩ : ∃ M, M = min els.length 80 := ⟨_, rfl⟩
  have hM1 : M ≤ els.length := by omega
  have hM2 : M ≤ 80 := by omega
  have hmk := fun w => make_one (P := Try.prog) (t := 42) (e := 2) (z := .int .i64 0) (v := .int .i64 0) (bytes := 8) Try.underlying42 (by kernel_rfl) rfl .i64 N (by omega) (by omega) w
  have hsl := fun w => run_take (P := Try.prog) Try.underlying37 (size := 5) (by kernel_rfl) (some ⟨b, off, none⟩) els.length cap M (by omega) w
  have hif1 : (if (80 : Int) < (els.length : Int) then (80 : Int) else (els.length : Int)) = (M : Int) := by split <;> omega
  have hif2 : (if 80 < els.length then (80 : Int) else (els.length : Int)) = (M : Int) := by split <;> omega
  unfold maxLen at hmost
  have HC := Lib.hid hcells
  have HF := Lib.hid hfit
  have HM := Lib.hid hM
  clear hcells hfit hM
  go_enter Try.func7, Try.ntmps7
  go_wp2_with fail
  refine (New_ok N _ (by omega)).mono ?_
  rintro e w1 ⟨bb, g, rfl, hB, hbb, hg, hk⟩
  have HB := Lib.hid hB
  have HK := Lib.hid hk
  clear hB hk
  go_wp2_with fail
  have hg1 : g < w1.heap.size := HB.out.row.lt
  have hb1 : bb < w1.heap.size := HB.out.head.lt
  have hwh : w.heap.size ≤ w1.heap.size := HK.out.size
  go_loopw [34] (fun x wr => ∃ (k : Nat) (xs : List Int), x = .int .i64 k ∧ k ≤ M ∧ Hid (xs.length = N) ∧ Hid (Bnk wr bb g xs) ∧ Hid (Blk wr w1.heap.size (xs.map (Value.int .i64)).toArray 2) ∧ Hid (Kept w wr)) (fun x _ => M - (intOf x).toNat)
  case atStart =>
    refine ⟨0, List.replicate N 0, rfl, by omega, Lib.hid (by simp), Lib.hid (HB.out.kept ((Upd.refl _ _).alloc _)), ?_, Lib.hid (HK.out.alloc _)⟩
    apply Lib.hid
    rw [← zeros_ints]
    exact Blk.new _ _ _
  case round =>
    obtain ⟨k, xs, rfl, hk, HL0, HB0, HH0, HK0⟩ := hrel
    clear HB HK
    by_cases hlt : k < M
    · obtain ⟨what, at_, v0, old, right, hel⟩ : ∃ what at_ v0 old right, els[k]'(by omega) = [.int .u8 what, .int .i64 at_, .int .i64 v0, .int .i64 old, .bool right] ∧ 0 ≤ what := by
        have hf := HF.out (els[k]'(by omega)) (List.getElem_mem _)
        obtain ⟨x1, u1, e1, h1, f1⟩ := fits_int hf
        obtain ⟨x2, u2, e2, _, f2⟩ := fits_int f1
        obtain ⟨x3, u3, e3, _, f3⟩ := fits_int f2
        obtain ⟨x4, u4, e4, _, f4⟩ := fits_int f3
        obtain ⟨x5, u5, e5, f5⟩ := fits_bool f4
        exact ⟨x1, x2, x3, x4, x5, by rw [e1, e2, e3, e4, e5, fits_nil f5], (bounds_u8 h1).1⟩
      obtain ⟨hel, hw0⟩ := hel
      have hc := fun j v (h : (els[k]'(by omega))[j]? = some v) => (HK0.out.cells _ (by rw [HC.out k (by omega) j v h]; rfl) (fun f => f)).trans (HC.out k (by omega) j v h)
      rw [hel] at hc
      have c0 : wr.cell? ⟨b, off + k * 5, none⟩ = some (.int .u8 what) := hc 0 _ rfl
      have c1 : wr.cell? ⟨b, off + k * 5 + 1, none⟩ = some (.int .i64 at_) := hc 1 _ rfl
      have c2 : wr.cell? ⟨b, off + k * 5 + 2, none⟩ = some (.int .i64 v0) := hc 2 _ rfl
      have c3 : wr.cell? ⟨b, off + k * 5 + 3, none⟩ = some (.int .i64 old) := hc 3 _ rfl
      have c4 : wr.cell? ⟨b, off + k * 5 + 4, none⟩ = some (.bool right) := hc 4 _ rfl
      clear hc hel
      have hq := bits_255 at_
      generalize hqq : bits BinOp.and .i64 at_ 255 = q at hq
      have hN0 : ¬ (N : Int) = 0 := by omega
      have q0 : 0 ≤ q % N := Int.emod_nonneg _ hN0
      have q1 : q % N < N := Int.emod_lt_of_pos _ (by omega)
      have xl := HL0.out
      have hwr : w1.heap.size < wr.heap.size := HH0.out.lt
      obtain ⟨x0, hxv⟩ : ∃ x0, x0 = xs.getD (q % N).toNat 0 := ⟨_, rfl⟩
      have HX := Lib.hid hxv
      clear hxv
      by_cases hw3 : what % 3 = 0
      · have hw4 : (what % 3 == 0) = true := by simpa using hw3
        clear hw3
        have HHH := Lib.hid (HH0.out.alloc (.cells #[.int .u8 what, .int .i64 at_, .int .i64 v0, .int .i64 old, .bool right] 45))
        have HHK := Lib.hid (HK0.out.alloc (.cells #[.int .u8 what, .int .i64 at_, .int .i64 v0, .int .i64 old, .bool right] 45))
        have HHB := Lib.hid (HB0.out.kept ((Upd.refl _ _).alloc (.cells #[.int .u8 what, .int .i64 at_, .int .i64 v0, .int .i64 old, .bool right] 45)))
        have hlt1 : (q % N).toNat < xs.length := by omega
        clear HB0 HH0 HK0
        go_wp2_with fail
        refine (Store_is HHB.out (q % N) 0 (xs.set (q % N).toNat 0) (bput_in _ q0)).mono ?_
        rintro e w3 ⟨rfl, hB3, hU3⟩
        have HH3 := HHH.out.upd hU3 (fun e => by omega)
        have HK3 := HHK.out.then hU3 (fun i h e => by omega)
        have HB := Lib.hid (hB3.upd (S := fun j => j = w1.heap.size) (updCell w3 w1.heap.size (q % N).toNat (.int .i64 (0))) (fun e => by omega) (fun e => by omega))
        have HH : Hid (Blk (w3.setCell ⟨w1.heap.size, (q % N).toNat, none⟩ (.int .i64 (0))) w1.heap.size ((xs.set (q % N).toNat (0)).map (Value.int .i64)).toArray 2) := by
          have := HH3.set (q % N).toNat (.int .i64 (0))
          rw [List.map_set]
          apply Lib.hid
          simpa using this
        have HK := Lib.hid (HK3.setCell (p := ⟨w1.heap.size, (q % N).toNat, none⟩) (.inr hwh) (.int .i64 (0)))
        have HL : Hid ((xs.set (q % N).toNat (0)).length = N) := Lib.hid (by rw [List.length_set]; exact HL0.out)
        have hcw : w3.cell? ⟨w1.heap.size, (q % N).toNat, none⟩ = some (.int .i64 x0) := by
          rw [HX.out, HH3.cell]; simp [hlt1]
        have hcf := HH3.free (q % N).toNat
        generalize hys : xs.set (q % N).toNat (0) = ys at HB HH HL
        clear hB3 HH3 HK3 HL0 hys hU3 HHB HHH HHK
        have hln : ys.length = N := HL.out
        go_wp2_with fail
        refine (All_bank HB.out).mono ?_
        rintro e w6 ⟨_, rfl, ⟨g3, rfl, hI, hg3⟩, hk6⟩
        have HH6 := Lib.hid (HH.out.kept hk6)
        have HB6 := Lib.hid (HB.out.kept hk6)
        have HK6 := Lib.hid (HK.out.trans hk6)
        have HI := Lib.hid hI
        have HLn := Lib.hid hln
        have hmx : ys.length ≤ 20 := by omega
        clear hI hk6 hln HB HH HK HL
        go_wp2_with fail
        go_loop [78] (fun x => ∃ j : Nat, x = .int .i64 j ∧ j ≤ ys.length) (fun x => ys.length - (intOf x).toNat)
        case atStart => exact ⟨0, rfl, by omega⟩
        case round =>
          obtain ⟨j, rfl, hj⟩ := hrel
          by_cases hlt2 : j < ys.length
          · have c1 : w6.cell? ⟨g3, j, none⟩ = some (.int .i64 (ys.getD j 0)) := by rw [HI.out.cell]; simp [hlt2]
            have c2 : w6.cell? ⟨w1.heap.size, j, none⟩ = some (.int .i64 (ys.getD j 0)) := by rw [HH6.out.cell]; simp [hlt2]
            have hjn : j < N := by have := HLn.out; omega
            go_wp2
            go_round
            case rel => exact ⟨j + 1, by go_num, by omega⟩
            case measure => simp [intOf]; omega
          · go_wp2_with fail
            go_roundw
            case rel => exact ⟨k + 1, ys, by go_num, by omega, HLn, HB6, HH6, HK6⟩
            case measure => simp [intOf]; omega
      · have hw4 : (what % 3 == 0) = false := by simpa using hw3
        clear hw3
        by_cases hx : x0 = 0
        · have hx0 : (x0 == 0) = true := by simpa using hx
          clear hx
          have HHH := Lib.hid (show Blk (wr.alloc (.cells #[.int .u8 what, .int .i64 at_, .int .i64 v0, .int .i64 old, .bool right] 45)).drew _ _ _ from HH0.out.alloc (.cells #[.int .u8 what, .int .i64 at_, .int .i64 v0, .int .i64 old, .bool right] 45))
          have HHK := Lib.hid ((HK0.out.alloc (.cells #[.int .u8 what, .int .i64 at_, .int .i64 v0, .int .i64 old, .bool right] 45)).drew)
          have HHB := Lib.hid (HB0.out.kept (((Upd.refl _ _).alloc (.cells #[.int .u8 what, .int .i64 at_, .int .i64 v0, .int .i64 old, .bool right] 45)).drew))
          have hlt1 : (q % N).toNat < xs.length := by omega
          clear HB0 HH0 HK0
          have hcx2 : (wr.alloc (.cells #[.int .u8 what, .int .i64 at_, .int .i64 v0, .int .i64 old, .bool right] 45)).drew.cell? ⟨w1.heap.size, (q % N).toNat, none⟩ = some (.int .i64 x0) := by
            rw [HX.out, HHH.out.cell]; simp [hlt1]
          have hbg : bget xs (q % N) = 0 := by rw [bget_in q0, ← HX.out]; simpa using hx0
          go_wp2_with fail
          go_region_held3 (fun w' => w'.cell? ⟨w1.heap.size, (q % N).toNat, none⟩ = some (.int .i64 x0))
            (first | assumption | exact hcx2 | exact hcx3)
            ((first | (go_at_call 27; refine (CAS_is HHB.out (q % N) 0 (k + 1) true (xs.set (q % N).toNat (k + 1)) (decide_eq_true ⟨⟨q0, by omega⟩, hbg⟩) (by rw [if_pos hbg, bput_in _ q0])).mono ?_; rintro e w3 ⟨rfl, hB3, hU3⟩; have hcx3 : w3.cell? ⟨w1.heap.size, (q % N).toNat, none⟩ = some (.int .i64 x0) := by rw [hU3.cells _ (by rw [hcx2]; rfl) (fun e => by have e2 : w1.heap.size = g := e; omega)]; exact hcx2)))
          have HH3 := HHH.out.upd hU3 (fun e => by omega)
          have HK3 := HHK.out.then hU3 (fun i h e => by omega)
          have HB := Lib.hid (hB3.upd (S := fun j => j = w1.heap.size) (updCell w3 w1.heap.size (q % N).toNat (.int .i64 ((k : Int) + 1))) (fun e => by omega) (fun e => by omega))
          have HH : Hid (Blk (w3.setCell ⟨w1.heap.size, (q % N).toNat, none⟩ (.int .i64 ((k : Int) + 1))) w1.heap.size ((xs.set (q % N).toNat ((k : Int) + 1)).map (Value.int .i64)).toArray 2) := by
            have := HH3.set (q % N).toNat (.int .i64 ((k : Int) + 1))
            rw [List.map_set]
            apply Lib.hid
            simpa using this
          have HK := Lib.hid (HK3.setCell (p := ⟨w1.heap.size, (q % N).toNat, none⟩) (.inr hwh) (.int .i64 ((k : Int) + 1)))
          have HL : Hid ((xs.set (q % N).toNat ((k : Int) + 1)).length = N) := Lib.hid (by rw [List.length_set]; exact HL0.out)
          have hcw : w3.cell? ⟨w1.heap.size, (q % N).toNat, none⟩ = some (.int .i64 x0) := by
            rw [HX.out, HH3.cell]; simp [hlt1]
          have hcf := HH3.free (q % N).toNat
          generalize hys : xs.set (q % N).toNat ((k : Int) + 1) = ys at HB HH HL
          clear hB3 HH3 HK3 HL0 hys hU3 HHB HHH HHK
          have hln : ys.length = N := HL.out
          go_wp2_with fail
          refine (All_bank HB.out).mono ?_
          rintro e w6 ⟨_, rfl, ⟨g3, rfl, hI, hg3⟩, hk6⟩
          have HH6 := Lib.hid (HH.out.kept hk6)
          have HB6 := Lib.hid (HB.out.kept hk6)
          have HK6 := Lib.hid (HK.out.trans hk6)
          have HI := Lib.hid hI
          have HLn := Lib.hid hln
          have hmx : ys.length ≤ 20 := by omega
          clear hI hk6 hln HB HH HK HL
          go_wp2_with fail
          go_loop [78] (fun x => ∃ j : Nat, x = .int .i64 j ∧ j ≤ ys.length) (fun x => ys.length - (intOf x).toNat)
          case atStart => exact ⟨0, rfl, by omega⟩
          case round =>
            obtain ⟨j, rfl, hj⟩ := hrel
            by_cases hlt2 : j < ys.length
            · have c1 : w6.cell? ⟨g3, j, none⟩ = some (.int .i64 (ys.getD j 0)) := by rw [HI.out.cell]; simp [hlt2]
              have c2 : w6.cell? ⟨w1.heap.size, j, none⟩ = some (.int .i64 (ys.getD j 0)) := by rw [HH6.out.cell]; simp [hlt2]
              have hjn : j < N := by have := HLn.out; omega
              go_wp2
              go_round
              case rel => exact ⟨j + 1, by go_num, by omega⟩
              case measure => simp [intOf]; omega
            · go_wp2_with fail
              go_roundw
              case rel => exact ⟨k + 1, ys, by go_num, by omega, HLn, HB6, HH6, HK6⟩
              case measure => simp [intOf]; omega
        · have hx0 : (x0 == 0) = false := by simpa using hx
          clear hx
          have HHH := Lib.hid (show Blk (wr.alloc (.cells #[.int .u8 what, .int .i64 at_, .int .i64 v0, .int .i64 old, .bool right] 45)).drew _ _ _ from HH0.out.alloc (.cells #[.int .u8 what, .int .i64 at_, .int .i64 v0, .int .i64 old, .bool right] 45))
          have HHK := Lib.hid ((HK0.out.alloc (.cells #[.int .u8 what, .int .i64 at_, .int .i64 v0, .int .i64 old, .bool right] 45)).drew)
          have HHB := Lib.hid (HB0.out.kept (((Upd.refl _ _).alloc (.cells #[.int .u8 what, .int .i64 at_, .int .i64 v0, .int .i64 old, .bool right] 45)).drew))
          have hlt1 : (q % N).toNat < xs.length := by omega
          clear HB0 HH0 HK0
          have hcx2 : (wr.alloc (.cells #[.int .u8 what, .int .i64 at_, .int .i64 v0, .int .i64 old, .bool right] 45)).drew.cell? ⟨w1.heap.size, (q % N).toNat, none⟩ = some (.int .i64 x0) := by
            rw [HX.out, HHH.out.cell]; simp [hlt1]
          have hbg : ¬ bget xs (q % N) = 0 := by rw [bget_in q0, ← HX.out]; simpa using hx0
          go_wp2_with fail
          go_region_held3 (fun w' => w'.cell? ⟨w1.heap.size, (q % N).toNat, none⟩ = some (.int .i64 x0))
            (first | assumption | exact hcx2 | exact hcx3)
            ((first | (go_at_call 27; refine (CAS_is HHB.out (q % N) 0 (k + 1) false xs (decide_eq_false fun h => hbg h.2) (if_neg hbg)).mono ?_; rintro e w3 ⟨rfl, hB3, hU3⟩; have hcx3 : w3.cell? ⟨w1.heap.size, (q % N).toNat, none⟩ = some (.int .i64 x0) := by rw [hU3.cells _ (by rw [hcx2]; rfl) (fun e => by have e2 : w1.heap.size = g := e; omega)]; exact hcx2)))
          have hB := hB3
          have HH3 := HHH.out.upd hU3 (fun e => by omega)
          have HK3 := HHK.out.then hU3 (fun i h e => by omega)
          have HB := Lib.hid hB3
          have HH := Lib.hid HH3
          have HK := Lib.hid HK3
          have HL := HL0
          clear hB HH3 HK3 hB3 hU3 HL0 HHB HHH HHK
          obtain ⟨ys, hys⟩ : ∃ ys, ys = xs := ⟨_, rfl⟩
          rw [← hys] at HB HH HL
          clear hys
          have hln : ys.length = N := HL.out
          go_wp2_with fail
          refine (All_bank HB.out).mono ?_
          rintro e w6 ⟨_, rfl, ⟨g3, rfl, hI, hg3⟩, hk6⟩
          have HH6 := Lib.hid (HH.out.kept hk6)
          have HB6 := Lib.hid (HB.out.kept hk6)
          have HK6 := Lib.hid (HK.out.trans hk6)
          have HI := Lib.hid hI
          have HLn := Lib.hid hln
          have hmx : ys.length ≤ 20 := by omega
          clear hI hk6 hln HB HH HK HL
          go_wp2_with fail
          go_loop [78] (fun x => ∃ j : Nat, x = .int .i64 j ∧ j ≤ ys.length) (fun x => ys.length - (intOf x).toNat)
          case atStart => exact ⟨0, rfl, by omega⟩
          case round =>
            obtain ⟨j, rfl, hj⟩ := hrel
            by_cases hlt2 : j < ys.length
            · have c1 : w6.cell? ⟨g3, j, none⟩ = some (.int .i64 (ys.getD j 0)) := by rw [HI.out.cell]; simp [hlt2]
              have c2 : w6.cell? ⟨w1.heap.size, j, none⟩ = some (.int .i64 (ys.getD j 0)) := by rw [HH6.out.cell]; simp [hlt2]
              have hjn : j < N := by have := HLn.out; omega
              go_wp2
              go_round
              case rel => exact ⟨j + 1, by go_num, by omega⟩
              case measure => simp [intOf]; omega
            · go_wp2_with fail
              go_roundw
              case rel => exact ⟨k + 1, ys, by go_num, by omega, HLn, HB6, HH6, HK6⟩
              case measure => simp [intOf]; omega
    · clear HH0 HB0 HL0
      go_wp2_with fail
      refine (awake_any _).mono ?_
      rintro e w5 ⟨rfl, hk5⟩
      go_wp2
      go_ret
      exact ⟨rfl, HK0.out.trans hk5⟩

set_option maxRecDepth 100000 in
set_option maxHeartbeats 4000000 in
theorem cellsOnce_none (n : Int) (a : Option Addr) (cap : Nat) (w : World) (w0 : 0 ≤ n ∧ n ≤ 255) (hmost : cap ≤ maxLen) :
    Calls Try.prog 7 #[.int .u8 n, .slice a 0 cap] w fun e w' => e = .returned (.bool true) ∧ Kept w w' := by
  obtain ⟨N, hN⟩ := Int.eq_ofNat_of_zero_le (show 0 ≤ 1 + n % 20 by omega)
  have hN1 : 1 ≤ N := by omega
  have hN2 : N ≤ 20 := by omega
  have hmk := fun w => make_one (P := Try.prog) (t := 42) (e := 2) (z := .int .i64 0) (v := .int .i64 0) (bytes := 8) Try.underlying42 (by kernel_rfl) rfl .i64 N (by omega) (by omega) w
  have hsl : ∀ w : World, (Instr.slice 37 (.slice a 0 cap) none (some (.int .i64 0)) none).run Try.prog w = .ok (.slice a 0 cap) w := fun w => run_take (P := Try.prog) Try.underlying37 (size := 5) (by kernel_rfl) a 0 cap 0 (by omega) w
  unfold maxLen at hmost
  go_enter Try.func7, Try.ntmps7
  go_wp2_with fail
  refine (New_ok N _ (by omega)).mono ?_
  rintro e w1 ⟨bb, g, rfl, hB, hbb, hg, hk⟩
  have HK := Lib.hid hk
  clear hB hk
  go_wp2_with fail
  go_loop [34] (fun x => x = .int .i64 0) (fun _ => 0)
  case atStart => rfl
  case round =>
    subst hrel
    go_wp2_with fail
    refine (awake_any _).mono ?_
    rintro e w5 ⟨rfl, hk5⟩
    go_wp2
    go_ret
    exact ⟨rfl, (HK.out.alloc _).trans hk5⟩

theorem cellsOnce_walk (n : Int) (a : Option Addr) (cap : Nat) (els : List (List Value)) (w : World) (w0 : (Lit.int .u8 n).wf = true) (h : FlatRow [some .u8, some .i64, some .i64, some .i64, none] w a cap els) (_hf : ∀ x ∈ els, fits [some .u8, some .i64, some .i64, some .i64, none] x) :
    Calls Try.prog 7 #[.int .u8 n, .slice a els.length cap] w fun e w' => e = .returned (.bool true) ∧ Kept w w' := by
  rcases h.cells with h0 | ⟨b, off, rfl, hc⟩
  · rw [h0]
    exact cellsOnce_none n a cap w (bounds_u8 w0) h.most
  · exact cellsOnce_some n b off cap els w (bounds_u8 w0) h.le h.most hc h.fit
end Go.Proofs.Ytnffnpolkkgnhaa
