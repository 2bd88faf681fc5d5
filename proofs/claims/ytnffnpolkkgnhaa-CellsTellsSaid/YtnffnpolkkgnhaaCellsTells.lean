/- The law CellsTells. -/
import Derived.Test.YtnffnpolkkgnhaaAwake10
import Derived.Test.YtnffnpolkkgnhaaOpen
import Derived.Test.YtnffnpolkkgnhaaRefBank
import Derived.Test.YtnffnpolkkgnhaaCellsOnce
import Derived.Deep.RegionHeld3
namespace Go.Proofs.Ytnffnpolkkgnhaa
set_option linter.unusedVariables false
open Go.RowKit

theorem op_of {e : List Value} (hf : fits [some .u8, some .i64, some .i64, some .i64, none] e) : ∃ what at_ v0 old right, e = [.int .u8 what, .int .i64 at_, .int .i64 v0, .int .i64 old, .bool right] ∧ 0 ≤ what ∧ what ≤ 255 := by
  obtain ⟨x1, u1, e1, h1, f1⟩ := fits_int hf
  obtain ⟨x2, u2, e2, _, f2⟩ := fits_int f1
  obtain ⟨x3, u3, e3, _, f3⟩ := fits_int f2
  obtain ⟨x4, u4, e4, _, f4⟩ := fits_int f3
  obtain ⟨x5, u5, e5, f5⟩ := fits_bool f4
  exact ⟨x1, x2, x3, x4, x5, by rw [e1, e2, e3, e4, e5, fits_nil f5], (bounds_u8 h1).1, (bounds_u8 h1).2⟩
theorem bget_bput (xs : List Int) (i v : Int) : bget (bput xs i v) i = (if 0 ≤ i ∧ i < xs.length then v else 0) := by
  by_cases h : 0 ≤ i ∧ i < xs.length
  · rw [if_pos h, bget_in h.1, bput_in _ h.1]
    have : i.toNat < xs.length := by omega
    simp [this]
  · rw [if_neg h, bput_out _ h, bget_out h]
theorem rb_ne {w : World} {gm cap bb g : Nat} {xs ys : List Int} (h : RB w gm cap xs) (hb : Bnk w bb g ys) : ¬ gm = g := by
  intro e
  subst e
  rcases h.2 with ⟨h1, _⟩ | ⟨g', cap', cur, hv, _, hh, _⟩
  · cases h1
  · cases hv
    have := hh.symm.trans hb.row
    simp at this
theorem op_ne {w : World} {ob bb g : Nat} {arr : Array Value} {ys : List Int} (h : Blk w ob arr 45) (hb : Bnk w bb g ys) : ¬ ob = g := by
  intro e
  subst e
  have := (h.same hb.row).2
  simp at this
theorem refLoadN {g cap N : Nat} {xs : List Int} {w : World} (hr : RB w g cap xs) (hN : xs.length = N) (i : Int) (hm : N ≤ 1000000) :
    Calls Try.prog 21 #[.slice (some ⟨g, 0, none⟩) N cap, .int .i64 i] w fun e w' => e = .returned (.int .i64 (bget xs i)) ∧ w = w' := by
  subst hN; exact refLoad_any hr i hm
theorem refLoadIs {g cap N : Nat} {xs : List Int} {w : World} (hr : RB w g cap xs) (hN : xs.length = N) (i r : Int) (hm : N ≤ 1000000) (h : bget xs i = r) :
    Calls Try.prog 21 #[.slice (some ⟨g, 0, none⟩) N cap, .int .i64 i] w fun e w' => e = .returned (.int .i64 r) ∧ w = w' := by
  subst hN h; exact refLoad_any hr i hm
def PutN (N : Nat) (xs : List Int) (w : World) (e : Ending) (w' : World) : Prop := ∃ g cap, e = .returned (.slice (some ⟨g, 0, none⟩) N cap) ∧ RB w' g cap xs ∧ w.heap.size ≤ g ∧ Kept w w'
theorem refPutN {g cap N : Nat} {xs : List Int} {w : World} (hr : RB w g cap xs) (hN : xs.length = N) (i v : Int) (hm : N ≤ 1000000) :
    Calls Try.prog 24 #[.slice (some ⟨g, 0, none⟩) N cap, .int .i64 i, .int .i64 v] w (PutN N (bput xs i v) w) := by
  subst hN
  refine (refPut_any hr i v hm).mono fun e w' ⟨g', c', h1, h2⟩ => ⟨g', c', ?_, h2⟩
  rw [h1, length_bput]
theorem refIsN_yes (g cap : Nat) {N : Nat} {xs : List Int} (hN : xs.length = N) (i : Int) (w : World) (hm : N ≤ 1000000) (h : 0 ≤ i ∧ i < xs.length) :
    Calls Try.prog 26 #[.slice (some ⟨g, 0, none⟩) N cap, .int .i64 i] w fun e w' => e = .returned (.bool true) ∧ w = w' := by
  subst hN; exact refIs_yes g cap xs i w hm h
theorem refIsN_no (g cap : Nat) {N : Nat} {xs : List Int} (hN : xs.length = N) (i : Int) (w : World) (hm : N ≤ 1000000) (h : ¬ (0 ≤ i ∧ i < xs.length)) :
    Calls Try.prog 26 #[.slice (some ⟨g, 0, none⟩) N cap, .int .i64 i] w fun e w' => e = .returned (.bool false) ∧ w = w' := by
  subst hN; exact refIs_no g cap xs i w hm h

set_option maxRecDepth 100000 in
set_option maxHeartbeats 16000000 in
theorem cellsTells_some (N : Nat) (b off cap0 : Nat) (els : List (List Value)) (w : World) (hN : N ≤ 40) (hle : els.length ≤ cap0) (hmost : cap0 ≤ maxLen)
    (hcells : ∀ i (h : i < els.length) j v, els[i][j]? = some v → w.cell? ⟨b, off + i * 5 + j, none⟩ = some v) (hfit : ∀ e ∈ els, fits [some .u8, some .i64, some .i64, some .i64, none] e) :
    Calls Try.prog 5 #[.int .i64 N, .slice (some ⟨b, off, none⟩) els.length cap0] w fun e w' => e = .returned (.bool true) ∧ Kept w w' := by
  obtain ⟨M, hM⟩ : ∃ M, M = min els.length 100 := ⟨_, rfl⟩
  have hM1 : M ≤ els.length := by omega
  have hM2 : M ≤ 100 := by omega
  have hmk := fun w => make_one (P := Try.prog) (t := 43) (e := 2) (z := .int .i64 0) (v := .int .i64 0) (bytes := 8) Try.underlying43 (by kernel_rfl) rfl .i64 N (by omega) (by omega) w
  have hsl := fun w => run_take (P := Try.prog) Try.underlying37 (size := 5) (by kernel_rfl) (some ⟨b, off, none⟩) els.length cap0 M (by omega) w
  have hif1 : (if (100 : Int) < (els.length : Int) then (100 : Int) else (els.length : Int)) = (M : Int) := by split <;> omega
  have hif2 : (if 100 < els.length then (100 : Int) else (els.length : Int)) = (M : Int) := by split <;> omega
  unfold maxLen at hmost
  have HC := Lib.hid hcells
  have HF := Lib.hid hfit
  have HM := Lib.hid hM
  clear hcells hfit hM
  go_enter Try.func5, Try.ntmps5
  go_wp2_with fail
  refine (New_ok N _ (by omega)).mono ?_
  rintro e w1 ⟨bb, g, rfl, hB, hbb, hg, hk⟩
  have HB := Lib.hid hB
  have HK := Lib.hid hk
  clear hB hk
  go_wp2_with fail
  refine (Len_bank HB.out).mono ?_
  rintro e w' ⟨rfl, rfl⟩
  rw [List.length_replicate]
  go_wp2_with fail
  have hg1 : g < w1.heap.size := HB.out.row.lt
  have hwh : w.heap.size ≤ w1.heap.size := HK.out.size
  go_loopw [7, 54] (fun y x wr => ∃ (k : Nat) (xs : List Int) (gm cap : Nat), x = .int .i64 k ∧ k ≤ M ∧ y = .slice (some ⟨gm, 0, none⟩) N cap ∧ Hid (xs.length = N) ∧ Hid (RB wr gm cap xs) ∧ Hid (Bnk wr bb g xs) ∧ Hid (Kept w wr)) (fun _ x _ => M - (intOf x).toNat)
  case atStart =>
    refine ⟨0, List.replicate N 0, w1.heap.size, N, rfl, by omega, rfl, Lib.hid (by simp), ?_, Lib.hid (HB.out.kept ((Upd.refl _ _).alloc _)), Lib.hid (HK.out.alloc _)⟩
    apply Lib.hid
    have := World.ownsRow_lit (base := 0) (e := 2) (size := 1) w1 (zeros N (.int .i64 0)) N (Nat.zero_le _) (by unfold maxLen; omega) (by simp [zeros])
    unfold RB
    rw [List.length_replicate]
    rw [zeros_ints] at this
    rw [zeros_ints]
    exact this
  case round =>
    obtain ⟨k, xs, gm, cap, rfl, hk, rfl, HX, HR0, HB0, HK0⟩ := hrel
    clear HB HK
    by_cases hlt : k < M
    · obtain ⟨what, at_, v0, old, right, hel, hw0, hw1⟩ := op_of (HF.out (els[k]'(by omega)) (List.getElem_mem _))
      have hc := fun j v (h : (els[k]'(by omega))[j]? = some v) => (HK0.out.cells _ (by rw [HC.out k (by omega) j v h]; rfl) (fun f => f)).trans (HC.out k (by omega) j v h)
      rw [hel] at hc
      have c0 : wr.cell? ⟨b, off + k * 5, none⟩ = some (.int .u8 what) := hc 0 _ rfl
      have c1 : wr.cell? ⟨b, off + k * 5 + 1, none⟩ = some (.int .i64 at_) := hc 1 _ rfl
      have c2 : wr.cell? ⟨b, off + k * 5 + 2, none⟩ = some (.int .i64 v0) := hc 2 _ rfl
      have c3 : wr.cell? ⟨b, off + k * 5 + 3, none⟩ = some (.int .i64 old) := hc 3 _ rfl
      have c4 : wr.cell? ⟨b, off + k * 5 + 4, none⟩ = some (.bool right) := hc 4 _ rfl
      clear hc hel
      have HO := Lib.hid (Blk.new wr #[.int .u8 what, .int .i64 at_, .int .i64 v0, .int .i64 old, .bool right] 45)
      have HB := Lib.hid (HB0.out.kept ((Upd.refl _ _).alloc (.cells #[.int .u8 what, .int .i64 at_, .int .i64 v0, .int .i64 old, .bool right] 45)))
      have HR := Lib.hid (HR0.out.kept ((Upd.refl _ _).alloc (.cells #[.int .u8 what, .int .i64 at_, .int .i64 v0, .int .i64 old, .bool right] 45)))
      have HK := Lib.hid (HK0.out.alloc (.cells #[.int .u8 what, .int .i64 at_, .int .i64 v0, .int .i64 old, .bool right] 45))
      clear HB0 HR0 HK0
      go_wp2_with fail
      refine (refLoadN HR.out HX.out at_ (by omega)).mono ?_
      rintro e w1 ⟨rfl, hww⟩
      obtain ⟨ob, hob⟩ : ∃ ob, ob = wr.heap.size := ⟨_, rfl⟩
      rw [hww] at HO HB HR HK
      rw [← hob] at HO
      rw [← hob]
      have HO1 := HO
      have HB1 := HB
      have HR1 := HR
      have HK1 := HK
      have ho1 := HO1.out.cell
      clear hob hww HO HB HR HK c0 c1 c2 c3 c4
      by_cases q0 : what % 4 = 0
      · have q0b : (what % 4 == 0) = true := by simpa using q0
        clear q0
        go_wp2_with fail
        refine (Load_bank HB1.out at_).mono ?_
        rintro e w' ⟨rfl, rfl⟩
        obtain ⟨ys, hys⟩ : ∃ ys, ys = xs := ⟨_, rfl⟩
        obtain ⟨gn, hgn⟩ : ∃ gn, gn = gm := ⟨_, rfl⟩
        obtain ⟨capn, hcn⟩ : ∃ c, c = cap := ⟨_, rfl⟩
        have HY : Hid (ys.length = N) := Lib.hid (by rw [hys]; exact HX.out)
        rw [← hys] at HB1 HR1
        rw [← hgn, ← hcn] at HR1
        rw [← hgn, ← hcn]
        clear hys hgn hcn HX
        clear ho1 HO1
        go_wp2_with fail
        refine (All_bank HB1.out).mono ?_
        rintro e w6 ⟨_, rfl, ⟨g3, rfl, hI, hg3⟩, hk⟩
        have HI := Lib.hid hI
        have HB9 := Lib.hid (HB1.out.kept hk)
        have HR9 := Lib.hid (HR1.out.kept hk)
        have HK9 := Lib.hid (HK1.out.trans hk)
        have hln : ys.length = N := HY.out
        rw [hln]
        clear hln hI hk HB1 HR1 HK1
        go_wp2_with fail
        go_loopw [146] (fun x wq => ∃ j : Nat, x = .int .i64 j ∧ j ≤ N ∧ Hid (Blk wq g3 (ys.map (Value.int .i64)).toArray 2) ∧ Hid (RB wq gn capn ys) ∧ Hid (Bnk wq bb g ys) ∧ Hid (Kept w wq)) (fun x _ => N - (intOf x).toNat)
        case atStart => exact ⟨0, rfl, by omega, HI, HR9, HB9, HK9⟩
        case round =>
          obtain ⟨j, rfl, hj, HI1, HR1, HB1, HK1⟩ := hrel
          clear HI HR9 HB9 HK9
          by_cases hlt2 : j < N
          · have hjy : j < ys.length := by have := HY.out; omega
            have c1 : wr.cell? ⟨g3, j, none⟩ = some (.int .i64 (ys.getD j 0)) := by rw [HI1.out.cell]; simp [hjy]
            have c2 : wr.cell? ⟨gn, j, none⟩ = some (.int .i64 (ys.getD j 0)) := HR1.out.cell hjy
            generalize ys.getD j 0 = z at c1 c2
            have j0 : (0 : Int) ≤ (j : Int) := by omega
            have j1 : (j : Int) < (N : Int) := by omega
            clear hjy
            go_wp2_with fail
            go_quiet (fail)
            have HI2 : Hid (Blk (wr.drewN nq) g3 (ys.map (Value.int .i64)).toArray 2) := HI1
            have HR2 : Hid (RB (wr.drewN nq) gn capn ys) := HR1
            have HB2 : Hid (Bnk (wr.drewN nq) bb g ys) := Lib.hid (HB1.out.kept ⟨rfl, rfl, rfl, Nat.le_refl _, fun _ _ _ => rfl⟩)
            have HK2 : Hid (Kept w (wr.drewN nq)) := Lib.hid (HK1.out.trans ⟨rfl, rfl, rfl, Nat.le_refl _, fun _ _ _ => rfl⟩)
            clear HI1 HR1 HB1 HK1
            go_wp2_with fail
            go_roundw
            case rel => exact ⟨j + 1, by go_num, by omega, HI2, HR2, HB2, HK2⟩
            case measure => simp [intOf]; omega
          · go_wp2_with fail
            go_roundw
            case rel => exact ⟨k + 1, ys, gn, capn, by go_num, by omega, rfl, HY, HR1, HB1, HK1⟩
            case measure => simp [intOf]; omega
      · have q0b : (what % 4 == 0) = false := by simpa using q0
        by_cases q1 : what % 4 = 1
        · have q1b : (what % 4 == 1) = true := by simpa using q1
          clear q0 q1
          go_wp2_with fail
          refine (Store_is HB1.out at_ v0 _ rfl).mono ?_
          rintro e w2 ⟨rfl, hB, hU⟩
          have hgb := rb_ne HR1.out HB1.out
          have hob := op_ne HO1.out HB1.out
          have HR2 := Lib.hid (HR1.out.upd hU hgb)
          have HO2 := Lib.hid (HO1.out.upd hU hob)
          have HK2 := Lib.hid (HK1.out.then hU (fun i h e => by omega))
          have HB2 := Lib.hid hB
          have ho2 := HO2.out.cell
          clear hgb hob hU hB HB1 HR1 HO1 HK1 ho1
          go_wp2_with fail
          refine (refPutN HR2.out HX.out at_ v0 (by omega)).mono ?_
          rintro e w3 ⟨gn, capn, rfl, hR3, hgn, hk⟩
          have HR3 := Lib.hid hR3
          have HB3 := Lib.hid (HB2.out.kept hk)
          have HO3 := Lib.hid (HO2.out.kept hk)
          have HK3 := Lib.hid (HK2.out.trans hk)
          have ho3 := HO3.out.cell
          clear hk hR3 HB2 HR2 HO2 HK2 ho2
          have HY : Hid ((bput xs at_ v0).length = N) := Lib.hid (by rw [length_bput]; exact HX.out)
          generalize bput xs at_ v0 = ys at HB3 HR3 HY
          clear HX
          clear ho3 HO3
          go_wp2_with fail
          refine (All_bank HB3.out).mono ?_
          rintro e w6 ⟨_, rfl, ⟨g3, rfl, hI, hg3⟩, hk⟩
          have HI := Lib.hid hI
          have HB9 := Lib.hid (HB3.out.kept hk)
          have HR9 := Lib.hid (HR3.out.kept hk)
          have HK9 := Lib.hid (HK3.out.trans hk)
          have hln : ys.length = N := HY.out
          rw [hln]
          clear hln hI hk HB3 HR3 HK3
          go_wp2_with fail
          go_loopw [146] (fun x wq => ∃ j : Nat, x = .int .i64 j ∧ j ≤ N ∧ Hid (Blk wq g3 (ys.map (Value.int .i64)).toArray 2) ∧ Hid (RB wq gn capn ys) ∧ Hid (Bnk wq bb g ys) ∧ Hid (Kept w wq)) (fun x _ => N - (intOf x).toNat)
          case atStart => exact ⟨0, rfl, by omega, HI, HR9, HB9, HK9⟩
          case round =>
            obtain ⟨j, rfl, hj, HI1, HR1, HB1, HK1⟩ := hrel
            clear HI HR9 HB9 HK9
            by_cases hlt2 : j < N
            · have hjy : j < ys.length := by have := HY.out; omega
              have c1 : wr.cell? ⟨g3, j, none⟩ = some (.int .i64 (ys.getD j 0)) := by rw [HI1.out.cell]; simp [hjy]
              have c2 : wr.cell? ⟨gn, j, none⟩ = some (.int .i64 (ys.getD j 0)) := HR1.out.cell hjy
              generalize ys.getD j 0 = z at c1 c2
              have j0 : (0 : Int) ≤ (j : Int) := by omega
              have j1 : (j : Int) < (N : Int) := by omega
              clear hjy
              go_wp2_with fail
              go_quiet (fail)
              have HI2 : Hid (Blk (wr.drewN nq) g3 (ys.map (Value.int .i64)).toArray 2) := HI1
              have HR2 : Hid (RB (wr.drewN nq) gn capn ys) := HR1
              have HB2 : Hid (Bnk (wr.drewN nq) bb g ys) := Lib.hid (HB1.out.kept ⟨rfl, rfl, rfl, Nat.le_refl _, fun _ _ _ => rfl⟩)
              have HK2 : Hid (Kept w (wr.drewN nq)) := Lib.hid (HK1.out.trans ⟨rfl, rfl, rfl, Nat.le_refl _, fun _ _ _ => rfl⟩)
              clear HI1 HR1 HB1 HK1
              go_wp2_with fail
              go_roundw
              case rel => exact ⟨j + 1, by go_num, by omega, HI2, HR2, HB2, HK2⟩
              case measure => simp [intOf]; omega
            · go_wp2_with fail
              go_roundw
              case rel => exact ⟨k + 1, ys, gn, capn, by go_num, by omega, rfl, HY, HR1, HB1, HK1⟩
              case measure => simp [intOf]; omega
        · have q1b : (what % 4 == 1) = false := by simpa using q1
          by_cases q2 : what % 4 = 2
          · have q2b : (what % 4 == 2) = true := by simpa using q2
            clear q0 q1 q2
            have hrv : bget (bput xs at_ (wrap64 (bget xs at_ + v0))) at_ = (if 0 ≤ at_ ∧ at_ < xs.length then wrap64 (bget xs at_ + v0) else 0) := bget_bput xs at_ _
            obtain ⟨r, hr⟩ : ∃ r, r = (if 0 ≤ at_ ∧ at_ < xs.length then wrap64 (bget xs at_ + v0) else 0) := ⟨_, rfl⟩
            have HV := Lib.hid (hrv.trans hr.symm)
            have HVA := Lib.hid hr.symm
            clear hrv hr
            go_wp2_with fail
            refine (refPutN HR1.out HX.out at_ (wrap64 (bget xs at_ + v0)) (by omega)).mono ?_
            rintro e w2 ⟨gn, capn, rfl, hR2, hgn, hk⟩
            have HR2 := Lib.hid hR2
            have HB2 := Lib.hid (HB1.out.kept hk)
            have HO2 := Lib.hid (HO1.out.kept hk)
            have HK2 := Lib.hid (HK1.out.trans hk)
            have ho2 := HO2.out.cell
            clear hk hR2 HB1 HR1 HO1 HK1 ho1
            have HY : Hid ((bput xs at_ (wrap64 (bget xs at_ + v0))).length = N) := Lib.hid (by rw [length_bput]; exact HX.out)
            have ca : w2.cell? ⟨ob, 1, none⟩ = some (.int .i64 at_) := by rw [ho2]; rfl
            have cv : w2.cell? ⟨ob, 2, none⟩ = some (.int .i64 v0) := by rw [ho2]; rfl
            clear ho2
            go_wp2_with fail
            go_region_held3 (fun w' => w'.cell? ⟨ob, 1, none⟩ = some (.int .i64 at_) ∧ w'.cell? ⟨ob, 2, none⟩ = some (.int .i64 v0))
              (first | exact ⟨ca, cv⟩ | exact ⟨ca3, cv3⟩)
              ((first
                | (go_at_call 25; refine (Add_is (HB2.out.kept (Upd.refl _ _).drew) at_ v0 r _ HVA.out rfl).mono ?_; rintro e w3 ⟨rfl, hB, hU⟩; have hob := op_ne HO2.out HB2.out; have hgb := rb_ne HR2.out HB2.out; have HO3 := Lib.hid ((HO2.out.kept (Upd.refl _ _).drew).upd hU hob); have HR3 := Lib.hid ((HR2.out.kept (Upd.refl _ _).drew).upd hU hgb); have HK3 := Lib.hid ((HK2.out.drew).then hU (fun i h e => by omega)); have HB3 := Lib.hid hB; have ca3 : w3.cell? ⟨ob, 1, none⟩ = some (.int .i64 at_) := (HO3.out.cell 1); have cv3 : w3.cell? ⟨ob, 2, none⟩ = some (.int .i64 v0) := (HO3.out.cell 2); clear hB hU hob hgb)
                | (go_at_call 21; refine (refLoadIs HR3.out HY.out at_ r (by omega) HV.out).mono ?_; rintro e w' ⟨rfl, rfl⟩)))
            have ho3 := HO3.out.cell
            generalize bput xs at_ (wrap64 (bget xs at_ + v0)) = ys at HB3 HR3 HY
            clear HV HVA HX ca cv ca3 cv3 HB2 HR2 HO2 HK2
            clear ho3 HO3
            go_wp2_with fail
            refine (All_bank HB3.out).mono ?_
            rintro e w6 ⟨_, rfl, ⟨g3, rfl, hI, hg3⟩, hk⟩
            have HI := Lib.hid hI
            have HB9 := Lib.hid (HB3.out.kept hk)
            have HR9 := Lib.hid (HR3.out.kept hk)
            have HK9 := Lib.hid (HK3.out.trans hk)
            have hln : ys.length = N := HY.out
            rw [hln]
            clear hln hI hk HB3 HR3 HK3
            go_wp2_with fail
            go_loopw [146] (fun x wq => ∃ j : Nat, x = .int .i64 j ∧ j ≤ N ∧ Hid (Blk wq g3 (ys.map (Value.int .i64)).toArray 2) ∧ Hid (RB wq gn capn ys) ∧ Hid (Bnk wq bb g ys) ∧ Hid (Kept w wq)) (fun x _ => N - (intOf x).toNat)
            case atStart => exact ⟨0, rfl, by omega, HI, HR9, HB9, HK9⟩
            case round =>
              obtain ⟨j, rfl, hj, HI1, HR1, HB1, HK1⟩ := hrel
              clear HI HR9 HB9 HK9
              by_cases hlt2 : j < N
              · have hjy : j < ys.length := by have := HY.out; omega
                have c1 : wr.cell? ⟨g3, j, none⟩ = some (.int .i64 (ys.getD j 0)) := by rw [HI1.out.cell]; simp [hjy]
                have c2 : wr.cell? ⟨gn, j, none⟩ = some (.int .i64 (ys.getD j 0)) := HR1.out.cell hjy
                generalize ys.getD j 0 = z at c1 c2
                have j0 : (0 : Int) ≤ (j : Int) := by omega
                have j1 : (j : Int) < (N : Int) := by omega
                clear hjy
                go_wp2_with fail
                go_quiet (fail)
                have HI2 : Hid (Blk (wr.drewN nq) g3 (ys.map (Value.int .i64)).toArray 2) := HI1
                have HR2 : Hid (RB (wr.drewN nq) gn capn ys) := HR1
                have HB2 : Hid (Bnk (wr.drewN nq) bb g ys) := Lib.hid (HB1.out.kept ⟨rfl, rfl, rfl, Nat.le_refl _, fun _ _ _ => rfl⟩)
                have HK2 : Hid (Kept w (wr.drewN nq)) := Lib.hid (HK1.out.trans ⟨rfl, rfl, rfl, Nat.le_refl _, fun _ _ _ => rfl⟩)
                clear HI1 HR1 HB1 HK1
                go_wp2_with fail
                go_roundw
                case rel => exact ⟨j + 1, by go_num, by omega, HI2, HR2, HB2, HK2⟩
                case measure => simp [intOf]; omega
              · go_wp2_with fail
                go_roundw
                case rel => exact ⟨k + 1, ys, gn, capn, by go_num, by omega, rfl, HY, HR1, HB1, HK1⟩
                case measure => simp [intOf]; omega
          · have q2b : (what % 4 == 2) = false := by simpa using q2
            clear q0 q1 q2
            cases right
            · by_cases hin : 0 ≤ at_ ∧ at_ < xs.length
              · by_cases he : bget xs at_ = old
                · have HE := Lib.hid he
                  have heb : (bget xs at_ == old) = true := by simpa using he
                  clear he
                  go_wp2_with fail
                  refine (refIsN_yes gm cap HX.out at_ _ (by omega) hin).mono ?_
                  rintro e w' ⟨rfl, rfl⟩
                  go_wp2_with fail
                  refine (refPutN HR1.out HX.out at_ v0 (by omega)).mono ?_
                  rintro e w2 ⟨gn, capn, rfl, hR2, hgn, hk⟩
                  have HR2 := Lib.hid hR2
                  have HB2 := Lib.hid (HB1.out.kept hk)
                  have HO2 := Lib.hid (HO1.out.kept hk)
                  have HK2 := Lib.hid (HK1.out.trans hk)
                  have ho2 := HO2.out.cell
                  clear hk hR2 HB1 HR1 HO1 HK1 ho1
                  go_wp2_with fail
                  refine (CAS_is HB2.out at_ _ v0 true (bput xs at_ v0) (decide_eq_true ⟨hin, HE.out⟩) (if_pos HE.out)).mono ?_
                  rintro e w3 ⟨rfl, hB, hU⟩
                  have hgb := rb_ne HR2.out HB2.out
                  have hob := op_ne HO2.out HB2.out
                  have HR3 := Lib.hid (HR2.out.upd hU hgb)
                  have HO3 := Lib.hid (HO2.out.upd hU hob)
                  have HK3 := Lib.hid (HK2.out.then hU (fun i h e => by omega))
                  have HB3 := Lib.hid hB
                  have ho3 := HO3.out.cell
                  clear hgb hob hU hB HB2 HR2 HO2 HK2 ho2
                  have HY : Hid ((bput xs at_ v0).length = N) := Lib.hid (by rw [length_bput]; exact HX.out)
                  generalize bput xs at_ v0 = ys at HB3 HR3 HY
                  clear HX
                  clear ho3 HO3
                  go_wp2_with fail
                  refine (All_bank HB3.out).mono ?_
                  rintro e w6 ⟨_, rfl, ⟨g3, rfl, hI, hg3⟩, hk⟩
                  have HI := Lib.hid hI
                  have HB9 := Lib.hid (HB3.out.kept hk)
                  have HR9 := Lib.hid (HR3.out.kept hk)
                  have HK9 := Lib.hid (HK3.out.trans hk)
                  have hln : ys.length = N := HY.out
                  rw [hln]
                  clear hln hI hk HB3 HR3 HK3
                  go_wp2_with fail
                  go_loopw [146] (fun x wq => ∃ j : Nat, x = .int .i64 j ∧ j ≤ N ∧ Hid (Blk wq g3 (ys.map (Value.int .i64)).toArray 2) ∧ Hid (RB wq gn capn ys) ∧ Hid (Bnk wq bb g ys) ∧ Hid (Kept w wq)) (fun x _ => N - (intOf x).toNat)
                  case atStart => exact ⟨0, rfl, by omega, HI, HR9, HB9, HK9⟩
                  case round =>
                    obtain ⟨j, rfl, hj, HI1, HR1, HB1, HK1⟩ := hrel
                    clear HI HR9 HB9 HK9
                    by_cases hlt2 : j < N
                    · have hjy : j < ys.length := by have := HY.out; omega
                      have c1 : wr.cell? ⟨g3, j, none⟩ = some (.int .i64 (ys.getD j 0)) := by rw [HI1.out.cell]; simp [hjy]
                      have c2 : wr.cell? ⟨gn, j, none⟩ = some (.int .i64 (ys.getD j 0)) := HR1.out.cell hjy
                      generalize ys.getD j 0 = z at c1 c2
                      have j0 : (0 : Int) ≤ (j : Int) := by omega
                      have j1 : (j : Int) < (N : Int) := by omega
                      clear hjy
                      go_wp2_with fail
                      go_quiet (fail)
                      have HI2 : Hid (Blk (wr.drewN nq) g3 (ys.map (Value.int .i64)).toArray 2) := HI1
                      have HR2 : Hid (RB (wr.drewN nq) gn capn ys) := HR1
                      have HB2 : Hid (Bnk (wr.drewN nq) bb g ys) := Lib.hid (HB1.out.kept ⟨rfl, rfl, rfl, Nat.le_refl _, fun _ _ _ => rfl⟩)
                      have HK2 : Hid (Kept w (wr.drewN nq)) := Lib.hid (HK1.out.trans ⟨rfl, rfl, rfl, Nat.le_refl _, fun _ _ _ => rfl⟩)
                      clear HI1 HR1 HB1 HK1
                      go_wp2_with fail
                      go_roundw
                      case rel => exact ⟨j + 1, by go_num, by omega, HI2, HR2, HB2, HK2⟩
                      case measure => simp [intOf]; omega
                    · go_wp2_with fail
                      go_roundw
                      case rel => exact ⟨k + 1, ys, gn, capn, by go_num, by omega, rfl, HY, HR1, HB1, HK1⟩
                      case measure => simp [intOf]; omega
                · have HE := Lib.hid he
                  have heb : (bget xs at_ == old) = false := by simpa using he
                  clear he
                  go_wp2_with fail
                  refine (refIsN_yes gm cap HX.out at_ _ (by omega) hin).mono ?_
                  rintro e w' ⟨rfl, rfl⟩
                  go_wp2_with fail
                  refine (CAS_is HB1.out at_ _ v0 false xs (decide_eq_false fun h => HE.out h.2) (if_neg HE.out)).mono ?_
                  rintro e w3 ⟨rfl, hB, hU⟩
                  have hgb := rb_ne HR1.out HB1.out
                  have hob := op_ne HO1.out HB1.out
                  have HR3 := Lib.hid (HR1.out.upd hU hgb)
                  have HO3 := Lib.hid (HO1.out.upd hU hob)
                  have HK3 := Lib.hid (HK1.out.then hU (fun i h e => by omega))
                  have HB3 := Lib.hid hB
                  have ho3 := HO3.out.cell
                  clear hgb hob hU hB HB1 HR1 HO1 HK1 ho1
                  obtain ⟨ys, hys⟩ : ∃ ys, ys = xs := ⟨_, rfl⟩
                  obtain ⟨gn, hgn⟩ : ∃ gn, gn = gm := ⟨_, rfl⟩
                  obtain ⟨capn, hcn⟩ : ∃ c, c = cap := ⟨_, rfl⟩
                  have HY : Hid (ys.length = N) := Lib.hid (by rw [hys]; exact HX.out)
                  rw [← hys] at HB3 HR3
                  rw [← hgn, ← hcn] at HR3
                  rw [← hgn, ← hcn]
                  clear hys hgn hcn HX
                  clear ho3 HO3
                  go_wp2_with fail
                  refine (All_bank HB3.out).mono ?_
                  rintro e w6 ⟨_, rfl, ⟨g3, rfl, hI, hg3⟩, hk⟩
                  have HI := Lib.hid hI
                  have HB9 := Lib.hid (HB3.out.kept hk)
                  have HR9 := Lib.hid (HR3.out.kept hk)
                  have HK9 := Lib.hid (HK3.out.trans hk)
                  have hln : ys.length = N := HY.out
                  rw [hln]
                  clear hln hI hk HB3 HR3 HK3
                  go_wp2_with fail
                  go_loopw [146] (fun x wq => ∃ j : Nat, x = .int .i64 j ∧ j ≤ N ∧ Hid (Blk wq g3 (ys.map (Value.int .i64)).toArray 2) ∧ Hid (RB wq gn capn ys) ∧ Hid (Bnk wq bb g ys) ∧ Hid (Kept w wq)) (fun x _ => N - (intOf x).toNat)
                  case atStart => exact ⟨0, rfl, by omega, HI, HR9, HB9, HK9⟩
                  case round =>
                    obtain ⟨j, rfl, hj, HI1, HR1, HB1, HK1⟩ := hrel
                    clear HI HR9 HB9 HK9
                    by_cases hlt2 : j < N
                    · have hjy : j < ys.length := by have := HY.out; omega
                      have c1 : wr.cell? ⟨g3, j, none⟩ = some (.int .i64 (ys.getD j 0)) := by rw [HI1.out.cell]; simp [hjy]
                      have c2 : wr.cell? ⟨gn, j, none⟩ = some (.int .i64 (ys.getD j 0)) := HR1.out.cell hjy
                      generalize ys.getD j 0 = z at c1 c2
                      have j0 : (0 : Int) ≤ (j : Int) := by omega
                      have j1 : (j : Int) < (N : Int) := by omega
                      clear hjy
                      go_wp2_with fail
                      go_quiet (fail)
                      have HI2 : Hid (Blk (wr.drewN nq) g3 (ys.map (Value.int .i64)).toArray 2) := HI1
                      have HR2 : Hid (RB (wr.drewN nq) gn capn ys) := HR1
                      have HB2 : Hid (Bnk (wr.drewN nq) bb g ys) := Lib.hid (HB1.out.kept ⟨rfl, rfl, rfl, Nat.le_refl _, fun _ _ _ => rfl⟩)
                      have HK2 : Hid (Kept w (wr.drewN nq)) := Lib.hid (HK1.out.trans ⟨rfl, rfl, rfl, Nat.le_refl _, fun _ _ _ => rfl⟩)
                      clear HI1 HR1 HB1 HK1
                      go_wp2_with fail
                      go_roundw
                      case rel => exact ⟨j + 1, by go_num, by omega, HI2, HR2, HB2, HK2⟩
                      case measure => simp [intOf]; omega
                    · go_wp2_with fail
                      go_roundw
                      case rel => exact ⟨k + 1, ys, gn, capn, by go_num, by omega, rfl, HY, HR1, HB1, HK1⟩
                      case measure => simp [intOf]; omega
              ·
                go_wp2_with fail
                refine (refIsN_no gm cap HX.out at_ _ (by omega) hin).mono ?_
                rintro e w' ⟨rfl, rfl⟩
                go_wp2_with fail
                refine (CAS_is HB1.out at_ _ v0 false xs (decide_eq_false fun h => hin h.1) (by rw [bput_out _ hin, ite_self])).mono ?_
                rintro e w3 ⟨rfl, hB, hU⟩
                have hgb := rb_ne HR1.out HB1.out
                have hob := op_ne HO1.out HB1.out
                have HR3 := Lib.hid (HR1.out.upd hU hgb)
                have HO3 := Lib.hid (HO1.out.upd hU hob)
                have HK3 := Lib.hid (HK1.out.then hU (fun i h e => by omega))
                have HB3 := Lib.hid hB
                have ho3 := HO3.out.cell
                clear hgb hob hU hB HB1 HR1 HO1 HK1 ho1
                obtain ⟨ys, hys⟩ : ∃ ys, ys = xs := ⟨_, rfl⟩
                obtain ⟨gn, hgn⟩ : ∃ gn, gn = gm := ⟨_, rfl⟩
                obtain ⟨capn, hcn⟩ : ∃ c, c = cap := ⟨_, rfl⟩
                have HY : Hid (ys.length = N) := Lib.hid (by rw [hys]; exact HX.out)
                rw [← hys] at HB3 HR3
                rw [← hgn, ← hcn] at HR3
                rw [← hgn, ← hcn]
                clear hys hgn hcn HX
                clear ho3 HO3
                go_wp2_with fail
                refine (All_bank HB3.out).mono ?_
                rintro e w6 ⟨_, rfl, ⟨g3, rfl, hI, hg3⟩, hk⟩
                have HI := Lib.hid hI
                have HB9 := Lib.hid (HB3.out.kept hk)
                have HR9 := Lib.hid (HR3.out.kept hk)
                have HK9 := Lib.hid (HK3.out.trans hk)
                have hln : ys.length = N := HY.out
                rw [hln]
                clear hln hI hk HB3 HR3 HK3
                go_wp2_with fail
                go_loopw [146] (fun x wq => ∃ j : Nat, x = .int .i64 j ∧ j ≤ N ∧ Hid (Blk wq g3 (ys.map (Value.int .i64)).toArray 2) ∧ Hid (RB wq gn capn ys) ∧ Hid (Bnk wq bb g ys) ∧ Hid (Kept w wq)) (fun x _ => N - (intOf x).toNat)
                case atStart => exact ⟨0, rfl, by omega, HI, HR9, HB9, HK9⟩
                case round =>
                  obtain ⟨j, rfl, hj, HI1, HR1, HB1, HK1⟩ := hrel
                  clear HI HR9 HB9 HK9
                  by_cases hlt2 : j < N
                  · have hjy : j < ys.length := by have := HY.out; omega
                    have c1 : wr.cell? ⟨g3, j, none⟩ = some (.int .i64 (ys.getD j 0)) := by rw [HI1.out.cell]; simp [hjy]
                    have c2 : wr.cell? ⟨gn, j, none⟩ = some (.int .i64 (ys.getD j 0)) := HR1.out.cell hjy
                    generalize ys.getD j 0 = z at c1 c2
                    have j0 : (0 : Int) ≤ (j : Int) := by omega
                    have j1 : (j : Int) < (N : Int) := by omega
                    clear hjy
                    go_wp2_with fail
                    go_quiet (fail)
                    have HI2 : Hid (Blk (wr.drewN nq) g3 (ys.map (Value.int .i64)).toArray 2) := HI1
                    have HR2 : Hid (RB (wr.drewN nq) gn capn ys) := HR1
                    have HB2 : Hid (Bnk (wr.drewN nq) bb g ys) := Lib.hid (HB1.out.kept ⟨rfl, rfl, rfl, Nat.le_refl _, fun _ _ _ => rfl⟩)
                    have HK2 : Hid (Kept w (wr.drewN nq)) := Lib.hid (HK1.out.trans ⟨rfl, rfl, rfl, Nat.le_refl _, fun _ _ _ => rfl⟩)
                    clear HI1 HR1 HB1 HK1
                    go_wp2_with fail
                    go_roundw
                    case rel => exact ⟨j + 1, by go_num, by omega, HI2, HR2, HB2, HK2⟩
                    case measure => simp [intOf]; omega
                  · go_wp2_with fail
                    go_roundw
                    case rel => exact ⟨k + 1, ys, gn, capn, by go_num, by omega, rfl, HY, HR1, HB1, HK1⟩
                    case measure => simp [intOf]; omega
            · by_cases hin : 0 ≤ at_ ∧ at_ < xs.length
              ·
                go_wp2_with fail
                refine (refIsN_yes gm cap HX.out at_ _ (by omega) hin).mono ?_
                rintro e w' ⟨rfl, rfl⟩
                go_wp2_with fail
                refine (refPutN HR1.out HX.out at_ v0 (by omega)).mono ?_
                rintro e w2 ⟨gn, capn, rfl, hR2, hgn, hk⟩
                have HR2 := Lib.hid hR2
                have HB2 := Lib.hid (HB1.out.kept hk)
                have HO2 := Lib.hid (HO1.out.kept hk)
                have HK2 := Lib.hid (HK1.out.trans hk)
                have ho2 := HO2.out.cell
                clear hk hR2 HB1 HR1 HO1 HK1 ho1
                go_wp2_with fail
                refine (CAS_is HB2.out at_ _ v0 true (bput xs at_ v0) (decide_eq_true ⟨hin, rfl⟩) (if_pos rfl)).mono ?_
                rintro e w3 ⟨rfl, hB, hU⟩
                have hgb := rb_ne HR2.out HB2.out
                have hob := op_ne HO2.out HB2.out
                have HR3 := Lib.hid (HR2.out.upd hU hgb)
                have HO3 := Lib.hid (HO2.out.upd hU hob)
                have HK3 := Lib.hid (HK2.out.then hU (fun i h e => by omega))
                have HB3 := Lib.hid hB
                have ho3 := HO3.out.cell
                clear hgb hob hU hB HB2 HR2 HO2 HK2 ho2
                have HY : Hid ((bput xs at_ v0).length = N) := Lib.hid (by rw [length_bput]; exact HX.out)
                generalize bput xs at_ v0 = ys at HB3 HR3 HY
                clear HX
                clear ho3 HO3
                go_wp2_with fail
                refine (All_bank HB3.out).mono ?_
                rintro e w6 ⟨_, rfl, ⟨g3, rfl, hI, hg3⟩, hk⟩
                have HI := Lib.hid hI
                have HB9 := Lib.hid (HB3.out.kept hk)
                have HR9 := Lib.hid (HR3.out.kept hk)
                have HK9 := Lib.hid (HK3.out.trans hk)
                have hln : ys.length = N := HY.out
                rw [hln]
                clear hln hI hk HB3 HR3 HK3
                go_wp2_with fail
                go_loopw [146] (fun x wq => ∃ j : Nat, x = .int .i64 j ∧ j ≤ N ∧ Hid (Blk wq g3 (ys.map (Value.int .i64)).toArray 2) ∧ Hid (RB wq gn capn ys) ∧ Hid (Bnk wq bb g ys) ∧ Hid (Kept w wq)) (fun x _ => N - (intOf x).toNat)
                case atStart => exact ⟨0, rfl, by omega, HI, HR9, HB9, HK9⟩
                case round =>
                  obtain ⟨j, rfl, hj, HI1, HR1, HB1, HK1⟩ := hrel
                  clear HI HR9 HB9 HK9
                  by_cases hlt2 : j < N
                  · have hjy : j < ys.length := by have := HY.out; omega
                    have c1 : wr.cell? ⟨g3, j, none⟩ = some (.int .i64 (ys.getD j 0)) := by rw [HI1.out.cell]; simp [hjy]
                    have c2 : wr.cell? ⟨gn, j, none⟩ = some (.int .i64 (ys.getD j 0)) := HR1.out.cell hjy
                    generalize ys.getD j 0 = z at c1 c2
                    have j0 : (0 : Int) ≤ (j : Int) := by omega
                    have j1 : (j : Int) < (N : Int) := by omega
                    clear hjy
                    go_wp2_with fail
                    go_quiet (fail)
                    have HI2 : Hid (Blk (wr.drewN nq) g3 (ys.map (Value.int .i64)).toArray 2) := HI1
                    have HR2 : Hid (RB (wr.drewN nq) gn capn ys) := HR1
                    have HB2 : Hid (Bnk (wr.drewN nq) bb g ys) := Lib.hid (HB1.out.kept ⟨rfl, rfl, rfl, Nat.le_refl _, fun _ _ _ => rfl⟩)
                    have HK2 : Hid (Kept w (wr.drewN nq)) := Lib.hid (HK1.out.trans ⟨rfl, rfl, rfl, Nat.le_refl _, fun _ _ _ => rfl⟩)
                    clear HI1 HR1 HB1 HK1
                    go_wp2_with fail
                    go_roundw
                    case rel => exact ⟨j + 1, by go_num, by omega, HI2, HR2, HB2, HK2⟩
                    case measure => simp [intOf]; omega
                  · go_wp2_with fail
                    go_roundw
                    case rel => exact ⟨k + 1, ys, gn, capn, by go_num, by omega, rfl, HY, HR1, HB1, HK1⟩
                    case measure => simp [intOf]; omega
              ·
                go_wp2_with fail
                refine (refIsN_no gm cap HX.out at_ _ (by omega) hin).mono ?_
                rintro e w' ⟨rfl, rfl⟩
                go_wp2_with fail
                refine (CAS_is HB1.out at_ _ v0 false xs (decide_eq_false fun h => hin h.1) (by rw [bput_out _ hin, ite_self])).mono ?_
                rintro e w3 ⟨rfl, hB, hU⟩
                have hgb := rb_ne HR1.out HB1.out
                have hob := op_ne HO1.out HB1.out
                have HR3 := Lib.hid (HR1.out.upd hU hgb)
                have HO3 := Lib.hid (HO1.out.upd hU hob)
                have HK3 := Lib.hid (HK1.out.then hU (fun i h e => by omega))
                have HB3 := Lib.hid hB
                have ho3 := HO3.out.cell
                clear hgb hob hU hB HB1 HR1 HO1 HK1 ho1
                obtain ⟨ys, hys⟩ : ∃ ys, ys = xs := ⟨_, rfl⟩
                obtain ⟨gn, hgn⟩ : ∃ gn, gn = gm := ⟨_, rfl⟩
                obtain ⟨capn, hcn⟩ : ∃ c, c = cap := ⟨_, rfl⟩
                have HY : Hid (ys.length = N) := Lib.hid (by rw [hys]; exact HX.out)
                rw [← hys] at HB3 HR3
                rw [← hgn, ← hcn] at HR3
                rw [← hgn, ← hcn]
                clear hys hgn hcn HX
                clear ho3 HO3
                go_wp2_with fail
                refine (All_bank HB3.out).mono ?_
                rintro e w6 ⟨_, rfl, ⟨g3, rfl, hI, hg3⟩, hk⟩
                have HI := Lib.hid hI
                have HB9 := Lib.hid (HB3.out.kept hk)
                have HR9 := Lib.hid (HR3.out.kept hk)
                have HK9 := Lib.hid (HK3.out.trans hk)
                have hln : ys.length = N := HY.out
                rw [hln]
                clear hln hI hk HB3 HR3 HK3
                go_wp2_with fail
                go_loopw [146] (fun x wq => ∃ j : Nat, x = .int .i64 j ∧ j ≤ N ∧ Hid (Blk wq g3 (ys.map (Value.int .i64)).toArray 2) ∧ Hid (RB wq gn capn ys) ∧ Hid (Bnk wq bb g ys) ∧ Hid (Kept w wq)) (fun x _ => N - (intOf x).toNat)
                case atStart => exact ⟨0, rfl, by omega, HI, HR9, HB9, HK9⟩
                case round =>
                  obtain ⟨j, rfl, hj, HI1, HR1, HB1, HK1⟩ := hrel
                  clear HI HR9 HB9 HK9
                  by_cases hlt2 : j < N
                  · have hjy : j < ys.length := by have := HY.out; omega
                    have c1 : wr.cell? ⟨g3, j, none⟩ = some (.int .i64 (ys.getD j 0)) := by rw [HI1.out.cell]; simp [hjy]
                    have c2 : wr.cell? ⟨gn, j, none⟩ = some (.int .i64 (ys.getD j 0)) := HR1.out.cell hjy
                    generalize ys.getD j 0 = z at c1 c2
                    have j0 : (0 : Int) ≤ (j : Int) := by omega
                    have j1 : (j : Int) < (N : Int) := by omega
                    clear hjy
                    go_wp2_with fail
                    go_quiet (fail)
                    have HI2 : Hid (Blk (wr.drewN nq) g3 (ys.map (Value.int .i64)).toArray 2) := HI1
                    have HR2 : Hid (RB (wr.drewN nq) gn capn ys) := HR1
                    have HB2 : Hid (Bnk (wr.drewN nq) bb g ys) := Lib.hid (HB1.out.kept ⟨rfl, rfl, rfl, Nat.le_refl _, fun _ _ _ => rfl⟩)
                    have HK2 : Hid (Kept w (wr.drewN nq)) := Lib.hid (HK1.out.trans ⟨rfl, rfl, rfl, Nat.le_refl _, fun _ _ _ => rfl⟩)
                    clear HI1 HR1 HB1 HK1
                    go_wp2_with fail
                    go_roundw
                    case rel => exact ⟨j + 1, by go_num, by omega, HI2, HR2, HB2, HK2⟩
                    case measure => simp [intOf]; omega
                  · go_wp2_with fail
                    go_roundw
                    case rel => exact ⟨k + 1, ys, gn, capn, by go_num, by omega, rfl, HY, HR1, HB1, HK1⟩
                    case measure => simp [intOf]; omega
    · clear HX HR0 HB0
      go_wp2_with fail
      refine (awake_any _).mono ?_
      rintro e w5 ⟨rfl, hk5⟩
      go_wp2
      go_ret
      exact ⟨rfl, HK0.out.trans hk5⟩
end Go.Proofs.Ytnffnpolkkgnhaa
