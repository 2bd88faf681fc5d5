/- The law CellsAdds. -/
import Derived.Test.YtnffnpolkkgnhaaAwake10
import Derived.Test.YtnffnpolkkgnhaaBase2
import Derived.Test.YtnffnpolkkgnhaaRegion
import Derived.Test.YtnffnpolkkgnhaaTally
import Derived.Deep.CutRange
import Derived.StillTailTactics
namespace Go.Proofs.Ytnffnpolkkgnhaa
set_option linter.unusedVariables false
open Go.RowKit

theorem Blk.put5 {w : World} {b : Nat} {T : TypeId} {z0 z1 z2 z3 z4 : Value} (h : Blk w b #[z0, z1, z2, z3, z4] T) (a0 a1 a2 a3 a4 : Value) :
    Blk (((((w.setCell ⟨b, 0, none⟩ a0).setCell ⟨b, 1, none⟩ a1).setCell ⟨b, 2, none⟩ a2).setCell ⟨b, 3, none⟩ a3).setCell ⟨b, 4, none⟩ a4) b #[a0, a1, a2, a3, a4] T ∧ Upd (fun k => k = b) w (((((w.setCell ⟨b, 0, none⟩ a0).setCell ⟨b, 1, none⟩ a1).setCell ⟨b, 2, none⟩ a2).setCell ⟨b, 3, none⟩ a3).setCell ⟨b, 4, none⟩ a4) := by
  refine ⟨?_, (((((Upd.refl (fun k => k = b) w).setCell (S := fun k => k = b) (p := ⟨b, 0, none⟩) (.inl rfl) a0).setCell (S := fun k => k = b) (p := ⟨b, 1, none⟩) (.inl rfl) a1).setCell (S := fun k => k = b) (p := ⟨b, 2, none⟩) (.inl rfl) a2).setCell (S := fun k => k = b) (p := ⟨b, 3, none⟩) (.inl rfl) a3).setCell (S := fun k => k = b) (p := ⟨b, 4, none⟩) (.inl rfl) a4⟩
  have := (((((h.set 0 a0).set 1 a1).set 2 a2).set 3 a3).set 4 a4)
  simpa using this
/-- Both banks. -/
structure AD (w : World) (ba ga bb gb : Nat) (xs ys : List Int) (W : World) : Prop where
  a : Bnk W ba ga xs
  b : Bnk W bb gb ys
  kp : Kept w W
  oa : w.heap.size ≤ ga
  ob : w.heap.size ≤ gb
  ne : ¬ ga = gb ∧ ¬ ba = gb ∧ ¬ bb = ga
theorem AD.kept {w W W' : World} {ba ga bb gb : Nat} {xs ys : List Int} (h : AD w ba ga bb gb xs ys W) (hk : Kept W W') : AD w ba ga bb gb xs ys W' := ⟨h.a.kept hk, h.b.kept hk, h.kp.trans hk, h.oa, h.ob, h.ne⟩
theorem AD.drew {w W : World} {ba ga bb gb : Nat} {xs ys : List Int} (h : AD w ba ga bb gb xs ys W) : AD w ba ga bb gb xs ys W.drew := h.kept (Upd.refl _ _).drew
theorem AD.acca {w W W' : World} {ba ga bb gb : Nat} {xs ys xs' : List Int} (h : AD w ba ga bb gb xs ys W) (hb : Bnk W' ba ga xs') (hU : Upd (fun k => k = ga) W W') : AD w ba ga bb gb xs' ys W' :=
  ⟨hb, h.b.upd hU (fun e => h.ne.2.2 e) (fun e => h.ne.1 e.symm), h.kp.then hU (fun i hi e => by have := h.oa; omega), h.oa, h.ob, h.ne⟩
theorem AD.accb {w W W' : World} {ba ga bb gb : Nat} {xs ys ys' : List Int} (h : AD w ba ga bb gb xs ys W) (hb : Bnk W' bb gb ys') (hU : Upd (fun k => k = gb) W W') : AD w ba ga bb gb xs ys' W' :=
  ⟨h.a.upd hU (fun e => h.ne.2.1 e) (fun e => h.ne.1 e), hb, h.kp.then hU (fun i hi e => by have := h.ob; omega), h.oa, h.ob, h.ne⟩
theorem Add_ex {w : World} {bb g : Nat} {xs : List Int} (h : Bnk w bb g xs) (i v : Int) (ys : List Int) (hy : bput xs i (wrap64 (bget xs i + v)) = ys) :
    Calls Try.prog 25 #[.pointer (some ⟨bb, 0, none⟩), .int .i64 i, .int .i64 v] w fun e w' => ∃ r, e = .returned (.int .i64 r) ∧ Bnk w' bb g ys ∧ Upd (fun k => k = g) w w' := by
  refine (Add_is h i v _ ys rfl hy).mono ?_
  rintro e w' ⟨rfl, h1, h2⟩
  exact ⟨_, rfl, h1, h2⟩
/-- What the drawn region keeps. -/
structure RI (w : World) (ba ga bb gb base : Nat) (xs ys : List Int) (W : World) : Prop where
  ad : AD w ba ga bb gb xs ys W
  old : w.heap.size ≤ base
  up : base ≤ W.heap.size
  l1 : ga < base ∧ gb < base ∧ ba < base ∧ bb < base
theorem RI.kp {w W : World} {ba ga bb gb base : Nat} {xs ys : List Int} (h : RI w ba ga bb gb base xs ys W) : Kept w W := h.ad.kp
theorem RI.kept {w W W' : World} {ba ga bb gb base : Nat} {xs ys : List Int} (h : RI w ba ga bb gb base xs ys W) (hk : Kept W W') : RI w ba ga bb gb base xs ys W' := ⟨h.ad.kept hk, h.old, Nat.le_trans h.up hk.size, h.l1⟩
theorem RI.upd {w W W' : World} {ba ga bb gb base xb : Nat} {xs ys : List Int} (h : RI w ba ga bb gb base xs ys W) (hU : Upd (fun k => k = xb) W W') (hx : base ≤ xb) : RI w ba ga bb gb base xs ys W' := by
  have h1 := h.l1
  have h2 := h.old
  exact ⟨⟨h.ad.a.upd hU (fun e => by omega) (fun e => by omega), h.ad.b.upd hU (fun e => by omega) (fun e => by omega), h.ad.kp.then hU (fun i hi e => by omega), h.ad.oa, h.ad.ob, h.ad.ne⟩, h.old, Nat.le_trans h.up hU.size, h.l1⟩
theorem AD.ri {w W : World} {ba ga bb gb : Nat} {xs ys : List Int} (h : AD w ba ga bb gb xs ys W) : RI w ba ga bb gb W.heap.size xs ys W :=
  ⟨h, h.kp.size, Nat.le_refl _, h.a.row.lt, h.b.row.lt, h.a.head.lt, h.b.head.lt⟩
/-- The cells of an access. -/
def OpAt (w : World) (b o : Nat) (x1 x2 x3 x4 : Int) (x5 : Bool) : Prop :=
  w.cell? ⟨b, o, none⟩ = some (.int .u8 x1) ∧ w.cell? ⟨b, o + 1, none⟩ = some (.int .i64 x2) ∧ w.cell? ⟨b, o + 2, none⟩ = some (.int .i64 x3) ∧ w.cell? ⟨b, o + 3, none⟩ = some (.int .i64 x4) ∧ w.cell? ⟨b, o + 4, none⟩ = some (.bool x5)
theorem OpAt.kept {w W : World} {b o : Nat} {x1 x2 x3 x4 : Int} {x5 : Bool} (h : OpAt w b o x1 x2 x3 x4 x5) (hk : Kept w W) : OpAt W b o x1 x2 x3 x4 x5 := by
  obtain ⟨h0, h1, h2, h3, h4⟩ := h
  exact ⟨(keptCells hk _ (by rw [h0]; rfl)).trans h0, (keptCells hk _ (by rw [h1]; rfl)).trans h1, (keptCells hk _ (by rw [h2]; rfl)).trans h2, (keptCells hk _ (by rw [h3]; rfl)).trans h3, (keptCells hk _ (by rw [h4]; rfl)).trans h4⟩
theorem opAt {els : List (List Value)} (hf : ∀ e ∈ els, fits [some .u8, some .i64, some .i64, some .i64, none] e) {b off : Nat} {w : World} (hc : ∀ i (h : i < els.length) j v, els[i][j]? = some v → w.cell? ⟨b, off + i * 5 + j, none⟩ = some v)
    {k : Nat} (hk : k < els.length) (N : Nat) : ∃ x1 x2 x3 x4 x5, Hid (OpAt w b (off + k * 5) x1 x2 x3 x4 x5) ∧ Hid (aOf N els k = bits .and .i64 x2 255 % (N : Int)) ∧ Hid (vOf els k = x3) := by
  obtain ⟨x1, x2, x3, x4, x5, h0, h1, h2, h3, h4, h5, h6⟩ := op_row hf hc hk N
  exact ⟨x1, x2, x3, x4, x5, Lib.hid ⟨h0, h1, h2, h3, h4⟩, Lib.hid h5, Lib.hid h6⟩
theorem flat45 : flatB Try.prog 45 [some .u8, some .i64, some .i64, some .i64, none] = true := by kernel_rfl
theorem all_ad {w W : World} {ba ga bb gb n : Nat} {xs ys : List Int} (h : AD w ba ga bb gb xs ys W) (hl : xs.length = n) :
    Calls Try.prog 28 #[.pointer (some ⟨ba, 0, none⟩)] W fun e w' => ∃ g3, e = .returned (.slice (some ⟨g3, 0, none⟩) n n) ∧ Blk w' g3 (xs.map (Value.int .i64)).toArray 2 ∧ Kept w w' := by
  refine (All_bank h.a).mono ?_
  rintro e w' ⟨_, rfl, ⟨g3, rfl, hI, hg3⟩, hk⟩
  exact ⟨g3, by rw [hl], hI, h.kp.trans hk⟩

set_option maxRecDepth 100000 in
set_option maxHeartbeats 8000000 in
theorem cellsAdds_walk (n : Int) (a : Option Addr) (cap : Nat) (els : List (List Value)) (a2 : Int) (w : World) (w0 : (Lit.int .u8 n).wf = true) (hrow : FlatRow [some .u8, some .i64, some .i64, some .i64, none] w a cap els) (hfit : ∀ x ∈ els, fits [some .u8, some .i64, some .i64, some .i64, none] x) (w2 : (Lit.int .u8 a2).wf = true) :
    Calls Try.prog 6 #[.int .u8 n, .slice a els.length cap, .int .u8 a2] w fun e w' => e = .returned (.bool true) ∧ Kept w w' := by
  have w0 := bounds_u8 w0
  have w2 := bounds_u8 w2
  have hle := hrow.le
  have hmost := hrow.most
  obtain ⟨N, hN⟩ := Int.eq_ofNat_of_zero_le (show 0 ≤ 1 + n % 20 by omega)
  have hN1 : 1 ≤ N := by omega
  have hN2 : N ≤ 20 := by omega
  obtain ⟨t, ht⟩ := Int.eq_ofNat_of_zero_le w2.1
  obtain ⟨M, hM⟩ : ∃ M, M = min els.length 60 := ⟨_, rfl⟩
  have hM1 : M ≤ els.length := by omega
  have hM2 : M ≤ 60 := by omega
  have hsl := fun w => run_take (P := Try.prog) Try.underlying37 (size := 5) (by kernel_rfl) a els.length cap M (by omega) w
  have hif1 : (if (60 : Int) < (els.length : Int) then (60 : Int) else (els.length : Int)) = (M : Int) := by split <;> omega
  have hif2 : (if 60 < els.length then (60 : Int) else (els.length : Int)) = (M : Int) := by split <;> omega
  unfold maxLen at hmost
  have HC := Lib.hid hrow.cells
  have HF := Lib.hid hfit
  have HT := Lib.hid ht
  clear hrow hfit hM ht
  go_enter Try.func6, Try.ntmps6
  go_wp2_with fail
  refine (New_ok N _ (by omega)).mono ?_
  rintro e w1 ⟨ba, ga, rfl, hA, hba, hga, hk1⟩
  go_wp2_with fail
  refine (New_ok N _ (by omega)).mono ?_
  rintro e w2 ⟨bb, gb, rfl, hB, hbb, hgb, hk2⟩
  have S0 : Hid (AD w ba ga bb gb (tal N (aOf N els) (vOf els) 0) (tal N (turned M t (aOf N els)) (turned M t (vOf els)) 0) w2) := Lib.hid (by
    have h1 := hk1.size
    have h2 := hA.row.lt
    have h3 := hA.head.lt
    rw [tal_zero, tal_zero]
    exact ⟨hA.kept hk2, hB, hk1.trans hk2, by omega, by omega, by omega⟩)
  clear hA hB hk1 hk2 hba hga hbb hgb
  go_wp2_with fail
  clear hif1 hif2 hsl
  go_loopw [47] (fun x wr => ∃ k : Nat, x = .int .i64 k ∧ k ≤ M ∧ Hid (AD w ba ga bb gb (tal N (aOf N els) (vOf els) k) (tal N (turned M t (aOf N els)) (turned M t (vOf els)) k) wr)) (fun x _ => M - (intOf x).toNat)
  case atStart => exact ⟨0, rfl, by omega, S0⟩
  case round =>
    obtain ⟨k, rfl, hk, S1⟩ := hrel
    clear S0
    by_cases hlt : k < M
    · skip
      obtain ⟨b, off, rfl, hcc⟩ := HC.out.resolve_left (by omega)
      clear HC
      have HC := Lib.hid hcc
      clear hcc
      obtain ⟨x1, x2, x3, x4, x5, HX, hxa, hxv⟩ := opAt HF.out HC.out (k := k) (by omega) N
      obtain ⟨r, hrn⟩ : ∃ r, Hid ((k + t) % M = r) := ⟨_, Lib.hid rfl⟩
      have hrM : r < M := by rw [← hrn.out]; exact Nat.mod_lt _ (by omega)
      obtain ⟨y1, y2, y3, y4, y5, HY, hya, hyv⟩ := opAt HF.out HC.out (k := r) (by omega) N
      have hr0 : ((k : Int) + a2) % (M : Int) = (r : Int) := by rw [HT.out, ← hrn.out]; simp
      have hrm : Hid (((k : Int) + a2) % (M : Int) = (r : Int) ∧ ((k : Int) + a2).tmod (M : Int) = (r : Int) ∧ IntKind.i64.wrap (r : Int) = (r : Int)) := Lib.hid ⟨hr0, by rw [Int.tmod_eq_emod_of_nonneg (by omega)]; exact hr0, by rw [IntKind.wrap_i64]; omega⟩
      clear hr0
      have HRI := Lib.hid S1.out.ri
      have hwu : Hid (IntKind.i64.wrap a2 = a2) := Lib.hid (by rw [IntKind.wrap_i64]; omega)
      have hwk : Hid (IntKind.i64.wrap ((k : Int) + a2) = (k : Int) + a2 ∧ wrap64 ((k : Int) + a2) = (k : Int) + a2) := Lib.hid (by rw [IntKind.wrap_i64]; unfold wrap64; omega)
      clear S1
      clear HC HF HT
      clear hN
      go_wp2_with fail
      refine wp_region_inv (fun l us W => ∃ (b0 b1 b2 b3 b4 b5 b6 b7 b8 b9 b10 b11 b12 b13 b14 b15 b16 b17 : Bool) (v50 v51 v52 v53 v54 v55 v56 v57 v58 v59 v60 v61 v62 v63 v13 v14 : Value) (xb yb : Nat), l = #[b0, b1, b2, b3, b4, b5, b6, b7, b8, b9, b10, b11, b12, b13, b14, b15, b16, b17] ∧ us = [v50, v51, v52, v53, v54, v55, v56, v57, v58, v59, v60, v61, v62, v63, v13, v14] ∧ Hid (RI w ba ga bb gb wr.heap.size (tal N (aOf N els) (vOf els) k) (tal N (turned M t (aOf N els)) (turned M t (vOf els)) k) W) ∧
    Hid (b0 = true → v50 = .slice (some ⟨b, off, none⟩) M cap) ∧
    Hid (b1 = true → v51 = .int .i64 (k : Int)) ∧
    Hid (b2 = true → v52 = .pointer (some ⟨b, off + k * 5, none⟩)) ∧
    Hid (b3 = true → v53 = .agg #[.int .u8 x1, .int .i64 x2, .int .i64 x3, .int .i64 x4, .bool x5]) ∧
    Hid (b4 = true → v54 = .slice (some ⟨b, off, none⟩) M cap) ∧
    Hid (b5 = true → v55 = .int .i64 (k : Int)) ∧
    Hid (b6 = true → v56 = .int .u8 a2) ∧
    Hid (b7 = true → v57 = .int .i64 a2) ∧
    Hid (b8 = true → v58 = .int .i64 ((k : Int) + a2)) ∧
    Hid (b9 = true → v59 = .slice (some ⟨b, off, none⟩) M cap) ∧
    Hid (b10 = true → v60 = .int .i64 (M : Int)) ∧
    Hid (b11 = true → v61 = .int .i64 (r : Int)) ∧
    Hid (b12 = true → v62 = .pointer (some ⟨b, off + r * 5, none⟩)) ∧
    Hid (b13 = true → v63 = .agg #[.int .u8 y1, .int .i64 y2, .int .i64 y3, .int .i64 y4, .bool y5]) ∧
    Hid (b14 = true → v13 = .pointer (some ⟨xb, 0, none⟩) ∧ wr.heap.size ≤ xb ∧ Blk W xb (if b16 then #[.int .u8 x1, .int .i64 x2, .int .i64 x3, .int .i64 x4, .bool x5] else #[.int .u8 0, .int .i64 0, .int .i64 0, .int .i64 0, .bool false]) 45) ∧
    Hid (b15 = true → v14 = .pointer (some ⟨yb, 0, none⟩) ∧ wr.heap.size ≤ yb ∧ Blk W yb (if b17 then #[.int .u8 y1, .int .i64 y2, .int .i64 y3, .int .i64 y4, .bool y5] else #[.int .u8 0, .int .i64 0, .int .i64 0, .int .i64 0, .bool false]) 45) ∧
    Hid (b14 = true → b15 = true → ¬ xb = yb) ∧
    Hid (b16 = true → b14 = true) ∧
    Hid (b17 = true → b15 = true)) [50, 51, 52, 53, 54, 55, 56, 57, 58, 59, 60, 61, 62, 63, 13, 14] [u50, u51, u52, u53, u54, u55, u56, u57, u58, u59, u60, u61, u62, u63, u13, u14] (by kernel_rfl) (by kernel_rfl) (by simp only [putAll, Act.put, List.setIfInBounds_toArray, List.set_cons_zero, List.set_cons_succ]) ?_ ?_ ?_
      · exact ⟨false, false, false, false, false, false, false, false, false, false, false, false, false, false, false, false, false, false, _, _, _, _, _, _, _, _, _, _, _, _, _, _, _, _, 0, 0, rfl, rfl, Lib.hid (HRI.out.kept (Upd.refl _ _).drew), Lib.hid (by simp), Lib.hid (by simp), Lib.hid (by simp), Lib.hid (by simp), Lib.hid (by simp), Lib.hid (by simp), Lib.hid (by simp), Lib.hid (by simp), Lib.hid (by simp), Lib.hid (by simp), Lib.hid (by simp), Lib.hid (by simp), Lib.hid (by simp), Lib.hid (by simp), Lib.hid (by simp), Lib.hid (by simp), Lib.hid (by simp), Lib.hid (by simp), Lib.hid (by simp)⟩
      · rintro i l us W ⟨b0, b1, b2, b3, b4, b5, b6, b7, b8, b9, b10, b11, b12, b13, b14, b15, b16, b17, v50, v51, v52, v53, v54, v55, v56, v57, v58, v59, v60, v61, v62, v63, v13, v14, xb, yb, rfl, rfl, hI, h0, h1, h2, h3, h4, h5, h6, h7, h8, h9, h10, h11, h12, h13, h14, h15, n14_15, g16, g17⟩ hr
        have hi : i = 0 ∨ i = 1 ∨ i = 2 ∨ i = 3 ∨ i = 4 ∨ i = 5 ∨ i = 6 ∨ i = 7 ∨ i = 8 ∨ i = 9 ∨ i = 10 ∨ i = 11 ∨ i = 12 ∨ i = 13 ∨ i = 14 ∨ i = 15 ∨ i = 16 ∨ i = 17 := by
          have := ready_lt hr
          simp at this
          omega
        rcases hi with rfl | rfl | rfl | rfl | rfl | rfl | rfl | rfl | rfl | rfl | rfl | rfl | rfl | rfl | rfl | rfl | rfl | rfl
        · skip
          obtain ⟨hn, hd⟩ := ready_at hr rfl
          simp [Region.binds] at hn hd
          refine wpOp_step rfl (fun K' hK => ?_)
          simp only [putAll, Act.put, List.setIfInBounds_toArray, List.set_cons_zero, List.set_cons_succ]
          go_simp
          exact hK _ _ ⟨_, by simp only [putAll, Act.put, List.setIfInBounds_toArray, List.set_cons_zero, List.set_cons_succ], true, b1, b2, b3, b4, b5, b6, b7, b8, b9, b10, b11, b12, b13, b14, b15, b16, b17, _, _, _, _, _, _, _, _, _, _, _, _, _, _, _, _, xb, yb, rfl, rfl, hI, Lib.hid (fun _ => rfl), h1, h2, h3, h4, h5, h6, h7, h8, h9, h10, h11, h12, h13, h14, h15, n14_15, g16, g17⟩
        · skip
          obtain ⟨hn, hd⟩ := ready_at hr rfl
          simp [Region.binds] at hn hd
          refine wpOp_step rfl (fun K' hK => ?_)
          simp only [putAll, Act.put, List.setIfInBounds_toArray, List.set_cons_zero, List.set_cons_succ]
          go_simp
          exact hK _ _ ⟨_, by simp only [putAll, Act.put, List.setIfInBounds_toArray, List.set_cons_zero, List.set_cons_succ], b0, true, b2, b3, b4, b5, b6, b7, b8, b9, b10, b11, b12, b13, b14, b15, b16, b17, _, _, _, _, _, _, _, _, _, _, _, _, _, _, _, _, xb, yb, rfl, rfl, hI, h0, Lib.hid (fun _ => rfl), h2, h3, h4, h5, h6, h7, h8, h9, h10, h11, h12, h13, h14, h15, n14_15, g16, g17⟩
        · skip
          obtain ⟨hn, hd⟩ := ready_at hr rfl
          simp [Region.binds] at hn hd
          obtain rfl := h0.out (by simp [hd])
          obtain rfl := h1.out (by simp [hd])
          refine wpOp_step rfl (fun K' hK => ?_)
          simp only [putAll, Act.put, List.setIfInBounds_toArray, List.set_cons_zero, List.set_cons_succ]
          go_simp
          exact hK _ _ ⟨_, by simp only [putAll, Act.put, List.setIfInBounds_toArray, List.set_cons_zero, List.set_cons_succ], b0, b1, true, b3, b4, b5, b6, b7, b8, b9, b10, b11, b12, b13, b14, b15, b16, b17, _, _, _, _, _, _, _, _, _, _, _, _, _, _, _, _, xb, yb, rfl, rfl, hI, h0, h1, Lib.hid (fun _ => rfl), h3, h4, h5, h6, h7, h8, h9, h10, h11, h12, h13, h14, h15, n14_15, g16, g17⟩
        · skip
          obtain ⟨hn, hd⟩ := ready_at hr rfl
          simp [Region.binds] at hn hd
          obtain rfl := h2.out (by simp [hd])
          refine wpOp_step rfl (fun K' hK => ?_)
          simp only [putAll, Act.put, List.setIfInBounds_toArray, List.set_cons_zero, List.set_cons_succ]
          obtain ⟨e0, e1, e2, e3, e4⟩ := HX.out.kept hI.out.kp
          go_simp
          exact hK _ _ ⟨_, by simp only [putAll, Act.put, List.setIfInBounds_toArray, List.set_cons_zero, List.set_cons_succ], b0, b1, b2, true, b4, b5, b6, b7, b8, b9, b10, b11, b12, b13, b14, b15, b16, b17, _, _, _, _, _, _, _, _, _, _, _, _, _, _, _, _, xb, yb, rfl, rfl, hI, h0, h1, h2, Lib.hid (fun _ => rfl), h4, h5, h6, h7, h8, h9, h10, h11, h12, h13, h14, h15, n14_15, g16, g17⟩
        · skip
          obtain ⟨hn, hd⟩ := ready_at hr rfl
          simp [Region.binds] at hn hd
          refine wpOp_step rfl (fun K' hK => ?_)
          simp only [putAll, Act.put, List.setIfInBounds_toArray, List.set_cons_zero, List.set_cons_succ]
          go_simp
          exact hK _ _ ⟨_, by simp only [putAll, Act.put, List.setIfInBounds_toArray, List.set_cons_zero, List.set_cons_succ], b0, b1, b2, b3, true, b5, b6, b7, b8, b9, b10, b11, b12, b13, b14, b15, b16, b17, _, _, _, _, _, _, _, _, _, _, _, _, _, _, _, _, xb, yb, rfl, rfl, hI, h0, h1, h2, h3, Lib.hid (fun _ => rfl), h5, h6, h7, h8, h9, h10, h11, h12, h13, h14, h15, n14_15, g16, g17⟩
        · skip
          obtain ⟨hn, hd⟩ := ready_at hr rfl
          simp [Region.binds] at hn hd
          refine wpOp_step rfl (fun K' hK => ?_)
          simp only [putAll, Act.put, List.setIfInBounds_toArray, List.set_cons_zero, List.set_cons_succ]
          go_simp
          exact hK _ _ ⟨_, by simp only [putAll, Act.put, List.setIfInBounds_toArray, List.set_cons_zero, List.set_cons_succ], b0, b1, b2, b3, b4, true, b6, b7, b8, b9, b10, b11, b12, b13, b14, b15, b16, b17, _, _, _, _, _, _, _, _, _, _, _, _, _, _, _, _, xb, yb, rfl, rfl, hI, h0, h1, h2, h3, h4, Lib.hid (fun _ => rfl), h6, h7, h8, h9, h10, h11, h12, h13, h14, h15, n14_15, g16, g17⟩
        · skip
          obtain ⟨hn, hd⟩ := ready_at hr rfl
          simp [Region.binds] at hn hd
          refine wpOp_step rfl (fun K' hK => ?_)
          simp only [putAll, Act.put, List.setIfInBounds_toArray, List.set_cons_zero, List.set_cons_succ]
          go_simp
          exact hK _ _ ⟨_, by simp only [putAll, Act.put, List.setIfInBounds_toArray, List.set_cons_zero, List.set_cons_succ], b0, b1, b2, b3, b4, b5, true, b7, b8, b9, b10, b11, b12, b13, b14, b15, b16, b17, _, _, _, _, _, _, _, _, _, _, _, _, _, _, _, _, xb, yb, rfl, rfl, hI, h0, h1, h2, h3, h4, h5, Lib.hid (fun _ => rfl), h7, h8, h9, h10, h11, h12, h13, h14, h15, n14_15, g16, g17⟩
        · skip
          obtain ⟨hn, hd⟩ := ready_at hr rfl
          simp [Region.binds] at hn hd
          obtain rfl := h6.out (by simp [hd])
          refine wpOp_step rfl (fun K' hK => ?_)
          simp only [putAll, Act.put, List.setIfInBounds_toArray, List.set_cons_zero, List.set_cons_succ]
          have hwu := hwu.out
          go_simp
          exact hK _ _ ⟨_, by simp only [putAll, Act.put, List.setIfInBounds_toArray, List.set_cons_zero, List.set_cons_succ], b0, b1, b2, b3, b4, b5, b6, true, b8, b9, b10, b11, b12, b13, b14, b15, b16, b17, _, _, _, _, _, _, _, _, _, _, _, _, _, _, _, _, xb, yb, rfl, rfl, hI, h0, h1, h2, h3, h4, h5, h6, Lib.hid (fun _ => rfl), h8, h9, h10, h11, h12, h13, h14, h15, n14_15, g16, g17⟩
        · skip
          obtain ⟨hn, hd⟩ := ready_at hr rfl
          simp [Region.binds] at hn hd
          obtain rfl := h5.out (by simp [hd])
          obtain rfl := h7.out (by simp [hd])
          refine wpOp_step rfl (fun K' hK => ?_)
          simp only [putAll, Act.put, List.setIfInBounds_toArray, List.set_cons_zero, List.set_cons_succ]
          have hwk := hwk.out
          go_simp
          exact hK _ _ ⟨_, by simp only [putAll, Act.put, List.setIfInBounds_toArray, List.set_cons_zero, List.set_cons_succ], b0, b1, b2, b3, b4, b5, b6, b7, true, b9, b10, b11, b12, b13, b14, b15, b16, b17, _, _, _, _, _, _, _, _, _, _, _, _, _, _, _, _, xb, yb, rfl, rfl, hI, h0, h1, h2, h3, h4, h5, h6, h7, Lib.hid (fun _ => rfl), h9, h10, h11, h12, h13, h14, h15, n14_15, g16, g17⟩
        · skip
          obtain ⟨hn, hd⟩ := ready_at hr rfl
          simp [Region.binds] at hn hd
          refine wpOp_step rfl (fun K' hK => ?_)
          simp only [putAll, Act.put, List.setIfInBounds_toArray, List.set_cons_zero, List.set_cons_succ]
          go_simp
          exact hK _ _ ⟨_, by simp only [putAll, Act.put, List.setIfInBounds_toArray, List.set_cons_zero, List.set_cons_succ], b0, b1, b2, b3, b4, b5, b6, b7, b8, true, b10, b11, b12, b13, b14, b15, b16, b17, _, _, _, _, _, _, _, _, _, _, _, _, _, _, _, _, xb, yb, rfl, rfl, hI, h0, h1, h2, h3, h4, h5, h6, h7, h8, Lib.hid (fun _ => rfl), h10, h11, h12, h13, h14, h15, n14_15, g16, g17⟩
        · skip
          obtain ⟨hn, hd⟩ := ready_at hr rfl
          simp [Region.binds] at hn hd
          obtain rfl := h9.out (by simp [hd])
          refine wpOp_step rfl (fun K' hK => ?_)
          simp only [putAll, Act.put, List.setIfInBounds_toArray, List.set_cons_zero, List.set_cons_succ]
          go_simp
          exact hK _ _ ⟨_, by simp only [putAll, Act.put, List.setIfInBounds_toArray, List.set_cons_zero, List.set_cons_succ], b0, b1, b2, b3, b4, b5, b6, b7, b8, b9, true, b11, b12, b13, b14, b15, b16, b17, _, _, _, _, _, _, _, _, _, _, _, _, _, _, _, _, xb, yb, rfl, rfl, hI, h0, h1, h2, h3, h4, h5, h6, h7, h8, h9, Lib.hid (fun _ => rfl), h11, h12, h13, h14, h15, n14_15, g16, g17⟩
        · skip
          obtain ⟨hn, hd⟩ := ready_at hr rfl
          simp [Region.binds] at hn hd
          obtain rfl := h8.out (by simp [hd])
          obtain rfl := h10.out (by simp [hd])
          refine wpOp_step rfl (fun K' hK => ?_)
          simp only [putAll, Act.put, List.setIfInBounds_toArray, List.set_cons_zero, List.set_cons_succ]
          obtain ⟨hr1, hr2, hr3⟩ := hrm.out
          have hM0 : ¬ (M : Int) = 0 := by omega
          have hM1 : ((M : Int) == 0) = false := by simpa using hM0
          have hM2 : ¬ M = 0 := by omega
          go_simp
          exact hK _ _ ⟨_, by simp only [putAll, Act.put, List.setIfInBounds_toArray, List.set_cons_zero, List.set_cons_succ], b0, b1, b2, b3, b4, b5, b6, b7, b8, b9, b10, true, b12, b13, b14, b15, b16, b17, _, _, _, _, _, _, _, _, _, _, _, _, _, _, _, _, xb, yb, rfl, rfl, hI, h0, h1, h2, h3, h4, h5, h6, h7, h8, h9, h10, Lib.hid (fun _ => rfl), h12, h13, h14, h15, n14_15, g16, g17⟩
        · skip
          obtain ⟨hn, hd⟩ := ready_at hr rfl
          simp [Region.binds] at hn hd
          obtain rfl := h4.out (by simp [hd])
          obtain rfl := h11.out (by simp [hd])
          refine wpOp_step rfl (fun K' hK => ?_)
          simp only [putAll, Act.put, List.setIfInBounds_toArray, List.set_cons_zero, List.set_cons_succ]
          go_simp
          exact hK _ _ ⟨_, by simp only [putAll, Act.put, List.setIfInBounds_toArray, List.set_cons_zero, List.set_cons_succ], b0, b1, b2, b3, b4, b5, b6, b7, b8, b9, b10, b11, true, b13, b14, b15, b16, b17, _, _, _, _, _, _, _, _, _, _, _, _, _, _, _, _, xb, yb, rfl, rfl, hI, h0, h1, h2, h3, h4, h5, h6, h7, h8, h9, h10, h11, Lib.hid (fun _ => rfl), h13, h14, h15, n14_15, g16, g17⟩
        · skip
          obtain ⟨hn, hd⟩ := ready_at hr rfl
          simp [Region.binds] at hn hd
          obtain rfl := h12.out (by simp [hd])
          refine wpOp_step rfl (fun K' hK => ?_)
          simp only [putAll, Act.put, List.setIfInBounds_toArray, List.set_cons_zero, List.set_cons_succ]
          obtain ⟨e0, e1, e2, e3, e4⟩ := HY.out.kept hI.out.kp
          go_simp
          exact hK _ _ ⟨_, by simp only [putAll, Act.put, List.setIfInBounds_toArray, List.set_cons_zero, List.set_cons_succ], b0, b1, b2, b3, b4, b5, b6, b7, b8, b9, b10, b11, b12, true, b14, b15, b16, b17, _, _, _, _, _, _, _, _, _, _, _, _, _, _, _, _, xb, yb, rfl, rfl, hI, h0, h1, h2, h3, h4, h5, h6, h7, h8, h9, h10, h11, h12, Lib.hid (fun _ => rfl), h14, h15, n14_15, g16, g17⟩
        · skip
          obtain ⟨hn, hd⟩ := ready_at hr rfl
          simp [Region.binds] at hn hd
          have hbq : b16 = false := by cases b16 with | false => rfl | true => (have := g16.out rfl; rw [hn] at this; cases this)
          subst hbq
          refine wpOp_step rfl (fun K' hK => ?_)
          simp only [putAll, Act.put, List.setIfInBounds_toArray, List.set_cons_zero, List.set_cons_succ]
          go_simp
          exact hK _ _ ⟨_, by simp only [putAll, Act.put, List.setIfInBounds_toArray, List.set_cons_zero, List.set_cons_succ], b0, b1, b2, b3, b4, b5, b6, b7, b8, b9, b10, b11, b12, b13, true, b15, false, b17, _, _, _, _, _, _, _, _, _, _, _, _, _, _, _, _, W.heap.size, yb, rfl, rfl, (Lib.hid (hI.out.kept ((Upd.refl _ _).alloc _))), h0, h1, h2, h3, h4, h5, h6, h7, h8, h9, h10, h11, h12, h13, Lib.hid (fun _ => ⟨rfl, hI.out.up, Blk.new _ _ _⟩), Lib.hid (fun hb => ⟨(h15.out hb).1, (h15.out hb).2.1, (h15.out hb).2.2.kept ((Upd.refl _ _).alloc _)⟩), Lib.hid (fun _ hb e => by have := (h15.out hb).2.2.lt; omega), Lib.hid (by simp), g17⟩
        · skip
          obtain ⟨hn, hd⟩ := ready_at hr rfl
          simp [Region.binds] at hn hd
          have hbq : b17 = false := by cases b17 with | false => rfl | true => (have := g17.out rfl; rw [hn] at this; cases this)
          subst hbq
          refine wpOp_step rfl (fun K' hK => ?_)
          simp only [putAll, Act.put, List.setIfInBounds_toArray, List.set_cons_zero, List.set_cons_succ]
          go_simp
          exact hK _ _ ⟨_, by simp only [putAll, Act.put, List.setIfInBounds_toArray, List.set_cons_zero, List.set_cons_succ], b0, b1, b2, b3, b4, b5, b6, b7, b8, b9, b10, b11, b12, b13, b14, true, b16, false, _, _, _, _, _, _, _, _, _, _, _, _, _, _, _, _, xb, W.heap.size, rfl, rfl, (Lib.hid (hI.out.kept ((Upd.refl _ _).alloc _))), h0, h1, h2, h3, h4, h5, h6, h7, h8, h9, h10, h11, h12, h13, Lib.hid (fun hb => ⟨(h14.out hb).1, (h14.out hb).2.1, (h14.out hb).2.2.kept ((Upd.refl _ _).alloc _)⟩), Lib.hid (fun _ => ⟨rfl, hI.out.up, Blk.new _ _ _⟩), Lib.hid (fun hb _ e => by have := (h14.out hb).2.2.lt; omega), g16, Lib.hid (by simp)⟩
        · skip
          obtain ⟨hn, hd⟩ := ready_at hr rfl
          simp [Region.binds] at hn hd
          obtain rfl := h3.out (by simp [hd])
          obtain ⟨hp, hx, hbk⟩ := h14.out (by simp [hd])
          subst hn hp
          have hbk : Blk W _ _ _ := hbk
          have hc := hbk.cell
          have hf := hbk.free
          refine wpOp_step rfl (fun K' hK => ?_)
          simp only [putAll, Act.put, List.setIfInBounds_toArray, List.set_cons_zero, List.set_cons_succ]
          go_simp
          have hs := hbk.put5 (.int .u8 x1) (.int .i64 x2) (.int .i64 x3) (.int .i64 x4) (.bool x5)
          exact hK _ _ ⟨_, by simp only [putAll, Act.put, List.setIfInBounds_toArray, List.set_cons_zero, List.set_cons_succ], b0, b1, b2, b3, b4, b5, b6, b7, b8, b9, b10, b11, b12, b13, b14, b15, true, b17, _, _, _, _, _, _, _, _, _, _, _, _, _, _, _, _, xb, yb, rfl, rfl, (Lib.hid (hI.out.upd hs.2 hx)), h0, h1, h2, h3, h4, h5, h6, h7, h8, h9, h10, h11, h12, h13, Lib.hid (fun _ => ⟨rfl, hx, hs.1⟩), Lib.hid (fun hb => ⟨(h15.out hb).1, (h15.out hb).2.1, (h15.out hb).2.2.upd hs.2 (fun e => n14_15.out (by simp [hd]) hb e.symm)⟩), n14_15, Lib.hid (fun _ => (by simp [hd])), g17⟩
        · skip
          obtain ⟨hn, hd⟩ := ready_at hr rfl
          simp [Region.binds] at hn hd
          obtain rfl := h13.out (by simp [hd])
          obtain ⟨hp, hx, hbk⟩ := h15.out (by simp [hd])
          subst hn hp
          have hbk : Blk W _ _ _ := hbk
          have hc := hbk.cell
          have hf := hbk.free
          refine wpOp_step rfl (fun K' hK => ?_)
          simp only [putAll, Act.put, List.setIfInBounds_toArray, List.set_cons_zero, List.set_cons_succ]
          go_simp
          have hs := hbk.put5 (.int .u8 y1) (.int .i64 y2) (.int .i64 y3) (.int .i64 y4) (.bool y5)
          exact hK _ _ ⟨_, by simp only [putAll, Act.put, List.setIfInBounds_toArray, List.set_cons_zero, List.set_cons_succ], b0, b1, b2, b3, b4, b5, b6, b7, b8, b9, b10, b11, b12, b13, b14, b15, b16, true, _, _, _, _, _, _, _, _, _, _, _, _, _, _, _, _, xb, yb, rfl, rfl, (Lib.hid (hI.out.upd hs.2 hx)), h0, h1, h2, h3, h4, h5, h6, h7, h8, h9, h10, h11, h12, h13, Lib.hid (fun hb => ⟨(h14.out hb).1, (h14.out hb).2.1, (h14.out hb).2.2.upd hs.2 (fun e => n14_15.out hb (by simp [hd]) e)⟩), Lib.hid (fun _ => ⟨rfl, hx, hs.1⟩), n14_15, g16, Lib.hid (fun _ => (by simp [hd]))⟩
      · rintro l us W ⟨b0, b1, b2, b3, b4, b5, b6, b7, b8, b9, b10, b11, b12, b13, b14, b15, b16, b17, v50, v51, v52, v53, v54, v55, v56, v57, v58, v59, v60, v61, v62, v63, v13, v14, xb, yb, rfl, rfl, hI, h0, h1, h2, h3, h4, h5, h6, h7, h8, h9, h10, h11, h12, h13, h14, h15, n14_15, g16, g17⟩ hall
        as_aux_lemma =>
        obtain rfl : b0 = true := by simpa using hall 0
        obtain rfl : b1 = true := by simpa using hall 1
        obtain rfl : b2 = true := by simpa using hall 2
        obtain rfl : b3 = true := by simpa using hall 3
        obtain rfl : b4 = true := by simpa using hall 4
        obtain rfl : b5 = true := by simpa using hall 5
        obtain rfl : b6 = true := by simpa using hall 6
        obtain rfl : b7 = true := by simpa using hall 7
        obtain rfl : b8 = true := by simpa using hall 8
        obtain rfl : b9 = true := by simpa using hall 9
        obtain rfl : b10 = true := by simpa using hall 10
        obtain rfl : b11 = true := by simpa using hall 11
        obtain rfl : b12 = true := by simpa using hall 12
        obtain rfl : b13 = true := by simpa using hall 13
        obtain rfl : b14 = true := by simpa using hall 14
        obtain rfl : b15 = true := by simpa using hall 15
        obtain rfl : b16 = true := by simpa using hall 16
        obtain rfl : b17 = true := by simpa using hall 17
        obtain rfl := h0.out rfl
        obtain rfl := h1.out rfl
        obtain rfl := h2.out rfl
        obtain rfl := h3.out rfl
        obtain rfl := h4.out rfl
        obtain rfl := h5.out rfl
        obtain rfl := h6.out rfl
        obtain rfl := h7.out rfl
        obtain rfl := h8.out rfl
        obtain rfl := h9.out rfl
        obtain rfl := h10.out rfl
        obtain rfl := h11.out rfl
        obtain rfl := h12.out rfl
        obtain rfl := h13.out rfl
        obtain ⟨rfl, hx14, hB14⟩ := h14.out rfl
        obtain ⟨rfl, hx15, hB15⟩ := h15.out rfl
        have S1 := Lib.hid hI.out.ad
        have HB14 := Lib.hid (show Blk W xb _ _ from hB14)
        have HB15 := Lib.hid (show Blk W yb _ _ from hB15)
        have hx2 : Hid (¬ yb = gb) := Lib.hid (by have h1 := hI.out.l1; omega)
        have hx : Hid (¬ xb = ga ∧ ¬ yb = ga ∧ w.heap.size ≤ xb ∧ w.heap.size ≤ yb) := Lib.hid (by have h1 := hI.out.l1; have h2 := hI.out.old; omega)
        clear hall hx14 hx15 hB14 hB15 hI HRI n14_15 HX HY
        simp only [putAll, Act.put, List.setIfInBounds_toArray, List.set_cons_zero, List.set_cons_succ]
        obtain ⟨q, hq⟩ : ∃ q, bits BinOp.and .i64 x2 255 = q := ⟨_, rfl⟩
        obtain ⟨p, hp⟩ : ∃ p, bits BinOp.and .i64 y2 255 = p := ⟨_, rfl⟩
        have hq0 : 0 ≤ q ∧ q ≤ 255 := by rw [← hq]; exact bits_255 x2
        have hp0 : 0 ≤ p ∧ p ≤ 255 := by rw [← hp]; exact bits_255 y2
        have hN0 : ¬ (N : Int) = 0 := by omega
        have hNb : ((N : Int) == 0) = false := by simpa using hN0
        have q0 : 0 ≤ q % N := Int.emod_nonneg _ hN0
        have q1 : q % N < N := Int.emod_lt_of_pos _ (by omega)
        have p0 : 0 ≤ p % N := Int.emod_nonneg _ hN0
        have p1 : p % N < N := Int.emod_lt_of_pos _ (by omega)
        have HXA : Hid (aOf N els k = q % N) := Lib.hid (by rw [hxa.out, hq])
        have HYA : Hid (turned M t (aOf N els) k = p % N) := Lib.hid (by unfold turned; rw [hrn.out, hya.out, hp])
        have HYV : Hid (turned M t (vOf els) k = y3) := Lib.hid (by unfold turned; rw [hrn.out, hyv.out])
        clear hya hyv hxa
        have c1 : W.cell? ⟨xb, 1, none⟩ = some (.int .i64 x2) := HB14.out.cell 1
        have c2 : W.cell? ⟨xb, 2, none⟩ = some (.int .i64 x3) := HB14.out.cell 2
        go_upto_region 11 with (fail)
        have t1 : q.tmod N = q % N := Int.tmod_eq_emod_of_nonneg hq0.1
        have t2 : p.tmod N = p % N := Int.tmod_eq_emod_of_nonneg hp0.1
        have t3 : IntKind.i64.wrap (q % N) = q % N := by rw [IntKind.wrap_i64]; omega
        have t4 : IntKind.i64.wrap (p % N) = p % N := by rw [IntKind.wrap_i64]; omega
        have hN4 : ¬ N = 0 := by omega
        go_still_tail 8, (by kernel_rfl)
        change wpList _ _ _ _ _ W.drew
        have S2 := Lib.hid S1.out.drew
        have HB15d := Lib.hid (show Blk W.drew yb _ _ from HB15.out)
        clear S1 HB14 HB15 c1 c2
        generalize W.drew = W4 at S2 HB15d ⊢
        go_wp2_with fail
        refine (Add_ex S2.out.a (q % N) x3 _ (tal_put HXA.out hxv.out q0 q1)).mono ?_
        rintro e w4 ⟨r4, rfl, hb, hU⟩
        have S3 := Lib.hid (S2.out.acca hb hU)
        have HB := Lib.hid (HB15d.out.upd hU (fun e => hx.out.2.1 e))
        have c1 : w4.cell? ⟨yb, 1, none⟩ = some (.int .i64 y2) := HB.out.cell 1
        have c2 : w4.cell? ⟨yb, 2, none⟩ = some (.int .i64 y3) := HB.out.cell 2
        clear hb hU S2 HB15d HXA hxv t1 t3 q0 q1 hq hq0
        go_upto_region 12 with (fail)
        go_still_tail 8, (by kernel_rfl)
        change wpList _ _ _ _ _ w4.drew
        have S4 := Lib.hid S3.out.drew
        clear S3 HB c1 c2
        generalize w4.drew = W5 at S4 ⊢
        go_wp2_with fail
        refine (Add_ex S4.out.b (p % N) y3 _ (tal_put HYA.out HYV.out p0 p1)).mono ?_
        rintro e w5 ⟨r5, rfl, hb, hU⟩
        have S5 := Lib.hid (S4.out.accb hb hU)
        clear hb hU S4 t2 t4 HYA HYV p0 p1 hp hp0
        go_wp2_with fail
        go_roundw
        case rel => exact ⟨k + 1, by go_num, by omega, S5⟩
        case measure => simp [intOf]; omega
    · as_aux_lemma =>
      obtain rfl : k = M := by omega
      obtain ⟨xs, hxs⟩ : ∃ xs, tal N (aOf N els) (vOf els) k = xs := ⟨_, rfl⟩
      have S2 : Hid (AD w ba ga bb gb xs xs wr) := Lib.hid (by have := S1.out; rw [tal_turned, hxs] at this; exact this)
      have HXS : Hid (xs = tal2 N (aOf N els) (vOf els) k 0) := Lib.hid (by rw [tal2_zero, hxs])
      have HXL : Hid (xs.length = N) := Lib.hid (by rw [← hxs, tal_len])
      clear S1 hxs hk hlt
      go_wp2_with fail
      go_loopw [84] (fun x wr => ∃ i : Nat, x = .int .i64 i ∧ i ≤ N ∧ Hid (AD w ba ga bb gb xs xs wr)) (fun x _ => N - (intOf x).toNat)
      case atStart => exact ⟨0, rfl, by omega, S2⟩
      case round =>
        obtain ⟨i, rfl, hi, S3⟩ := hrel
        clear S2
        by_cases hlt2 : i < N
        · obtain ⟨v, hv⟩ : ∃ v, bget xs (i : Int) = v := ⟨_, rfl⟩
          have HLA := Lib.hid (Load_is S3.out.a (i : Int) v hv)
          have HLB := Lib.hid (Load_is S3.out.b (i : Int) v hv)
          clear hv
          go_wp2_with fail
          refine HLA.out.mono ?_
          rintro e w' ⟨rfl, rfl⟩
          go_wp2_with fail
          refine HLB.out.mono ?_
          rintro e w' ⟨rfl, rfl⟩
          go_wp2_with fail
          go_roundw
          case rel => exact ⟨i + 1, by go_num, by omega, S3⟩
          case measure => simp [intOf]; omega
        · as_aux_lemma =>
          go_wp2_with fail
          have S4 : Hid (AD w ba ga bb gb (tal2 N (aOf N els) (vOf els) k 0) xs wr) := Lib.hid (by have := S3.out; rw [← HXS.out]; exact this)
          clear S3 HXS
          go_loopw [97] (fun x wr => ∃ j : Nat, x = .int .i64 j ∧ j ≤ k ∧ Hid (AD w ba ga bb gb (tal2 N (aOf N els) (vOf els) k j) xs wr)) (fun x _ => k - (intOf x).toNat)
          case atStart => exact ⟨0, rfl, by omega, S4⟩
          case round =>
            obtain ⟨j, rfl, hj, S5⟩ := hrel
            clear S4
            by_cases hlt3 : j < k
            · as_aux_lemma =>
              obtain ⟨b, off, rfl, hcc⟩ := HC.out.resolve_left (by omega)
              clear HC
              have HC := Lib.hid hcc
              clear hcc
              obtain ⟨x1, x2, x3, x4, x5, HX, hxa, hxv⟩ := opAt HF.out HC.out (k := j) (by omega) N
              obtain ⟨q, hq⟩ : ∃ q, bits BinOp.and .i64 x2 255 = q := ⟨_, rfl⟩
              have hq0 : 0 ≤ q ∧ q ≤ 255 := by rw [← hq]; exact bits_255 x2
              have hN0 : ¬ (N : Int) = 0 := by omega
              have hNb : ((N : Int) == 0) = false := by simpa using hN0
              have q0 : 0 ≤ q % N := Int.emod_nonneg _ hN0
              have q1 : q % N < N := Int.emod_lt_of_pos _ (by omega)
              have HXA : Hid (aOf N els j = q % N) := Lib.hid (by rw [hxa.out, hq])
              obtain ⟨e0, e1, e2, e3, e4⟩ := HX.out.kept S5.out.kp
              have S6 := Lib.hid (S5.out.kept ((Upd.refl _ _).alloc (.cells #[.int .u8 x1, .int .i64 x2, .int .i64 x3, .int .i64 x4, .bool x5] 45)))
              have hb : Hid (¬ wr.heap.size = ga ∧ w.heap.size ≤ wr.heap.size) := Lib.hid (by have h1 := S5.out.a.row.lt; have h2 := S5.out.kp.size; omega)
              have HXB := Lib.hid (Blk.new wr #[.int .u8 x1, .int .i64 x2, .int .i64 x3, .int .i64 x4, .bool x5] 45)
              have c1 : (wr.alloc (.cells #[.int .u8 x1, .int .i64 x2, .int .i64 x3, .int .i64 x4, .bool x5] 45)).cell? ⟨wr.heap.size, 1, none⟩ = some (.int .i64 x2) := HXB.out.cell 1
              have c2 : (wr.alloc (.cells #[.int .u8 x1, .int .i64 x2, .int .i64 x3, .int .i64 x4, .bool x5] 45)).cell? ⟨wr.heap.size, 2, none⟩ = some (.int .i64 x3) := HXB.out.cell 2
              clear HC HF HT S5 HX hxa hN
              go_upto_region 23 with (fail)
              obtain ⟨W, hW⟩ : ∃ W, wr.alloc (.cells #[.int .u8 x1, .int .i64 x2, .int .i64 x3, .int .i64 x4, .bool x5] 45) = W := ⟨_, rfl⟩
              obtain ⟨xb, hxb⟩ : ∃ xb, wr.heap.size = xb := ⟨_, rfl⟩
              rw [hW] at S6 HXB c1 c2 ⊢
              rw [hxb] at hb HXB c1 c2 ⊢
              have hbx := Lib.hid hb.out
              clear hb hW hxb e0 e1 e2 e3 e4
              have t1 : q.tmod N = q % N := Int.tmod_eq_emod_of_nonneg hq0.1
              have t3 : IntKind.i64.wrap (q % N) = q % N := by rw [IntKind.wrap_i64]; omega
              have hN4 : ¬ N = 0 := by omega
              go_still_tail 9, (by kernel_rfl)
              change wpList _ _ _ _ _ W.drew
              have S6d := Lib.hid S6.out.drew
              clear S6 HXB c1 c2
              generalize W.drew = W4 at S6d ⊢
              go_wp2_with fail
              refine (Add_ex S6d.out.a (q % N) _ _ (tal2_put HXA.out hxv.out q0 q1)).mono ?_
              rintro e w5 ⟨r5, rfl, hb, hU⟩
              have S7 := Lib.hid (S6d.out.acca hb hU)
              clear hb hU S6d HXA hxv q0 q1 hq hq0 t1 t3
              go_wp2_with fail
              go_roundw
              case rel => exact ⟨j + 1, by go_num, by omega, S7⟩
              case measure => simp [intOf]; omega
            · as_aux_lemma =>
              obtain rfl : j = k := by omega
              have S6 : Hid (AD w ba ga bb gb (List.replicate N 0) xs wr) := Lib.hid (by have := S5.out; rw [tal2_all] at this; exact this)
              clear S5 hj hlt3
              go_wp2_with fail
              refine (all_ad S6.out (n := N) (by simp)).mono ?_
              rintro e w7 ⟨g3, rfl, hI, hk7⟩
              have HI := Lib.hid hI
              have HK7 := Lib.hid hk7
              clear hI hk7 S6
              go_wp2_with fail
              go_loop [115] (fun x => ∃ i : Nat, x = .int .i64 i ∧ i ≤ N) (fun x => N - (intOf x).toNat)
              case atStart => exact ⟨0, rfl, by omega⟩
              case round =>
                obtain ⟨i, rfl, hi⟩ := hrel
                by_cases hlt4 : i < N
                · have c1 : w7.cell? ⟨g3, i, none⟩ = some (.int .i64 0) := by rw [HI.out.cell]; simp [hlt4]
                  go_wp2
                  go_round
                  case rel => exact ⟨i + 1, by go_num, by omega⟩
                  case measure => simp [intOf]; omega
                · go_wp2_with fail
                  refine (awake_any _).mono ?_
                  rintro e w8 ⟨rfl, hk8⟩
                  go_wp2
                  go_ret
                  exact ⟨rfl, HK7.out.trans hk8⟩
end Go.Proofs.Ytnffnpolkkgnhaa
