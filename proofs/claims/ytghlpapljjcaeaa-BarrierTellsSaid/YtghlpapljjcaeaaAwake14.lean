/- The statements' own examples (layer 14). -/
import Derived.Test.YtghlpapljjcaeaaBarGo
import Derived.Test.YtghlpapljjcaeaaRegion
namespace Go.Proofs.Ytghlpapljjcaeaa
set_option linter.unusedVariables false
open Go.RowKit

theorem Blk.set17 {w : World} {b : Nat} {T : TypeId} {z0 z1 z2 z3 z4 z5 z6 z7 z8 z9 z10 z11 z12 z13 z14 z15 z16 : Value} (h : Blk w b #[z0, z1, z2, z3, z4, z5, z6, z7, z8, z9, z10, z11, z12, z13, z14, z15, z16] T) (a0 a1 a2 a3 a4 a5 a6 a7 a8 a9 a10 a11 a12 a13 a14 a15 a16 : Value) :
    Blk (((((((((((((((((w.setCell ⟨b, 0, none⟩ a0).setCell ⟨b, 1, none⟩ a1).setCell ⟨b, 2, none⟩ a2).setCell ⟨b, 3, none⟩ a3).setCell ⟨b, 4, none⟩ a4).setCell ⟨b, 5, none⟩ a5).setCell ⟨b, 6, none⟩ a6).setCell ⟨b, 7, none⟩ a7).setCell ⟨b, 8, none⟩ a8).setCell ⟨b, 9, none⟩ a9).setCell ⟨b, 10, none⟩ a10).setCell ⟨b, 11, none⟩ a11).setCell ⟨b, 12, none⟩ a12).setCell ⟨b, 13, none⟩ a13).setCell ⟨b, 14, none⟩ a14).setCell ⟨b, 15, none⟩ a15).setCell ⟨b, 16, none⟩ a16) b #[a0, a1, a2, a3, a4, a5, a6, a7, a8, a9, a10, a11, a12, a13, a14, a15, a16] T ∧ Upd (fun k => k = b) w (((((((((((((((((w.setCell ⟨b, 0, none⟩ a0).setCell ⟨b, 1, none⟩ a1).setCell ⟨b, 2, none⟩ a2).setCell ⟨b, 3, none⟩ a3).setCell ⟨b, 4, none⟩ a4).setCell ⟨b, 5, none⟩ a5).setCell ⟨b, 6, none⟩ a6).setCell ⟨b, 7, none⟩ a7).setCell ⟨b, 8, none⟩ a8).setCell ⟨b, 9, none⟩ a9).setCell ⟨b, 10, none⟩ a10).setCell ⟨b, 11, none⟩ a11).setCell ⟨b, 12, none⟩ a12).setCell ⟨b, 13, none⟩ a13).setCell ⟨b, 14, none⟩ a14).setCell ⟨b, 15, none⟩ a15).setCell ⟨b, 16, none⟩ a16) := by
  refine ⟨?_, (((((((((((((((((Upd.refl (fun k => k = b) w).setCell (S := fun k => k = b) (p := ⟨b, 0, none⟩) (.inl rfl) a0).setCell (S := fun k => k = b) (p := ⟨b, 1, none⟩) (.inl rfl) a1).setCell (S := fun k => k = b) (p := ⟨b, 2, none⟩) (.inl rfl) a2).setCell (S := fun k => k = b) (p := ⟨b, 3, none⟩) (.inl rfl) a3).setCell (S := fun k => k = b) (p := ⟨b, 4, none⟩) (.inl rfl) a4).setCell (S := fun k => k = b) (p := ⟨b, 5, none⟩) (.inl rfl) a5).setCell (S := fun k => k = b) (p := ⟨b, 6, none⟩) (.inl rfl) a6).setCell (S := fun k => k = b) (p := ⟨b, 7, none⟩) (.inl rfl) a7).setCell (S := fun k => k = b) (p := ⟨b, 8, none⟩) (.inl rfl) a8).setCell (S := fun k => k = b) (p := ⟨b, 9, none⟩) (.inl rfl) a9).setCell (S := fun k => k = b) (p := ⟨b, 10, none⟩) (.inl rfl) a10).setCell (S := fun k => k = b) (p := ⟨b, 11, none⟩) (.inl rfl) a11).setCell (S := fun k => k = b) (p := ⟨b, 12, none⟩) (.inl rfl) a12).setCell (S := fun k => k = b) (p := ⟨b, 13, none⟩) (.inl rfl) a13).setCell (S := fun k => k = b) (p := ⟨b, 14, none⟩) (.inl rfl) a14).setCell (S := fun k => k = b) (p := ⟨b, 15, none⟩) (.inl rfl) a15).setCell (S := fun k => k = b) (p := ⟨b, 16, none⟩) (.inl rfl) a16⟩
  have := (((((((((((((((((h.set 0 a0).set 1 a1).set 2 a2).set 3 a3).set 4 a4).set 5 a5).set 6 a6).set 7 a7).set 8 a8).set 9 a9).set 10 a10).set 11 a11).set 12 a12).set 13 a13).set 14 a14).set 15 a15).set 16 a16)
  simpa using this
theorem newArr_two (w : World) : Calls Try.prog 13 #[.agg #[.int .i64 2, .int .i64 1, .int .i64 2, .int .i64 2, .int .i64 0, .int .i64 1, .int .i64 3, .int .i64 5, .int .i64 7, .int .i64 8, .int .i64 9, .int .i64 10, .int .i64 11, .int .i64 19]] w fun e w' => e = .returned (.agg #[.int .i64 2, .int .i64 1, .int .i64 2, .int .i64 2, .int .i64 0, .int .i64 1, .int .i64 3, .int .i64 5, .int .i64 7, .int .i64 8, .int .i64 9, .int .i64 10, .int .i64 11, .int .i64 19, .int .u8 0, .int .i64 0, .bool false]) ∧ Kept w w' := NewArrive_any 2 19 w
structure AI (w : World) (pb bb g : Nat) (w2 W : World) : Prop where
  box : Blk W pb #[.int .i64 2, .int .i64 1, .int .i64 2, .int .i64 2, .int .i64 0, .int .i64 1, .int .i64 3, .int .i64 5, .int .i64 7, .int .i64 8, .int .i64 9, .int .i64 10, .int .i64 11, .int .i64 19] 28
  bank : Bnk W bb g (bq (List.replicate 19 0) 2 0)
  kp : Kept w W
  old : w.heap.size ≤ w2.heap.size
  up : w2.heap.size ≤ W.heap.size
  lts : pb < w2.heap.size ∧ bb < w2.heap.size ∧ g < w2.heap.size ∧ ¬ pb = g
theorem AI.kept {w w2 W W' : World} {pb bb g : Nat} (h : AI w pb bb g w2 W) (hk : Kept W W') : AI w pb bb g w2 W' := ⟨h.box.kept hk, h.bank.kept hk, h.kp.trans hk, h.old, Nat.le_trans h.up hk.size, h.lts⟩
theorem AI.upd {w w2 W W' : World} {pb bb g xb : Nat} (h : AI w pb bb g w2 W) (hU : Upd (fun k => k = xb) W W') (hx : w2.heap.size ≤ xb) : AI w pb bb g w2 W' := by
  have h1 := h.lts
  have h2 := h.old
  exact ⟨h.box.upd hU (fun e => by omega), h.bank.upd hU (fun e => by omega) (fun e => by omega), h.kp.then hU (fun i hi e => by omega), h.old, Nat.le_trans h.up hU.size, h.lts⟩
structure AW (w : World) (pb bb g xb yb : Nat) (mx my : MS) (c q : Int) (W : World) : Prop where
  box : Blk W pb #[.int .i64 2, .int .i64 1, .int .i64 2, .int .i64 2, .int .i64 0, .int .i64 1, .int .i64 3, .int .i64 5, .int .i64 7, .int .i64 8, .int .i64 9, .int .i64 10, .int .i64 11, .int .i64 19] 28
  bank : Bnk W bb g (bq (List.replicate 19 0) c q)
  kp : Kept w W
  X : Mach W xb 2 19 [mx]
  Y : Mach W yb 2 19 [my]
  old : w.heap.size ≤ g ∧ w.heap.size ≤ xb ∧ w.heap.size ≤ yb
  ne : ¬ xb = yb ∧ ¬ pb = g ∧ ¬ pb = xb ∧ ¬ pb = yb ∧ ¬ xb = g ∧ ¬ xb = bb ∧ ¬ yb = g ∧ ¬ yb = bb
theorem AW.stepx {w W W' : World} {pb bb g xb yb : Nat} {mx mx' my : MS} {c q c' q' : Int} {z : Bool} {e : Ending} (h : AW w pb bb g xb yb mx my c q W) (hs : Stp xb bb g 2 19 [mx'] (bq (List.replicate 19 0) c' q') z W e W') : AW w pb bb g xb yb mx' my c' q' W' := by
  obtain ⟨_, hM, hB, hU⟩ := hs
  have h1 := h.old
  have h2 := h.ne
  exact ⟨h.box.upd hU (fun e => by omega), hB, h.kp.then hU (fun i hi e => by omega), hM, h.Y.upd hU (fun e => by omega), h1, h2⟩
theorem AW.stepy {w W W' : World} {pb bb g xb yb : Nat} {mx my my' : MS} {c q c' q' : Int} {z : Bool} {e : Ending} (h : AW w pb bb g xb yb mx my c q W) (hs : Stp yb bb g 2 19 [my'] (bq (List.replicate 19 0) c' q') z W e W') : AW w pb bb g xb yb mx my' c' q' W' := by
  obtain ⟨_, hM, hB, hU⟩ := hs
  have h1 := h.old
  have h2 := h.ne
  exact ⟨h.box.upd hU (fun e => by omega), hB, h.kp.then hU (fun i hi e => by omega), h.X.upd hU (fun e => by omega), hM, h1, h2⟩
/-- What the examples' first machine is like behind i steps; the second one. -/
def Xat (i : Nat) (m : MS) (c : Int) : Prop := (i = 0 ∧ m = ⟨0, 0, false⟩ ∧ c = 2) ∨ (i = 1 ∧ m = ⟨1, 1, false⟩ ∧ c = 2) ∨ (2 ≤ i ∧ m = ⟨4, 1, false⟩ ∧ c = 1)
def Yat (i : Nat) (m : MS) (c q : Int) : Prop := (i = 0 ∧ m = ⟨0, 0, false⟩ ∧ c = 1 ∧ q = 0) ∨ (i = 1 ∧ m = ⟨1, 1, false⟩ ∧ c = 1 ∧ q = 0) ∨ (i = 2 ∧ m = ⟨2, 1, true⟩ ∧ c = 0 ∧ q = 0) ∨ (i = 3 ∧ m = ⟨3, 1, true⟩ ∧ c = 2 ∧ q = 0) ∨ (i = 4 ∧ m = ⟨5, 1, true⟩ ∧ c = 2 ∧ q = 1)
theorem Xat.next {i : Nat} {m : MS} {c : Int} (h : Xat i m c) : ∃ m' c', bgo 2 m c 0 = (m', c', 0) ∧ (m'.nx == 5) = false ∧ 0 ≤ m.nx ∧ m.nx ≤ 5 ∧ Xat (i + 1) m' c' := by
  rcases h with ⟨rfl, rfl, rfl⟩ | ⟨rfl, rfl, rfl⟩ | ⟨hi, rfl, rfl⟩
  · exact ⟨_, _, rfl, rfl, by decide, by decide, .inr (.inl ⟨rfl, rfl, rfl⟩)⟩
  · exact ⟨⟨4, 1, false⟩, 1, by simp [bgo, wrap64], rfl, by decide, by decide, .inr (.inr ⟨by omega, rfl, rfl⟩)⟩
  · exact ⟨_, _, rfl, rfl, by decide, by decide, .inr (.inr ⟨by omega, rfl, rfl⟩)⟩
theorem Yat.next {i : Nat} {m : MS} {c q : Int} (h : Yat i m c q) (hi : i < 4) : ∃ m' c' q' z, bgo 2 m c q = (m', c', q') ∧ (m'.nx == 5) = z ∧ ((i : Int) == 3) = z ∧ 0 ≤ m.nx ∧ m.nx ≤ 5 ∧ Yat (i + 1) m' c' q' := by
  rcases h with ⟨rfl, rfl, rfl, rfl⟩ | ⟨rfl, rfl, rfl, rfl⟩ | ⟨rfl, rfl, rfl, rfl⟩ | ⟨rfl, rfl, rfl, rfl⟩ | ⟨rfl, rfl, rfl, rfl⟩
  · exact ⟨_, _, _, _, rfl, rfl, rfl, by decide, by decide, .inr (.inl ⟨rfl, rfl, rfl, rfl⟩)⟩
  · exact ⟨⟨2, 1, true⟩, 0, 0, false, by simp [bgo, wrap64], rfl, rfl, by decide, by decide, .inr (.inr (.inl ⟨rfl, rfl, rfl, rfl⟩))⟩
  · exact ⟨_, _, _, _, rfl, rfl, rfl, by decide, by decide, .inr (.inr (.inr (.inl ⟨rfl, rfl, rfl, rfl⟩)))⟩
  · exact ⟨_, _, _, _, rfl, rfl, rfl, by decide, by decide, .inr (.inr (.inr (.inr ⟨rfl, rfl, rfl, rfl⟩)))⟩
  · omega

set_option maxRecDepth 100000 in
set_option maxHeartbeats 1000000 in
theorem awake_any (w : World) : Calls Try.prog 9 #[] w fun e w' => e = .returned (.bool true) ∧ Kept w w' := by
  have HP := fun w => Lib.hid (bank_any 2 19 (by omega) (by omega) rfl w)
  go_enter Try.func9, Try.ntmps9
  go_wp2_with fail
  refine (HP _).out.mono ?_
  rintro e w1 ⟨bb, g, rfl, hB, hbb, hg, hk⟩
  have HB1 := Lib.hid (show Bnk w1 bb g (bq (List.replicate 19 0) 2 0) from hB)
  have HK1 := Lib.hid hk
  have HG := Lib.hid hg
  clear hB hk HP hbb hg
  go_wp2_with fail
  obtain ⟨pb, hpb⟩ : ∃ pb, w1.heap.size = pb := ⟨_, rfl⟩
  obtain ⟨w2, hw2⟩ : ∃ w2, w1.alloc (.cells #[.int .i64 2, .int .i64 1, .int .i64 2, .int .i64 2, .int .i64 0, .int .i64 1, .int .i64 3, .int .i64 5, .int .i64 7, .int .i64 8, .int .i64 9, .int .i64 10, .int .i64 11, .int .i64 19] 28) = w2 := ⟨_, rfl⟩
  have HAI : Hid (AI w pb bb g w2 w2) := Lib.hid (by
    have h1 := HB1.out.head.lt
    have h2 := HB1.out.row.lt
    have h3 := HK1.out.size
    have h4 : w2.heap.size = w1.heap.size + 1 := by rw [← hw2]; simp
    refine ⟨?_, ?_, ?_, by omega, by omega, by omega⟩
    · rw [← hw2]; exact Blk.newAt _ _ _ _ hpb.symm
    · rw [← hw2]; exact HB1.out.kept ((Upd.refl _ _).alloc _)
    · rw [← hw2]; exact HK1.out.alloc _)
  rw [hpb, hw2]
  have hog : Hid (w.heap.size ≤ g) := HG
  clear hw2 hpb HB1 HK1 HG
  refine wp_region_inv (fun l us W => ∃ (b0 b1 b2 b3 b4 b5 b6 b7 : Bool) (v14 v15 v16 v17 v4 v5 : Value) (xb yb : Nat), l = #[b0, b1, b2, b3, b4, b5, b6, b7] ∧ us = [v14, v15, v16, v17, v4, v5] ∧ Hid (AI w pb bb g w2 W) ∧
      Hid (b0 = true → v14 = .agg #[.int .i64 2, .int .i64 1, .int .i64 2, .int .i64 2, .int .i64 0, .int .i64 1, .int .i64 3, .int .i64 5, .int .i64 7, .int .i64 8, .int .i64 9, .int .i64 10, .int .i64 11, .int .i64 19]) ∧ Hid (b2 = true → v16 = .agg #[.int .i64 2, .int .i64 1, .int .i64 2, .int .i64 2, .int .i64 0, .int .i64 1, .int .i64 3, .int .i64 5, .int .i64 7, .int .i64 8, .int .i64 9, .int .i64 10, .int .i64 11, .int .i64 19]) ∧ Hid (b1 = true → v15 = .agg #[.int .i64 2, .int .i64 1, .int .i64 2, .int .i64 2, .int .i64 0, .int .i64 1, .int .i64 3, .int .i64 5, .int .i64 7, .int .i64 8, .int .i64 9, .int .i64 10, .int .i64 11, .int .i64 19, .int .u8 0, .int .i64 0, .bool false]) ∧ Hid (b3 = true → v17 = .agg #[.int .i64 2, .int .i64 1, .int .i64 2, .int .i64 2, .int .i64 0, .int .i64 1, .int .i64 3, .int .i64 5, .int .i64 7, .int .i64 8, .int .i64 9, .int .i64 10, .int .i64 11, .int .i64 19, .int .u8 0, .int .i64 0, .bool false]) ∧
      Hid (b4 = true → v4 = .pointer (some ⟨xb, 0, none⟩) ∧ w2.heap.size ≤ xb ∧ Blk W xb (if b6 then #[.int .i64 2, .int .i64 1, .int .i64 2, .int .i64 2, .int .i64 0, .int .i64 1, .int .i64 3, .int .i64 5, .int .i64 7, .int .i64 8, .int .i64 9, .int .i64 10, .int .i64 11, .int .i64 19, .int .u8 0, .int .i64 0, .bool false] else #[.int .i64 0, .int .i64 0, .int .i64 0, .int .i64 0, .int .i64 0, .int .i64 0, .int .i64 0, .int .i64 0, .int .i64 0, .int .i64 0, .int .i64 0, .int .i64 0, .int .i64 0, .int .i64 0, .int .u8 0, .int .i64 0, .bool false]) 46) ∧
      Hid (b5 = true → v5 = .pointer (some ⟨yb, 0, none⟩) ∧ w2.heap.size ≤ yb ∧ Blk W yb (if b7 then #[.int .i64 2, .int .i64 1, .int .i64 2, .int .i64 2, .int .i64 0, .int .i64 1, .int .i64 3, .int .i64 5, .int .i64 7, .int .i64 8, .int .i64 9, .int .i64 10, .int .i64 11, .int .i64 19, .int .u8 0, .int .i64 0, .bool false] else #[.int .i64 0, .int .i64 0, .int .i64 0, .int .i64 0, .int .i64 0, .int .i64 0, .int .i64 0, .int .i64 0, .int .i64 0, .int .i64 0, .int .i64 0, .int .i64 0, .int .i64 0, .int .i64 0, .int .u8 0, .int .i64 0, .bool false]) 46) ∧ Hid (b4 = true → b5 = true → ¬ xb = yb) ∧ Hid (b6 = true → b4 = true) ∧ Hid (b7 = true → b5 = true)) [14, 15, 16, 17, 4, 5] [undef, undef, undef, undef, undef, undef] (by kernel_rfl) (by kernel_rfl) (by rfl) ?_ ?_ ?_
  · exact ⟨false, false, false, false, false, false, false, false, _, _, _, _, _, _, 0, 0, rfl, rfl, Lib.hid (HAI.out.kept (Upd.refl _ _).drew), Lib.hid (by simp), Lib.hid (by simp), Lib.hid (by simp), Lib.hid (by simp), Lib.hid (by simp), Lib.hid (by simp), Lib.hid (by simp), Lib.hid (by simp), Lib.hid (by simp)⟩
  · rintro i l us W ⟨b0, b1, b2, b3, b4, b5, b6, b7, v14, v15, v16, v17, v4, v5, xb, yb, rfl, rfl, hI, h0, h2, h1, h3, h4, h5, h45, h6, h7⟩ hr
    have hi8 : i = 0 ∨ i = 1 ∨ i = 2 ∨ i = 3 ∨ i = 4 ∨ i = 5 ∨ i = 6 ∨ i = 7 := by
      have := ready_lt hr
      simp at this
      omega
    rcases hi8 with rfl | rfl | rfl | rfl | rfl | rfl | rfl | rfl
    · obtain ⟨hn, hd⟩ := ready_at hr rfl
      simp [Region.binds] at hn hd
      have hc := hI.out.box.cell
      refine wpOp_step rfl (fun K' hK => ?_)
      simp only [putAll, Act.put, List.setIfInBounds_toArray, List.set_cons_zero, List.set_cons_succ]
      go_simp
      exact hK _ _ ⟨_, by rfl, true, b1, b2, b3, b4, b5, b6, b7, _, _, _, _, _, _, xb, yb, rfl, rfl, hI, Lib.hid (fun _ => rfl), h2, h1, h3, h4, h5, h45, h6, h7⟩
    · obtain ⟨hn, hd⟩ := ready_at hr rfl
      simp [Region.binds] at hn hd
      obtain rfl := h0.out hd
      refine wpOp_step rfl (fun K' hK => ?_)
      simp only [putAll, Act.put, List.setIfInBounds_toArray, List.set_cons_zero, List.set_cons_succ]
      go_simp
      refine (newArr_two _).mono ?_
      rintro e w' ⟨rfl, hk⟩
      exact hK _ _ ⟨_, by rfl, b0, true, b2, b3, b4, b5, b6, b7, _, _, _, _, _, _, xb, yb, rfl, rfl, Lib.hid (hI.out.kept hk), h0, h2, Lib.hid (fun _ => rfl), h3, Lib.hid (fun hb => ⟨(h4.out hb).1, (h4.out hb).2.1, (h4.out hb).2.2.kept hk⟩), Lib.hid (fun hb => ⟨(h5.out hb).1, (h5.out hb).2.1, (h5.out hb).2.2.kept hk⟩), h45, h6, h7⟩
    · obtain ⟨hn, hd⟩ := ready_at hr rfl
      simp [Region.binds] at hn hd
      have hc := hI.out.box.cell
      refine wpOp_step rfl (fun K' hK => ?_)
      simp only [putAll, Act.put, List.setIfInBounds_toArray, List.set_cons_zero, List.set_cons_succ]
      go_simp
      exact hK _ _ ⟨_, by rfl, b0, b1, true, b3, b4, b5, b6, b7, _, _, _, _, _, _, xb, yb, rfl, rfl, hI, h0, Lib.hid (fun _ => rfl), h1, h3, h4, h5, h45, h6, h7⟩
    · obtain ⟨hn, hd⟩ := ready_at hr rfl
      simp [Region.binds] at hn hd
      obtain rfl := h2.out hd.1
      refine wpOp_step rfl (fun K' hK => ?_)
      simp only [putAll, Act.put, List.setIfInBounds_toArray, List.set_cons_zero, List.set_cons_succ]
      go_simp
      refine (newArr_two _).mono ?_
      rintro e w' ⟨rfl, hk⟩
      exact hK _ _ ⟨_, by rfl, b0, b1, b2, true, b4, b5, b6, b7, _, _, _, _, _, _, xb, yb, rfl, rfl, Lib.hid (hI.out.kept hk), h0, h2, h1, Lib.hid (fun _ => rfl), Lib.hid (fun hb => ⟨(h4.out hb).1, (h4.out hb).2.1, (h4.out hb).2.2.kept hk⟩), Lib.hid (fun hb => ⟨(h5.out hb).1, (h5.out hb).2.1, (h5.out hb).2.2.kept hk⟩), h45, h6, h7⟩
    · obtain ⟨hn, hd⟩ := ready_at hr rfl
      simp [Region.binds] at hn hd
      have hb6 : b6 = false := by cases b6 with | false => rfl | true => (have := h6.out rfl; rw [hn] at this; cases this)
      refine wpOp_step rfl (fun K' hK => ?_)
      simp only [putAll, Act.put, List.setIfInBounds_toArray, List.set_cons_zero, List.set_cons_succ]
      subst hb6
      go_simp
      exact hK _ _ ⟨_, by rfl, b0, b1, b2, b3, true, b5, false, b7, _, _, _, _, _, _, W.heap.size, yb, rfl, rfl, Lib.hid (hI.out.kept ((Upd.refl _ _).alloc _)), h0, h2, h1, h3, Lib.hid (fun _ => ⟨rfl, hI.out.up, Blk.new _ _ _⟩), Lib.hid (fun hb => ⟨(h5.out hb).1, (h5.out hb).2.1, (h5.out hb).2.2.kept ((Upd.refl _ _).alloc _)⟩), Lib.hid (fun _ hb e => by have := (h5.out hb).2.2.lt; omega), Lib.hid (by simp), h7⟩
    · obtain ⟨hn, hd⟩ := ready_at hr rfl
      simp [Region.binds] at hn hd
      have hb7 : b7 = false := by cases b7 with | false => rfl | true => (have := h7.out rfl; rw [hn] at this; cases this)
      refine wpOp_step rfl (fun K' hK => ?_)
      simp only [putAll, Act.put, List.setIfInBounds_toArray, List.set_cons_zero, List.set_cons_succ]
      subst hb7
      go_simp
      exact hK _ _ ⟨_, by rfl, b0, b1, b2, b3, b4, true, b6, false, _, _, _, _, _, _, xb, W.heap.size, rfl, rfl, Lib.hid (hI.out.kept ((Upd.refl _ _).alloc _)), h0, h2, h1, h3, Lib.hid (fun hb => ⟨(h4.out hb).1, (h4.out hb).2.1, (h4.out hb).2.2.kept ((Upd.refl _ _).alloc _)⟩), Lib.hid (fun _ => ⟨rfl, hI.out.up, Blk.new _ _ _⟩), Lib.hid (fun hb _ e => by have := (h4.out hb).2.2.lt; omega), h6, Lib.hid (by simp)⟩
    · obtain ⟨hn, hd⟩ := ready_at hr rfl
      simp [Region.binds] at hn hd
      obtain ⟨hp, hx, hbk⟩ := h4.out (by simp [hd])
      refine wpOp_step rfl (fun K' hK => ?_)
      simp only [putAll, Act.put, List.setIfInBounds_toArray, List.set_cons_zero, List.set_cons_succ]
      subst hn hp
      obtain rfl := h1.out (by simp [hd])
      have hne := h45.out (by simp [hd]) (by simp [hd])
      have hbk : Blk W _ _ _ := hbk
      have hc := hbk.cell
      have hf := hbk.free
      go_simp
      have hs := hbk.set17 (.int .i64 2) (.int .i64 1) (.int .i64 2) (.int .i64 2) (.int .i64 0) (.int .i64 1) (.int .i64 3) (.int .i64 5) (.int .i64 7) (.int .i64 8) (.int .i64 9) (.int .i64 10) (.int .i64 11) (.int .i64 19) (.int .u8 0) (.int .i64 0) (.bool false)
      exact hK _ _ ⟨_, by rfl, b0, b1, b2, b3, b4, b5, true, b7, _, _, _, _, _, _, xb, yb, rfl, rfl, Lib.hid (hI.out.upd hs.2 hx), h0, h2, h1, h3, Lib.hid (fun _ => ⟨rfl, hx, hs.1⟩), Lib.hid (fun hb => ⟨(h5.out hb).1, (h5.out hb).2.1, (h5.out hb).2.2.upd hs.2 (fun e => hne e.symm)⟩), h45, Lib.hid (fun _ => (by simp [hd])), h7⟩
    · obtain ⟨hn, hd⟩ := ready_at hr rfl
      simp [Region.binds] at hn hd
      obtain ⟨hp, hx, hbk⟩ := h5.out (by simp [hd])
      refine wpOp_step rfl (fun K' hK => ?_)
      simp only [putAll, Act.put, List.setIfInBounds_toArray, List.set_cons_zero, List.set_cons_succ]
      subst hn hp
      obtain rfl := h3.out (by simp [hd])
      have hne := h45.out (h6.out (by simp [hd])) (by simp [hd])
      have hbk : Blk W _ _ _ := hbk
      have hc := hbk.cell
      have hf := hbk.free
      go_simp
      have hs := hbk.set17 (.int .i64 2) (.int .i64 1) (.int .i64 2) (.int .i64 2) (.int .i64 0) (.int .i64 1) (.int .i64 3) (.int .i64 5) (.int .i64 7) (.int .i64 8) (.int .i64 9) (.int .i64 10) (.int .i64 11) (.int .i64 19) (.int .u8 0) (.int .i64 0) (.bool false)
      exact hK _ _ ⟨_, by rfl, b0, b1, b2, b3, b4, b5, b6, true, _, _, _, _, _, _, xb, yb, rfl, rfl, Lib.hid (hI.out.upd hs.2 hx), h0, h2, h1, h3, Lib.hid (fun hb => ⟨(h4.out hb).1, (h4.out hb).2.1, (h4.out hb).2.2.upd hs.2 (fun e => hne e)⟩), Lib.hid (fun _ => ⟨rfl, hx, hs.1⟩), h45, h6, Lib.hid (fun _ => (by simp [hd]))⟩
  · rintro l us W ⟨b0, b1, b2, b3, b4, b5, b6, b7, v14, v15, v16, v17, v4, v5, xb, yb, rfl, rfl, hI, h0, h2, h1, h3, h4, h5, h45, h6, h7⟩ hall
    obtain rfl : b0 = true := by simpa using hall 0
    obtain rfl : b1 = true := by simpa using hall 1
    obtain rfl : b2 = true := by simpa using hall 2
    obtain rfl : b3 = true := by simpa using hall 3
    obtain rfl : b4 = true := by simpa using hall 4
    obtain rfl : b5 = true := by simpa using hall 5
    obtain rfl : b6 = true := by simpa using hall 6
    obtain rfl : b7 = true := by simpa using hall 7
    obtain rfl := h0.out rfl
    obtain rfl := h1.out rfl
    obtain rfl := h2.out rfl
    obtain rfl := h3.out rfl
    obtain ⟨rfl, hx, hX⟩ := h4.out rfl
    obtain ⟨rfl, hy, hY⟩ := h5.out rfl
    have hne := h45.out rfl rfl
    have S0 : Hid (AW w pb bb g xb yb ⟨0, 0, false⟩ ⟨0, 0, false⟩ 2 0 W) := Lib.hid (by
      have hI := hI.out
      have h1 := hI.lts
      have h2 := hI.old
      have h3 := hog.out
      exact ⟨hI.box, hI.bank, hI.kp, Mach.one hX, Mach.one hY, by omega, by omega⟩)
    clear hX hY hI hall h0 h1 h2 h3 h4 h5 h45 h6 h7 HAI hx hy hne hog
    simp only [putAll, Act.put, List.setIfInBounds_toArray, List.set_cons_zero, List.set_cons_succ]
    have hzz : ∀ z : Bool, (z != z) = false := fun z => by cases z <;> rfl
    as_aux_lemma =>
      go_wp2_with fail
      go_loopw [18] (fun x wr => ∃ (i : Nat) (m : MS) (c : Int), x = .int .i64 i ∧ i ≤ 5 ∧ Hid (Xat i m c) ∧ Hid (AW w pb bb g xb yb m ⟨0, 0, false⟩ c 0 wr)) (fun x _ => 5 - (intOf x).toNat)
      case atStart => exact ⟨0, _, _, rfl, by omega, Lib.hid (.inl ⟨rfl, rfl, rfl⟩), S0⟩
      case round =>
        obtain ⟨i, m, c, rfl, hi, HXa, S1⟩ := hrel
        clear S0
        by_cases hlt : i < 5
        · obtain ⟨m', c', hg, hz, hm0, hm5, hnx⟩ := HXa.out.next
          have HS := Lib.hid (one_bq hg hz hm0 hm5 S1.out.X S1.out.bank (by simp) ⟨S1.out.ne.2.2.2.2.1, S1.out.ne.2.2.2.2.2.1⟩)
          have HXn := Lib.hid hnx
          clear HXa hg hz hm0 hm5 hnx
          go_wp2_with fail
          refine HS.out.mono ?_
          rintro e w3 hs
          obtain rfl := hs.1
          have S2 := Lib.hid (S1.out.stepx hs)
          clear hs HS S1
          go_wp2_with fail
          go_roundw
          case rel => exact ⟨i + 1, m', c', by go_num, by omega, HXn, S2⟩
          case measure => simp [intOf]; omega
        · have hi5 : 5 ≤ i := by omega
          obtain ⟨rfl, rfl⟩ : m = ⟨4, 1, false⟩ ∧ c = 1 := by
            rcases HXa.out with ⟨h, _⟩ | ⟨h, _⟩ | ⟨_, h1, h2⟩
            · omega
            · omega
            · exact ⟨h1, h2⟩
          clear HXa
          obtain ⟨wo, rfl⟩ : ∃ wo : World, wo = wr := ⟨_, rfl⟩
          go_wp2_with fail
          go_loopw [23] (fun x wr => ∃ (i : Nat) (m : MS) (c q : Int), x = .int .i64 i ∧ i ≤ 4 ∧ Hid (Yat i m c q) ∧ Hid (AW w pb bb g xb yb ⟨4, 1, false⟩ m c q wr)) (fun x _ => 4 - (intOf x).toNat)
          case atStart => exact ⟨0, _, _, _, rfl, by omega, Lib.hid (.inl ⟨rfl, rfl, rfl, rfl⟩), S1⟩
          case round =>
            obtain ⟨i, m, c, q, rfl, hi, HYa, S2⟩ := hrel
            clear S1
            by_cases hlt : i < 4
            · obtain ⟨m', c', q', z, hg, hz, hz3, hm0, hm5, hnx⟩ := HYa.out.next hlt
              have HS := Lib.hid (one_bq hg hz hm0 hm5 S2.out.Y S2.out.bank (by simp) ⟨S2.out.ne.2.2.2.2.2.2.1, S2.out.ne.2.2.2.2.2.2.2⟩)
              have HYn := Lib.hid hnx
              have hzz := hzz z
              clear HYa hg hz hm0 hm5 hnx
              go_wp2_with fail
              refine HS.out.mono ?_
              rintro e w3 hs
              obtain rfl := hs.1
              have S3 := Lib.hid (S2.out.stepy hs)
              clear hs HS S2
              go_wp2_with fail
              clear hz3 hzz
              go_roundw
              case rel => exact ⟨i + 1, m', c', q', by go_num, by omega, HYn, S3⟩
              case measure => simp [intOf]; omega
            · obtain rfl : i = 4 := by omega
              obtain ⟨rfl, rfl, rfl⟩ : m = ⟨5, 1, true⟩ ∧ c = 2 ∧ q = 1 := by
                rcases HYa.out with ⟨h, _⟩ | ⟨h, _⟩ | ⟨h, _⟩ | ⟨h, _⟩ | ⟨_, h1, h2, h3⟩
                · omega
                · omega
                · omega
                · omega
                · exact ⟨h1, h2, h3⟩
              clear HYa
              go_wp2_with fail
              refine (one_last (z := true) S2.out.Y rfl).mono ?_
              rintro e w' ⟨rfl, rfl⟩
              go_wp2_with fail
              refine (one_last (z := false) S2.out.X rfl).mono ?_
              rintro e w' ⟨rfl, rfl⟩
              have HS := Lib.hid (one_bq (m := ⟨4, 1, false⟩) (m' := ⟨5, 1, false⟩) (c := 2) (q := 1) (c' := 2) (q' := 1) (z := true) rfl rfl (by decide) (by decide) S2.out.X S2.out.bank (by simp) ⟨S2.out.ne.2.2.2.2.1, S2.out.ne.2.2.2.2.2.1⟩)
              go_wp2_with fail
              refine HS.out.mono ?_
              rintro e w3 hs
              obtain rfl := hs.1
              have S3 := Lib.hid (S2.out.stepx hs)
              have cl := S3.out.box.cell
              clear hs HS S2
              go_wp2_with fail
              refine (load_9 S3.out.bank (by simp)).mono ?_
              rintro e w' ⟨rfl, rfl⟩
              go_wp2_with fail
              refine (load_10 S3.out.bank (by simp)).mono ?_
              rintro e w' ⟨rfl, rfl⟩
              go_wp2
              go_ret
              exact ⟨rfl, S3.out.kp⟩
end Go.Proofs.Ytghlpapljjcaeaa
