/- The law CellsPlan. -/
import Derived.Test.YtnffnpolkkgnhaaRefPlan
import Derived.Test.YtnffnpolkkgnhaaPlan2
import Derived.Test.YtnffnpolkkgnhaaAwake10
import Derived.Test.YtnffnpolkkgnhaaBase2
import Derived.Test.YtnffnpolkkgnhaaRegion
namespace Go.Proofs.Ytnffnpolkkgnhaa
set_option linter.unusedVariables false
open Go.RowKit
attribute [local go_sem] cell?_ext

theorem Blk.put14 {w : World} {b : Nat} {T : TypeId} {z0 z1 z2 z3 z4 z5 z6 z7 z8 z9 z10 z11 z12 z13 : Value} (h : Blk w b #[z0, z1, z2, z3, z4, z5, z6, z7, z8, z9, z10, z11, z12, z13] T) (a0 a1 a2 a3 a4 a5 a6 a7 a8 a9 a10 a11 a12 a13 : Value) :
    Blk ((((((((((((((w.setCell ⟨b, 0, none⟩ a0).setCell ⟨b, 1, none⟩ a1).setCell ⟨b, 2, none⟩ a2).setCell ⟨b, 3, none⟩ a3).setCell ⟨b, 4, none⟩ a4).setCell ⟨b, 5, none⟩ a5).setCell ⟨b, 6, none⟩ a6).setCell ⟨b, 7, none⟩ a7).setCell ⟨b, 8, none⟩ a8).setCell ⟨b, 9, none⟩ a9).setCell ⟨b, 10, none⟩ a10).setCell ⟨b, 11, none⟩ a11).setCell ⟨b, 12, none⟩ a12).setCell ⟨b, 13, none⟩ a13) b #[a0, a1, a2, a3, a4, a5, a6, a7, a8, a9, a10, a11, a12, a13] T ∧ Upd (fun k => k = b) w ((((((((((((((w.setCell ⟨b, 0, none⟩ a0).setCell ⟨b, 1, none⟩ a1).setCell ⟨b, 2, none⟩ a2).setCell ⟨b, 3, none⟩ a3).setCell ⟨b, 4, none⟩ a4).setCell ⟨b, 5, none⟩ a5).setCell ⟨b, 6, none⟩ a6).setCell ⟨b, 7, none⟩ a7).setCell ⟨b, 8, none⟩ a8).setCell ⟨b, 9, none⟩ a9).setCell ⟨b, 10, none⟩ a10).setCell ⟨b, 11, none⟩ a11).setCell ⟨b, 12, none⟩ a12).setCell ⟨b, 13, none⟩ a13) := by
  refine ⟨?_, ((((((((((((((Upd.refl (fun k => k = b) w).setCell (S := fun k => k = b) (p := ⟨b, 0, none⟩) (.inl rfl) a0).setCell (S := fun k => k = b) (p := ⟨b, 1, none⟩) (.inl rfl) a1).setCell (S := fun k => k = b) (p := ⟨b, 2, none⟩) (.inl rfl) a2).setCell (S := fun k => k = b) (p := ⟨b, 3, none⟩) (.inl rfl) a3).setCell (S := fun k => k = b) (p := ⟨b, 4, none⟩) (.inl rfl) a4).setCell (S := fun k => k = b) (p := ⟨b, 5, none⟩) (.inl rfl) a5).setCell (S := fun k => k = b) (p := ⟨b, 6, none⟩) (.inl rfl) a6).setCell (S := fun k => k = b) (p := ⟨b, 7, none⟩) (.inl rfl) a7).setCell (S := fun k => k = b) (p := ⟨b, 8, none⟩) (.inl rfl) a8).setCell (S := fun k => k = b) (p := ⟨b, 9, none⟩) (.inl rfl) a9).setCell (S := fun k => k = b) (p := ⟨b, 10, none⟩) (.inl rfl) a10).setCell (S := fun k => k = b) (p := ⟨b, 11, none⟩) (.inl rfl) a11).setCell (S := fun k => k = b) (p := ⟨b, 12, none⟩) (.inl rfl) a12).setCell (S := fun k => k = b) (p := ⟨b, 13, none⟩) (.inl rfl) a13⟩
  have := ((((((((((((((h.set 0 a0).set 1 a1).set 2 a2).set 3 a3).set 4 a4).set 5 a5).set 6 a6).set 7 a7).set 8 a8).set 9 a9).set 10 a10).set 11 a11).set 12 a12).set 13 a13)
  simpa using this
/-- What region 4 keeps: the plan's box, and all that was there. -/
structure PI (w w2 : World) (pb : Nat) (lv : Array Value) (W : World) : Prop where
  box : Blk W pb lv 24
  kp : Kept w W
  old : w.heap.size ≤ w2.heap.size
  up : w2.heap.size ≤ W.heap.size
  lt : pb < w2.heap.size
theorem PI.kept {w w2 W W' : World} {pb : Nat} {lv : Array Value} (h : PI w w2 pb lv W) (hk : Kept W W') : PI w w2 pb lv W' := ⟨h.box.kept hk, h.kp.trans hk, h.old, Nat.le_trans h.up hk.size, h.lt⟩
theorem PI.upd {w w2 W W' : World} {pb xb : Nat} {lv : Array Value} (h : PI w w2 pb lv W) (hU : Upd (fun k => k = xb) W W') (hx : w2.heap.size ≤ xb) : PI w w2 pb lv W' := by
  have h1 := h.lt
  have h2 := h.old
  exact ⟨h.box.upd hU (fun e => by omega), h.kp.then hU (fun i hi e => by omega), h.old, Nat.le_trans h.up hU.size, h.lt⟩
set_option maxRecDepth 100000 in
set_option maxHeartbeats 8000000 in
theorem cellsPlan_walk (v a k u at_ : Int) (w : World) (w0 : (Lit.int .i64 v).wf = true) (w1 : (Lit.int .i64 a).wf = true) (w2 : (Lit.int .i64 k).wf = true) (w3 : (Lit.int .u8 u).wf = true) (w4 : (Lit.int .u32 at_).wf = true) :
    Calls Try.prog 3 #[.int .i64 v, .int .i64 a, .int .i64 k, .int .u8 u, .int .u32 at_] w fun e w' => e = .returned (.bool true) ∧ Kept w w' := by
  by_cases hm : May v a k
  · have HM := Lib.hid hm
    have HP := fun w => Lib.hid (Plan_ok v a k w hm)
    have HR := fun w => Lib.hid (refPlan_ok v a k w hm)
    have HF := planOf_facts v a k hm
    generalize planOf v a k = l at HP HR HF
    obtain ⟨f1, f2, r, hr, f3⟩ := HF
    obtain ⟨p1, p2⟩ := pow_room hr f3
    obtain ⟨v1, v2, a1, a2, k1, k2⟩ := hm
    have u1 := bounds_u8 w3
    have t1 := bounds_u32 w4
    obtain ⟨j, rfl⟩ := Int.eq_ofNat_of_zero_le t1.1
    clear w0 w1 w2 w3 w4
    have q1 : 0 ≤ u % k := Int.emod_nonneg _ (by omega)
    have q2 : u % k < k := Int.emod_lt_of_pos _ (by omega)
    have HT := fun w => Lib.hid (Top_any l (u % k) w f1 f2 (by omega) p2 q1 (by omega))
    have HB := fun w => Lib.hid (Bottom_any l (u % k) w f1 f2 (by omega) p2 q1 (by omega))
    have HS := fun w => Lib.hid (Slot_any l (u % k) r j w f1 f2 hr f3 q1 (by omega) (by omega))
    have HT' := fun w => Lib.hid (refTop_any l (u % k) w f1 f2 (by omega) p2 q1 (by omega))
    have HB' := fun w => Lib.hid (refBottom_any l (u % k) w f1 f2 (by omega) p2 q1 (by omega))
    have HS' := fun w => Lib.hid (refSlot_any l (u % k) r j w f1 f2 hr f3 q1 (by omega) (by omega))
    have hk0 : ¬ k = 0 := by omega
    have hwu : IntKind.i64.wrap u = u := by rw [IntKind.wrap_i64]; omega
    have hfin : Value.int .i64 (u.tmod k) = Value.int .i64 (u % k) := by rw [Int.tmod_eq_emod_of_nonneg u1.1]
    have hkb : (k == 0) = false := by simpa using hk0
    have hrem : IntKind.i64.wrap (u.tmod k) = u % k := by rw [Int.tmod_eq_emod_of_nonneg u1.1, IntKind.wrap_i64]; omega
    generalize l.deques + u % k * (l.room + 2) = m1 at *
    generalize m1 + 1 = m2 at *
    generalize m1 + 2 + ((j % 2 ^ r : Nat) : Int) = m3 at *
    clear f1 f2 f3 p1 p2 hr
    obtain ⟨verts, arcs, workers, room, res, ex, hh, flag, pending, ask, count, sense, deques, size⟩ := l
    simp only [Lay.val, Lay.vals] at *
    go_enter Try.func3, Try.ntmps3
    go_wp2_with fail
    refine (HP _).out.mono ?_
    rintro e w1 ⟨rfl, hk1⟩
    have HK1 := Lib.hid hk1
    clear hk1
    go_wp2_with fail
    refine (refMay_yes v a k _ HM.out).mono ?_
    rintro e w' ⟨rfl, rfl⟩
    go_wp2_with fail
    obtain ⟨w2, hw2⟩ : ∃ w2, w1.alloc (.cells #[.int .i64 verts, .int .i64 arcs, .int .i64 workers, .int .i64 room, .int .i64 res, .int .i64 ex, .int .i64 hh, .int .i64 flag, .int .i64 pending, .int .i64 ask, .int .i64 count, .int .i64 sense, .int .i64 deques, .int .i64 size] 24) = w2 := ⟨_, rfl⟩
    have HPI : Hid (PI w w2 w1.heap.size #[.int .i64 verts, .int .i64 arcs, .int .i64 workers, .int .i64 room, .int .i64 res, .int .i64 ex, .int .i64 hh, .int .i64 flag, .int .i64 pending, .int .i64 ask, .int .i64 count, .int .i64 sense, .int .i64 deques, .int .i64 size] w2) := Lib.hid (by
      have h1 := HK1.out.size
      have h2 : w2.heap.size = w1.heap.size + 1 := by rw [← hw2]; simp
      refine ⟨?_, ?_, by omega, Nat.le_refl _, by omega⟩
      · rw [← hw2]; exact Blk.new _ _ _
      · rw [← hw2]; exact HK1.out.alloc _)
    rw [hw2]
    clear hw2 HK1
    refine wp_region_inv (fun l us W => ∃ (b0 b1 b2 b3 b4 b5 b6 b7 b8 b9 b10 : Bool) (v37 v38 v39 v40 v41 v42 v43 v44 v14 v13 : Value) (xb : Nat), l = #[b0, b1, b2, b3, b4, b5, b6, b7, b8, b9, b10] ∧ us = [v37, v38, v39, v40, v41, v42, v43, v44, v14, v13] ∧ Hid (PI w w2 w1.heap.size #[.int .i64 verts, .int .i64 arcs, .int .i64 workers, .int .i64 room, .int .i64 res, .int .i64 ex, .int .i64 hh, .int .i64 flag, .int .i64 pending, .int .i64 ask, .int .i64 count, .int .i64 sense, .int .i64 deques, .int .i64 size] W) ∧
    Hid (b0 = true → v37 = .int .u8 u) ∧
    Hid (b1 = true → v38 = .int .i64 u) ∧
    Hid (b2 = true → v39 = .int .i64 k) ∧
    Hid (b3 = true → v40 = .int .i64 (u % k)) ∧
    Hid (b4 = true → v41 = .int .i64 v) ∧
    Hid (b5 = true → v42 = .int .i64 a) ∧
    Hid (b6 = true → v43 = .int .i64 k) ∧
    Hid (b7 = true → v44 = .agg #[.int .i64 verts, .int .i64 arcs, .int .i64 workers, .int .i64 room, .int .i64 res, .int .i64 ex, .int .i64 hh, .int .i64 flag, .int .i64 pending, .int .i64 ask, .int .i64 count, .int .i64 sense, .int .i64 deques, .int .i64 size]) ∧
    Hid (b8 = true → v14 = .pointer (some ⟨xb, 0, none⟩) ∧ w2.heap.size ≤ xb ∧ Blk W xb (if b10 then #[.int .i64 verts, .int .i64 arcs, .int .i64 workers, .int .i64 room, .int .i64 res, .int .i64 ex, .int .i64 hh, .int .i64 flag, .int .i64 pending, .int .i64 ask, .int .i64 count, .int .i64 sense, .int .i64 deques, .int .i64 size] else #[.int .i64 0, .int .i64 0, .int .i64 0, .int .i64 0, .int .i64 0, .int .i64 0, .int .i64 0, .int .i64 0, .int .i64 0, .int .i64 0, .int .i64 0, .int .i64 0, .int .i64 0, .int .i64 0]) 24) ∧
    Hid (b9 = true → v13 = .int .i64 (u % k)) ∧
    Hid (b10 = true → b8 = true)) [37, 38, 39, 40, 41, 42, 43, 44, 14, 13] [undef, undef, undef, undef, undef, undef, undef, undef, undef, undef] (by kernel_rfl) (by kernel_rfl) (by simp only [putAll, Act.put, List.setIfInBounds_toArray, List.set_cons_zero, List.set_cons_succ]) ?_ ?_ ?_
    · exact ⟨false, false, false, false, false, false, false, false, false, false, false, _, _, _, _, _, _, _, _, _, _, 0, rfl, rfl, Lib.hid (HPI.out.kept (Upd.refl _ _).drew), Lib.hid (by simp), Lib.hid (by simp), Lib.hid (by simp), Lib.hid (by simp), Lib.hid (by simp), Lib.hid (by simp), Lib.hid (by simp), Lib.hid (by simp), Lib.hid (by simp), Lib.hid (by simp), Lib.hid (by simp)⟩
    · rintro i l us W ⟨b0, b1, b2, b3, b4, b5, b6, b7, b8, b9, b10, v37, v38, v39, v40, v41, v42, v43, v44, v14, v13, xb, rfl, rfl, hI, h0, h1, h2, h3, h4, h5, h6, h7, h8, h9, g10⟩ hr
      have hi : i = 0 ∨ i = 1 ∨ i = 2 ∨ i = 3 ∨ i = 4 ∨ i = 5 ∨ i = 6 ∨ i = 7 ∨ i = 8 ∨ i = 9 ∨ i = 10 := by
        have := ready_lt hr
        simp at this
        omega
      rcases hi with rfl | rfl | rfl | rfl | rfl | rfl | rfl | rfl | rfl | rfl | rfl
      · obtain ⟨hn, hd⟩ := ready_at hr rfl
        simp [Region.binds] at hn hd
        refine wpOp_step rfl (fun K' hK => ?_)
        simp only [putAll, Act.put, List.setIfInBounds_toArray, List.set_cons_zero, List.set_cons_succ]
        go_simp
        exact hK _ _ ⟨_, by simp only [putAll, Act.put, List.setIfInBounds_toArray, List.set_cons_zero, List.set_cons_succ], true, b1, b2, b3, b4, b5, b6, b7, b8, b9, b10, _, _, _, _, _, _, _, _, _, _, xb, rfl, rfl, hI, Lib.hid (fun _ => rfl), h1, h2, h3, h4, h5, h6, h7, h8, h9, g10⟩
      · obtain ⟨hn, hd⟩ := ready_at hr rfl
        simp [Region.binds] at hn hd
        obtain rfl := h0.out (by simp [hd])
        refine wpOp_step rfl (fun K' hK => ?_)
        simp only [putAll, Act.put, List.setIfInBounds_toArray, List.set_cons_zero, List.set_cons_succ]
        go_simp
        exact hK _ _ ⟨_, by simp only [putAll, Act.put, List.setIfInBounds_toArray, List.set_cons_zero, List.set_cons_succ], b0, true, b2, b3, b4, b5, b6, b7, b8, b9, b10, _, _, _, _, _, _, _, _, _, _, xb, rfl, rfl, hI, h0, Lib.hid (fun _ => rfl), h2, h3, h4, h5, h6, h7, h8, h9, g10⟩
      · obtain ⟨hn, hd⟩ := ready_at hr rfl
        simp [Region.binds] at hn hd
        refine wpOp_step rfl (fun K' hK => ?_)
        simp only [putAll, Act.put, List.setIfInBounds_toArray, List.set_cons_zero, List.set_cons_succ]
        go_simp
        exact hK _ _ ⟨_, by simp only [putAll, Act.put, List.setIfInBounds_toArray, List.set_cons_zero, List.set_cons_succ], b0, b1, true, b3, b4, b5, b6, b7, b8, b9, b10, _, _, _, _, _, _, _, _, _, _, xb, rfl, rfl, hI, h0, h1, Lib.hid (fun _ => rfl), h3, h4, h5, h6, h7, h8, h9, g10⟩
      · obtain ⟨hn, hd⟩ := ready_at hr rfl
        simp [Region.binds] at hn hd
        obtain rfl := h1.out (by simp [hd])
        obtain rfl := h2.out (by simp [hd])
        refine wpOp_step rfl (fun K' hK => ?_)
        simp only [putAll, Act.put, List.setIfInBounds_toArray, List.set_cons_zero, List.set_cons_succ]
        go_simp
        exact hK _ _ ⟨_, by simp only [putAll, Act.put, List.setIfInBounds_toArray, List.set_cons_zero, List.set_cons_succ], b0, b1, b2, true, b4, b5, b6, b7, b8, b9, b10, _, _, _, _, _, _, _, _, _, _, xb, rfl, rfl, hI, h0, h1, h2, Lib.hid (fun _ => rfl), h4, h5, h6, h7, h8, h9, g10⟩
      · obtain ⟨hn, hd⟩ := ready_at hr rfl
        simp [Region.binds] at hn hd
        refine wpOp_step rfl (fun K' hK => ?_)
        simp only [putAll, Act.put, List.setIfInBounds_toArray, List.set_cons_zero, List.set_cons_succ]
        go_simp
        exact hK _ _ ⟨_, by simp only [putAll, Act.put, List.setIfInBounds_toArray, List.set_cons_zero, List.set_cons_succ], b0, b1, b2, b3, true, b5, b6, b7, b8, b9, b10, _, _, _, _, _, _, _, _, _, _, xb, rfl, rfl, hI, h0, h1, h2, h3, Lib.hid (fun _ => rfl), h5, h6, h7, h8, h9, g10⟩
      · obtain ⟨hn, hd⟩ := ready_at hr rfl
        simp [Region.binds] at hn hd
        refine wpOp_step rfl (fun K' hK => ?_)
        simp only [putAll, Act.put, List.setIfInBounds_toArray, List.set_cons_zero, List.set_cons_succ]
        go_simp
        exact hK _ _ ⟨_, by simp only [putAll, Act.put, List.setIfInBounds_toArray, List.set_cons_zero, List.set_cons_succ], b0, b1, b2, b3, b4, true, b6, b7, b8, b9, b10, _, _, _, _, _, _, _, _, _, _, xb, rfl, rfl, hI, h0, h1, h2, h3, h4, Lib.hid (fun _ => rfl), h6, h7, h8, h9, g10⟩
      · obtain ⟨hn, hd⟩ := ready_at hr rfl
        simp [Region.binds] at hn hd
        refine wpOp_step rfl (fun K' hK => ?_)
        simp only [putAll, Act.put, List.setIfInBounds_toArray, List.set_cons_zero, List.set_cons_succ]
        go_simp
        exact hK _ _ ⟨_, by simp only [putAll, Act.put, List.setIfInBounds_toArray, List.set_cons_zero, List.set_cons_succ], b0, b1, b2, b3, b4, b5, true, b7, b8, b9, b10, _, _, _, _, _, _, _, _, _, _, xb, rfl, rfl, hI, h0, h1, h2, h3, h4, h5, Lib.hid (fun _ => rfl), h7, h8, h9, g10⟩
      · obtain ⟨hn, hd⟩ := ready_at hr rfl
        simp [Region.binds] at hn hd
        obtain rfl := h4.out (by simp [hd])
        obtain rfl := h5.out (by simp [hd])
        obtain rfl := h6.out (by simp [hd])
        refine wpOp_step rfl (fun K' hK => ?_)
        simp only [putAll, Act.put, List.setIfInBounds_toArray, List.set_cons_zero, List.set_cons_succ]
        go_simp
        refine (HR _).out.mono ?_
        rintro e w' ⟨rfl, hk⟩
        exact hK _ _ ⟨_, by simp only [putAll, Act.put, List.setIfInBounds_toArray, List.set_cons_zero, List.set_cons_succ], b0, b1, b2, b3, b4, b5, b6, true, b8, b9, b10, _, _, _, _, _, _, _, _, _, _, xb, rfl, rfl, (Lib.hid (hI.out.kept hk)), h0, h1, h2, h3, h4, h5, h6, Lib.hid (fun _ => rfl), Lib.hid (fun hb => ⟨(h8.out hb).1, (h8.out hb).2.1, (h8.out hb).2.2.kept hk⟩), h9, g10⟩
      · obtain ⟨hn, hd⟩ := ready_at hr rfl
        simp [Region.binds] at hn hd
        have hbq : b10 = false := by cases b10 with | false => rfl | true => (have := g10.out rfl; rw [hn] at this; cases this)
        subst hbq
        refine wpOp_step rfl (fun K' hK => ?_)
        simp only [putAll, Act.put, List.setIfInBounds_toArray, List.set_cons_zero, List.set_cons_succ]
        go_simp
        exact hK _ _ ⟨_, by simp only [putAll, Act.put, List.setIfInBounds_toArray, List.set_cons_zero, List.set_cons_succ], b0, b1, b2, b3, b4, b5, b6, b7, true, b9, false, _, _, _, _, _, _, _, _, _, _, W.heap.size, rfl, rfl, (Lib.hid (hI.out.kept ((Upd.refl _ _).alloc _))), h0, h1, h2, h3, h4, h5, h6, h7, Lib.hid (fun _ => ⟨rfl, hI.out.up, Blk.new _ _ _⟩), h9, Lib.hid (by simp)⟩
      · obtain ⟨hn, hd⟩ := ready_at hr rfl
        simp [Region.binds] at hn hd
        obtain rfl := h3.out (by simp [hd])
        refine wpOp_step rfl (fun K' hK => ?_)
        simp only [putAll, Act.put, List.setIfInBounds_toArray, List.set_cons_zero, List.set_cons_succ]
        go_simp
        exact hK _ _ ⟨_, by simp only [putAll, Act.put, List.setIfInBounds_toArray, List.set_cons_zero, List.set_cons_succ], b0, b1, b2, b3, b4, b5, b6, b7, b8, true, b10, _, _, _, _, _, _, _, _, _, _, xb, rfl, rfl, hI, h0, h1, h2, h3, h4, h5, h6, h7, h8, Lib.hid (fun _ => rfl), g10⟩
      · obtain ⟨hn, hd⟩ := ready_at hr rfl
        simp [Region.binds] at hn hd
        obtain rfl := h7.out (by simp [hd])
        obtain ⟨hp, hx, hbk⟩ := h8.out (by simp [hd])
        subst hn hp
        have hbk : Blk W _ _ _ := hbk
        have hc := hbk.cell
        have hf := hbk.free
        refine wpOp_step rfl (fun K' hK => ?_)
        simp only [putAll, Act.put, List.setIfInBounds_toArray, List.set_cons_zero, List.set_cons_succ]
        go_simp
        have hs := hbk.put14 (.int .i64 verts) (.int .i64 arcs) (.int .i64 workers) (.int .i64 room) (.int .i64 res) (.int .i64 ex) (.int .i64 hh) (.int .i64 flag) (.int .i64 pending) (.int .i64 ask) (.int .i64 count) (.int .i64 sense) (.int .i64 deques) (.int .i64 size)
        exact hK _ _ ⟨_, by simp only [putAll, Act.put, List.setIfInBounds_toArray, List.set_cons_zero, List.set_cons_succ], b0, b1, b2, b3, b4, b5, b6, b7, b8, b9, true, _, _, _, _, _, _, _, _, _, _, xb, rfl, rfl, (Lib.hid (hI.out.upd hs.2 hx)), h0, h1, h2, h3, h4, h5, h6, h7, Lib.hid (fun _ => ⟨rfl, hx, hs.1⟩), h9, Lib.hid (fun _ => (by simp [hd]))⟩
    · rintro l us W ⟨b0, b1, b2, b3, b4, b5, b6, b7, b8, b9, b10, v37, v38, v39, v40, v41, v42, v43, v44, v14, v13, xb, rfl, rfl, hI, h0, h1, h2, h3, h4, h5, h6, h7, h8, h9, g10⟩ hall
      obtain rfl : b0 = true := by simpa using hall 0
      obtain rfl : b1 = true := by simpa using hall 1
      obtain rfl : b2 = true := by simpa using hall 2
      obtain rfl : b3 = true := by simpa using hall 3
      obtain rfl : b4 = true := by simpa using hall 4
      obtain rfl : b5 = true := by simpa using hall 5
      obtain rfl : b6 = true := by simpa using hall 6
      obtain rfl : b7 = true := by simpa using hall 7
      obtain rfl : b8 = true := by simpa using hall 8
      obtain rfl : b9 = true := by simpa using hall 9
      obtain rfl : b10 = true := by simpa using hall 10
      obtain rfl := h0.out rfl
      obtain rfl := h1.out rfl
      obtain rfl := h2.out rfl
      obtain rfl := h3.out rfl
      obtain rfl := h4.out rfl
      obtain rfl := h5.out rfl
      obtain rfl := h6.out rfl
      obtain rfl := h7.out rfl
      obtain ⟨rfl, hx8, hB8⟩ := h8.out rfl
      obtain rfl := h9.out rfl
      have HK2 := Lib.hid hI.out.kp
      have cl := hI.out.box.cell
      have hB8 : Blk W xb _ _ := hB8
      have cw := hB8.cell
      clear hall hx8 hB8 hI HPI
      simp only [putAll, Act.put, List.setIfInBounds_toArray, List.set_cons_zero, List.set_cons_succ]
      go_wp2_with fail
      refine wp_region_kept (by kernel_rfl) (by kernel_rfl) ?_
      repeat (go_big_quiet_step ((first
        | (go_at_call 13; exact kept_call (HT _).out)
        | (go_at_call 15; exact kept_call (HB _).out)
        | (go_at_call 17; exact kept_call (HS _).out)
        | (go_at_call 14; exact kept_call (HT' _).out)
        | (go_at_call 16; exact kept_call (HB' _).out)
        | (go_at_call 18; exact kept_call (HS' _).out)
        | (go_at_call 11; exact kept_call (awake_any _)))))
      refine wpQuiet_nil ?_
      intro w3 hk3
      go_wp2
      go_ret
      exact ⟨rfl, HK2.out.trans hk3⟩
  · have HM := Lib.hid (show ¬ May v a k from hm)
    clear w0 w1 w2 w3 w4
    go_enter Try.func3, Try.ntmps3
    go_wp2_with fail
    refine (Plan_no v a k _ HM.out).mono ?_
    rintro e w1 ⟨rfl, hk1⟩
    have HK1 := Lib.hid hk1
    clear hk1
    go_wp2_with fail
    refine (refMay_no v a k _ HM.out).mono ?_
    rintro e w' ⟨rfl, rfl⟩
    go_wp2_with fail
    refine (awake_any _).mono ?_
    rintro e w2 ⟨rfl, hk2⟩
    go_wp2
    go_ret
    exact ⟨rfl, ((HK1.out.alloc _).trans hk2)⟩
end Go.Proofs.Ytnffnpolkkgnhaa
