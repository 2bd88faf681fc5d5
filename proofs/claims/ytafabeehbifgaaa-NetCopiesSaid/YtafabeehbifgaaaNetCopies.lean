/- The law NetCopies (printed by gen_copies01.py). -/
import Derived.Test.YtafabeehbifgaaaCopies
import Derived.Test.YtafabeehbifgaaaSameN
import Derived.Test.YtafabeehbifgaaaAwake01
import Derived.Test.YtafabeehbifgaaaOpenNet
import Derived.Test.YtafabeehbifgaaaRegion
import Derived.Test.YtafabeehbifgaaaSums
import Derived.Deep.CutRange
namespace Go.Proofs.Ytafabeehbifgaaa
set_option linter.unusedVariables false
open Go.RowKit

theorem copy_g (N S T : Int) {w : World} {a : Option Addr} {xs : List Ar} (h : Ars w a xs) {n : Nat} (hn : xs.length = n) (h0 : 0 < n) (hm : n ≤ 1000000) (c : Nat) :
    Calls Try.prog 9 #[.agg #[.int .i64 N, .int .i64 S, .int .i64 T, .slice a n c]] w fun e w' => ∃ gg qq, e = .returned (.agg #[.int .i64 N, .int .i64 S, .int .i64 T, .slice (some ⟨gg, 0, none⟩) n qq]) ∧ Own w' w.heap.size (.slice (some ⟨gg, 0, none⟩) n qq) xs ∧ Kept w w' := by
  subst hn
  refine (Copy_any N S T a c xs w h (by omega)).mono ?_
  rintro e w' ⟨a', c', rfl, ho, hk⟩
  obtain ⟨g, rfl, _⟩ := ho.blk h0
  exact ⟨g, c', rfl, ho, hk⟩
theorem same_at {w : World} {a a' : Option Addr} {xs ys : List Ar} (h : Ars w a xs) (h' : Ars w a' ys) {n m : Nat} (hn : xs.length = n) (hm : ys.length = m) (hn2 : n ≤ 1000000) (hm2 : m ≤ 1000000) {N S T N' S' T' : Int} {z : Bool} (hz : decide (N = N' ∧ S = S' ∧ T = T' ∧ xs = ys) = z) (c c' : Nat) :
    Calls Try.prog 15 #[.agg #[.int .i64 N, .int .i64 S, .int .i64 T, .slice a n c], .agg #[.int .i64 N', .int .i64 S', .int .i64 T', .slice a' m c']] w fun e w' => e = .returned (.bool z) ∧ Kept w w' := by
  subst hn hm hz; exact Same_any N S T N' S' T' a a' c c' xs ys w h h' (by omega) (by omega)
theorem NF.other {w : World} {mb : Nat} {N S T : Int} {a : Option Addr} {n c : Nat} {ys : List Ar} {wr w' : World} {P : Nat → Prop} (h : NF w mb N S T a n c ys wr) (hu : Upd P wr w') (h1 : ¬ P mb) (h2 : ∀ g, a = some ⟨g, 0, none⟩ → ¬ P g) (hk : Kept w w') : NF w mb N S T a n c ys w' :=
  ⟨hk, h.net.upd hu h1, h.own.far hu h2, h.ge⟩
set_option maxRecDepth 100000 in
set_option maxHeartbeats 4000000 in
theorem netCopies_core (N S T : Int) (a : Option Addr) (n c : Nat) (ys : List Ar) (tn wh : Int) (w : World) (h : Ars w a ys) (hn : ys.length = n) (hmost : n ≤ 9223372036854775807) (ht0 : 0 ≤ tn) (ht1 : tn ≤ 255) (hw0 : 0 ≤ wh) (hw1 : wh ≤ 255) :
    Calls Try.prog 6 #[.agg #[.int .i64 N, .int .i64 S, .int .i64 T, .slice a n c], .int .u8 tn, .int .u8 wh] w fun e w' => e = .returned (.bool true) ∧ Kept w w' := by
  have HAW := fun w => Lib.hid (awake_any w)
  have HK0 := Lib.hid ((Upd.refl (fun _ => False) w).alloc (.cells #[.int .i64 N, .int .i64 S, .int .i64 T, .slice a n c] 24))
  by_cases hs : n = 0 ∨ 200 < n
  · have h1 : (n : Int) = 0 ∨ (200 : Int) < (n : Int) := by omega
    clear h hs hn
    rcases h1 with h1 | h1
    · obtain rfl : n = 0 := by omega
      go_enter Try.func6, Try.ntmps6
      go_wp2_with fail
      refine (HAW _).out.mono ?_
      rintro e w1 ⟨rfl, hk⟩
      have HK1 := Lib.hid (HK0.out.trans hk)
      clear hk
      go_wp2_with fail
      go_ret
      exact ⟨rfl, HK1.out⟩
    · have h2 : ((n : Int) == 0) = false := by simp; omega
      go_enter Try.func6, Try.ntmps6
      go_wp2_with fail
      refine (HAW _).out.mono ?_
      rintro e w1 ⟨rfl, hk⟩
      have HK1 := Lib.hid (HK0.out.trans hk)
      clear hk
      go_wp2_with fail
      go_ret
      exact ⟨rfl, HK1.out⟩
  · have h1 : ((n : Int) == 0) = false := by simp; omega
    have h2 : ¬ (200 : Int) < (n : Int) := by omega
    have h3 : ¬ (n : Int) = 0 := by omega
    have HN0 : Hid (0 < ys.length) := Lib.hid (by omega)
    have HNL : Hid (ys.length = n ∧ 0 < n ∧ n ≤ 200) := Lib.hid ⟨hn, by omega, by omega⟩
    have HX := Lib.hid h
    have HCOP := fun (W : World) (hA : Ars W a ys) => Lib.hid (copy_g N S T hA HNL.out.1 HNL.out.2.1 (by have := HNL.out.2.2; omega) c)
    clear h hs hn
    go_enter Try.func6, Try.ntmps6
    go_upto_region 3 with (fail)
    obtain ⟨B, hB⟩ : ∃ B, B = w.heap.size + 1 := ⟨_, rfl⟩
    have CQ0 : Hid (CQ w w.heap.size B N S T a n c ys false false false false false false (undef) (undef) (undef) (undef) 0 0 0 0 0 0 (w.alloc (.cells #[.int .i64 N, .int .i64 S, .int .i64 T, .slice a n c] 24))) := Lib.hid
      ⟨HK0.out, Blk.new _ _ _, fun e => (by cases e), fun e => (by cases e), fun e => (by cases e), fun e => (by cases e), fun e => (by cases e), fun e => (by cases e), fun e => (by cases e), by omega, by simp; omega⟩
    generalize (w.alloc (.cells #[.int .i64 N, .int .i64 S, .int .i64 T, .slice a n c] 24)) = W0 at CQ0 ⊢
    obtain ⟨nb, hnb⟩ : ∃ nb, nb = w.heap.size := ⟨_, rfl⟩
    rw [← hnb] at CQ0
    rw [← hnb]
    clear hB hnb HK0
    refine wp_region_inv (fun l us W => ∃ (b0 b1 b2 b3 b4 b5 b6 b7 : Bool) (v21 v22 v23 v24 v7 v8 : Value) (xb yb g1 q1 g3 q3 : Nat), l = #[b0, b1, b2, b3, b4, b5, b6, b7] ∧ us = [v21, v22, v23, v24, v7, v8] ∧ Hid (b0 = true → v21 = .agg #[.int .i64 N, .int .i64 S, .int .i64 T, .slice a n c]) ∧ Hid (b2 = true → v23 = .agg #[.int .i64 N, .int .i64 S, .int .i64 T, .slice a n c]) ∧ Hid (CQ w nb B N S T a n c ys b1 b3 b4 b5 b6 b7 v22 v24 v7 v8 xb yb g1 q1 g3 q3 W)) [21, 22, 23, 24, 7, 8] [undef, undef, undef, undef, undef, undef] (by kernel_rfl) (by kernel_rfl) (by simp only [putAll, Act.put, List.setIfInBounds_toArray, List.set_cons_zero, List.set_cons_succ]) ?_ ?_ ?_
    · exact ⟨false, false, false, false, false, false, false, false, undef, undef, undef, undef, undef, undef, 0, 0, 0, 0, 0, 0, rfl, rfl, Lib.hid (by simp), Lib.hid (by simp), Lib.hid (CQ0.out.kept (Upd.refl _ _).drew)⟩
    · rintro i l us W ⟨b0, b1, b2, b3, b4, b5, b6, b7, v21, v22, v23, v24, v7, v8, xb, yb, g1, q1, g3, q3, rfl, rfl, h0, h2, hI⟩ hr
      have hi : i = 0 ∨ i = 1 ∨ i = 2 ∨ i = 3 ∨ i = 4 ∨ i = 5 ∨ i = 6 ∨ i = 7 := by
        have := ready_lt hr
        simp at this
        omega
      rcases hi with rfl | rfl | rfl | rfl | rfl | rfl | rfl | rfl
      · skip
        obtain ⟨hn, hd⟩ := ready_at hr rfl
        simp [Region.binds] at hn hd
        refine wpOp_step rfl (fun K' hK => ?_)
        simp only [putAll, Act.put, List.setIfInBounds_toArray, List.set_cons_zero, List.set_cons_succ]
        have cn := hI.out.nn.cell
        go_simp
        exact hK _ _ ⟨_, by simp only [putAll, Act.put, List.setIfInBounds_toArray, List.set_cons_zero, List.set_cons_succ], true, b1, b2, b3, b4, b5, b6, b7, _, _, _, _, _, _, xb, yb, g1, q1, g3, q3, rfl, rfl, Lib.hid (fun _ => rfl), h2, Lib.hid (hI.out)⟩
      · skip
        obtain ⟨hn, hd⟩ := ready_at hr rfl
        simp [Region.binds] at hn hd
        obtain rfl := h0.out (by simp [hd])
        refine wpOp_step rfl (fun K' hK => ?_)
        simp only [putAll, Act.put, List.setIfInBounds_toArray, List.set_cons_zero, List.set_cons_succ]
        go_simp
        refine (HCOP W (HX.out.kept hI.out.kp)).out.mono ?_
        rintro e w' ⟨gg, qq, rfl, hO, hk⟩
        exact hK _ _ ⟨_, by simp only [putAll, Act.put, List.setIfInBounds_toArray, List.set_cons_zero, List.set_cons_succ], b0, true, b2, b3, b4, b5, b6, b7, _, _, _, _, _, _, xb, yb, gg, qq, g3, q3, rfl, rfl, h0, h2, Lib.hid (hI.out.call1 hn hk hO)⟩
      · skip
        obtain ⟨hn, hd⟩ := ready_at hr rfl
        simp [Region.binds] at hn hd
        refine wpOp_step rfl (fun K' hK => ?_)
        simp only [putAll, Act.put, List.setIfInBounds_toArray, List.set_cons_zero, List.set_cons_succ]
        have cn := hI.out.nn.cell
        go_simp
        exact hK _ _ ⟨_, by simp only [putAll, Act.put, List.setIfInBounds_toArray, List.set_cons_zero, List.set_cons_succ], b0, b1, true, b3, b4, b5, b6, b7, _, _, _, _, _, _, xb, yb, g1, q1, g3, q3, rfl, rfl, h0, Lib.hid (fun _ => rfl), Lib.hid (hI.out)⟩
      · skip
        obtain ⟨hn, hd⟩ := ready_at hr rfl
        simp [Region.binds] at hn hd
        obtain rfl := h2.out (by simp [hd])
        have hb1 : b1 = true := by simp [hd]
        refine wpOp_step rfl (fun K' hK => ?_)
        simp only [putAll, Act.put, List.setIfInBounds_toArray, List.set_cons_zero, List.set_cons_succ]
        go_simp
        refine (HCOP W (HX.out.kept hI.out.kp)).out.mono ?_
        rintro e w' ⟨gg, qq, rfl, hO, hk⟩
        exact hK _ _ ⟨_, by simp only [putAll, Act.put, List.setIfInBounds_toArray, List.set_cons_zero, List.set_cons_succ], b0, b1, b2, true, b4, b5, b6, b7, _, _, _, _, _, _, xb, yb, g1, q1, gg, qq, rfl, rfl, h0, h2, Lib.hid (hI.out.call3 hn hb1 HN0.out hk hO)⟩
      · skip
        obtain ⟨hn, hd⟩ := ready_at hr rfl
        simp [Region.binds] at hn hd
        refine wpOp_step rfl (fun K' hK => ?_)
        simp only [putAll, Act.put, List.setIfInBounds_toArray, List.set_cons_zero, List.set_cons_succ]
        go_simp
        exact hK _ _ ⟨_, by simp only [putAll, Act.put, List.setIfInBounds_toArray, List.set_cons_zero, List.set_cons_succ], b0, b1, b2, b3, true, b5, b6, b7, _, _, _, _, _, _, W.heap.size, yb, g1, q1, g3, q3, rfl, rfl, h0, h2, Lib.hid (hI.out.al4 hn)⟩
      · skip
        obtain ⟨hn, hd⟩ := ready_at hr rfl
        simp [Region.binds] at hn hd
        refine wpOp_step rfl (fun K' hK => ?_)
        simp only [putAll, Act.put, List.setIfInBounds_toArray, List.set_cons_zero, List.set_cons_succ]
        go_simp
        exact hK _ _ ⟨_, by simp only [putAll, Act.put, List.setIfInBounds_toArray, List.set_cons_zero, List.set_cons_succ], b0, b1, b2, b3, b4, true, b6, b7, _, _, _, _, _, _, xb, W.heap.size, g1, q1, g3, q3, rfl, rfl, h0, h2, Lib.hid (hI.out.al5 hn)⟩
      · skip
        obtain ⟨hn, hd⟩ := ready_at hr rfl
        simp [Region.binds] at hn hd
        have hb1 : b1 = true := by simp [hd]
        have hb3 : b3 = true := by simp [hd]
        have hb4 : b4 = true := by simp [hd]
        obtain ⟨rfl, hO1⟩ := hI.out.c1 hb1
        obtain ⟨rfl, hx, hz, _⟩ := hI.out.a4 hb4
        have hz := hz hn
        refine wpOp_step rfl (fun K' hK => ?_)
        simp only [putAll, Act.put, List.setIfInBounds_toArray, List.set_cons_zero, List.set_cons_succ]
        have cz := hz.cell
        have fz := hz.free
        go_simp
        obtain ⟨w3, hw3, hB3, hU3⟩ := hz.put4 (.int .i64 N) (.int .i64 S) (.int .i64 T) (.slice (some ⟨g1, 0, none⟩) n q1)
        rw [← hw3]
        exact hK _ _ ⟨_, by simp only [putAll, Act.put, List.setIfInBounds_toArray, List.set_cons_zero, List.set_cons_succ], b0, b1, b2, b3, b4, b5, true, b7, _, _, _, _, _, _, xb, yb, g1, q1, g3, q3, rfl, rfl, h0, h2, Lib.hid (hI.out.st6 hn hb1 hb3 hb4 hB3 hU3)⟩
      · skip
        obtain ⟨hn, hd⟩ := ready_at hr rfl
        simp [Region.binds] at hn hd
        have hb3 : b3 = true := by simp [hd]
        have hb5 : b5 = true := by simp [hd]
        have hb6 : b6 = true := by simp [hd]
        obtain ⟨_, rfl, hO3, _⟩ := hI.out.c3 hb3
        obtain ⟨rfl, hx, hz, _⟩ := hI.out.a5 hb5
        have hz := hz hn
        refine wpOp_step rfl (fun K' hK => ?_)
        simp only [putAll, Act.put, List.setIfInBounds_toArray, List.set_cons_zero, List.set_cons_succ]
        have cz := hz.cell
        have fz := hz.free
        go_simp
        obtain ⟨w3, hw3, hB3, hU3⟩ := hz.put4 (.int .i64 N) (.int .i64 S) (.int .i64 T) (.slice (some ⟨g3, 0, none⟩) n q3)
        rw [← hw3]
        exact hK _ _ ⟨_, by simp only [putAll, Act.put, List.setIfInBounds_toArray, List.set_cons_zero, List.set_cons_succ], b0, b1, b2, b3, b4, b5, b6, true, _, _, _, _, _, _, xb, yb, g1, q1, g3, q3, rfl, rfl, h0, h2, Lib.hid (hI.out.st7 hn hb3 hb5 hb6 hB3 hU3)⟩
    · rintro l us W ⟨b0, b1, b2, b3, b4, b5, b6, b7, v21, v22, v23, v24, v7, v8, xb, yb, g1, q1, g3, q3, rfl, rfl, h0, h2, hI⟩ hall
      as_aux_lemma =>
      obtain rfl : b0 = true := by simpa using hall 0
      obtain rfl : b1 = true := by simpa using hall 1
      obtain rfl : b2 = true := by simpa using hall 2
      obtain rfl : b3 = true := by simpa using hall 3
      obtain rfl : b4 = true := by simpa using hall 4
      obtain rfl : b5 = true := by simpa using hall 5
      obtain rfl : b6 = true := by simpa using hall 6
      obtain rfl : b7 = true := by simpa using hall 7
      obtain rfl := h0.out rfl
      obtain rfl := h2.out rfl
      obtain ⟨rfl, hO1⟩ := hI.out.c1 rfl
      obtain ⟨_, rfl, hO3, hgg⟩ := hI.out.c3 rfl
      obtain ⟨rfl, hx, _, hBx⟩ := hI.out.a4 rfl
      obtain ⟨rfl, hy, _, hBy⟩ := hI.out.a5 rfl
      have Sc : Hid (NF w xb N S T (some ⟨g1, 0, none⟩) n q1 ys W) := Lib.hid ⟨hI.out.kp, hBx rfl, hO1, Nat.le_trans hI.out.nl.2 hx⟩
      have Sd : Hid (NF w yb N S T (some ⟨g3, 0, none⟩) n q3 ys W) := Lib.hid ⟨hI.out.kp, hBy rfl, hO3, Nat.le_trans hI.out.nl.2 hy⟩
      have HBn := Lib.hid hI.out.nn
      have hxy := hI.out.ne rfl rfl
      have hnx : ¬ nb = xb := by have := hI.out.nl; omega
      have HNE : Hid (¬ xb = yb ∧ ¬ g1 = g3 ∧ ¬ nb = xb) := Lib.hid ⟨hxy, hgg, hnx⟩
      clear hall hI h0 h2 hO1 hO3 hx hy hBx hBy hgg hxy hnx
      simp only [putAll, Act.put, List.setIfInBounds_toArray, List.set_cons_zero, List.set_cons_succ]
      have HNE2 : Hid (¬ xb = yb ∧ ¬ g1 = g3 ∧ ¬ nb = xb) := HNE
      obtain ⟨K, hK⟩ : ∃ K : Nat, K = tn.toNat % n := ⟨_, rfl⟩
      have hKM : K < n := by rw [hK]; exact Nat.mod_lt _ (by have := HNL.out; omega)
      have hKi : tn.tmod (n : Int) = (K : Int) := by
        have e : (tn.toNat : Int) = tn := by omega
        rw [Int.tmod_eq_emod_of_nonneg ht0, hK, Int.natCast_emod, e]
      have hKw : IntKind.i64.wrap (K : Int) = (K : Int) := by rw [IntKind.wrap_i64]; omega
      clear hK
      obtain ⟨r, hr⟩ : ∃ r, wh.tmod 7 = r := ⟨_, rfl⟩
      have hr7 : r = 0 ∨ r = 1 ∨ r = 2 ∨ r = 3 ∨ r = 4 ∨ r = 5 ∨ r = 6 := by
        rw [Int.tmod_eq_emod_of_nonneg hw0] at hr
        omega
      have hrw : IntKind.u8.wrap r = r := by rcases hr7 with rfl | rfl | rfl | rfl | rfl | rfl | rfl <;> rfl
      have cx := Sc.out.net.cell
      have cy := Sd.out.net.cell
      have cn := HBn.out.cell
      have fx := Sc.out.net.free
      go_upto_region 9 with (fail)
      clear cx cy cn fx hKi hKw hr hrw ht0 ht1 hw0 hw1 h1 h2 h3
      rcases hr7 with rfl | rfl | rfl | rfl | rfl | rfl | rfl
      · as_aux_lemma =>
        obtain ⟨p, hp⟩ : ∃ p, wrap64 (N + 1) = p := ⟨_, rfl⟩
        have hpN : ¬ p = N := by rw [← hp]; unfold wrap64; omega
        have hu : Upd (fun k => k = xb) W (W.setCell ⟨xb, 0, none⟩ (.int .i64 p)) := Upd.setCell (S := fun k => k = xb) (Upd.refl _ _) (.inl rfl) _
        have Sc1 := Lib.hid (Sc.out.setN p)
        have Sd1 := Lib.hid (Sd.out.other hu (fun e => HNE.out.1 e.symm) (fun g hg he => by cases hg; exact Sd.out.own.ne Sc.out.net (by decide) he) Sc1.out.kp)
        have HB1 := Lib.hid (HBn.out.upd hu HNE.out.2.2)
        have cx := Sc.out.net.cell
        have fx := Sc.out.net.free
        clear hu
        go_upto_region 21 with (fail)
        clear cx fx Sc Sd HBn hp
        generalize (W.setCell ⟨xb, 0, none⟩ (.int .i64 p)) = W1 at Sc1 Sd1 HB1 ⊢
        have HZL : Hid ((ys).length = n ∧ n ≤ 1000000) := Lib.hid (⟨HNL.out.1, by have := HNL.out; omega⟩)
        have HD : Hid (¬ (p = N ∧ S = S ∧ T = T ∧ ys = ys)) := Lib.hid (fun e => hpN e.1)
        have H1 := Lib.hid (same_at Sc1.out.own.at.2 Sd1.out.own.at.2 HZL.out.1 HNL.out.1 HZL.out.2 (by have := HNL.out; omega) (z := false) (N := p) (S := S) (T := T) (N' := N) (S' := S) (T' := T) (decide_eq_false HD.out) q1 q3)
        have H2F := fun (W : World) (u1 : Ars W (some ⟨g3, 0, none⟩) ys) (u2 : Ars W (some ⟨g1, 0, none⟩) ys) => Lib.hid (same_at u1 u2 HNL.out.1 HZL.out.1 (by have := HNL.out; omega) HZL.out.2 (z := false) (N := N) (S := S) (T := T) (N' := p) (S' := S) (T' := T) (decide_eq_false (fun ⟨x1, x2, x3, x4⟩ => HD.out ⟨x1.symm, x2.symm, x3.symm, x4.symm⟩)) q3 q1)
        clear HD
        have cx := Sc1.out.net.cell
        have cy := Sd1.out.net.cell
        have cn := HB1.out.cell
        go_wp2_with fail
        refine H1.out.mono ?_
        rintro e w2 ⟨rfl, hk⟩
        have Sc2 := Lib.hid (Sc1.out.kept hk)
        have Sd2 := Lib.hid (Sd1.out.kept hk)
        have HB2 := Lib.hid (HB1.out.kept hk)
        clear hk Sc1 Sd1 HB1 cx cy cn
        have cx := Sc2.out.net.cell
        have cy := Sd2.out.net.cell
        have cn := HB2.out.cell
        clear H1
        have H2 := H2F _ Sd2.out.own.at.2 Sc2.out.own.at.2
        clear H2F
        go_wp2_with fail
        refine H2.out.mono ?_
        rintro e w3 ⟨rfl, hk⟩
        have Sc3 := Lib.hid (Sc2.out.kept hk)
        have Sd3 := Lib.hid (Sd2.out.kept hk)
        have HB3 := Lib.hid (HB2.out.kept hk)
        clear hk Sc2 Sd2 HB2 cx cy cn
        have cx := Sc3.out.net.cell
        have cy := Sd3.out.net.cell
        have cn := HB3.out.cell
        clear H2
        have H3 := Lib.hid (same_at Sd3.out.own.at.2 (HX.out.kept Sd3.out.kp) HNL.out.1 HNL.out.1 (by have := HNL.out; omega) (by have := HNL.out; omega) (z := true) (N := N) (S := S) (T := T) (N' := N) (S' := S) (T' := T) (by simp) q3 c)
        go_wp2_with fail
        refine H3.out.mono ?_
        rintro e w4 ⟨rfl, hk⟩
        have Sc4 := Lib.hid (Sc3.out.kept hk)
        have Sd4 := Lib.hid (Sd3.out.kept hk)
        have HB4 := Lib.hid (HB3.out.kept hk)
        clear hk Sc3 Sd3 HB3 cx cy cn
        have cx := Sc4.out.net.cell
        have cy := Sd4.out.net.cell
        have cn := HB4.out.cell
        clear H3
        go_wp2_with fail
        refine (HAW _).out.mono ?_
        rintro e w5 ⟨rfl, hk⟩
        have HKF := Lib.hid (Sd4.out.kp.trans hk)
        clear hk
        go_wp2_with fail
        go_ret
        exact ⟨rfl, HKF.out⟩
      · as_aux_lemma =>
        obtain ⟨p, hp⟩ : ∃ p, wrap64 (S + 1) = p := ⟨_, rfl⟩
        have hpN : ¬ p = S := by rw [← hp]; unfold wrap64; omega
        have hu : Upd (fun k => k = xb) W (W.setCell ⟨xb, 1, none⟩ (.int .i64 p)) := Upd.setCell (S := fun k => k = xb) (Upd.refl _ _) (.inl rfl) _
        have Sc1 := Lib.hid (Sc.out.setS p)
        have Sd1 := Lib.hid (Sd.out.other hu (fun e => HNE.out.1 e.symm) (fun g hg he => by cases hg; exact Sd.out.own.ne Sc.out.net (by decide) he) Sc1.out.kp)
        have HB1 := Lib.hid (HBn.out.upd hu HNE.out.2.2)
        have cx := Sc.out.net.cell
        have fx := Sc.out.net.free
        clear hu
        go_upto_region 21 with (fail)
        clear cx fx Sc Sd HBn hp
        generalize (W.setCell ⟨xb, 1, none⟩ (.int .i64 p)) = W1 at Sc1 Sd1 HB1 ⊢
        have HZL : Hid ((ys).length = n ∧ n ≤ 1000000) := Lib.hid (⟨HNL.out.1, by have := HNL.out; omega⟩)
        have HD : Hid (¬ (N = N ∧ p = S ∧ T = T ∧ ys = ys)) := Lib.hid (fun e => hpN e.2.1)
        have H1 := Lib.hid (same_at Sc1.out.own.at.2 Sd1.out.own.at.2 HZL.out.1 HNL.out.1 HZL.out.2 (by have := HNL.out; omega) (z := false) (N := N) (S := p) (T := T) (N' := N) (S' := S) (T' := T) (decide_eq_false HD.out) q1 q3)
        have H2F := fun (W : World) (u1 : Ars W (some ⟨g3, 0, none⟩) ys) (u2 : Ars W (some ⟨g1, 0, none⟩) ys) => Lib.hid (same_at u1 u2 HNL.out.1 HZL.out.1 (by have := HNL.out; omega) HZL.out.2 (z := false) (N := N) (S := S) (T := T) (N' := N) (S' := p) (T' := T) (decide_eq_false (fun ⟨x1, x2, x3, x4⟩ => HD.out ⟨x1.symm, x2.symm, x3.symm, x4.symm⟩)) q3 q1)
        clear HD
        have cx := Sc1.out.net.cell
        have cy := Sd1.out.net.cell
        have cn := HB1.out.cell
        go_wp2_with fail
        refine H1.out.mono ?_
        rintro e w2 ⟨rfl, hk⟩
        have Sc2 := Lib.hid (Sc1.out.kept hk)
        have Sd2 := Lib.hid (Sd1.out.kept hk)
        have HB2 := Lib.hid (HB1.out.kept hk)
        clear hk Sc1 Sd1 HB1 cx cy cn
        have cx := Sc2.out.net.cell
        have cy := Sd2.out.net.cell
        have cn := HB2.out.cell
        clear H1
        have H2 := H2F _ Sd2.out.own.at.2 Sc2.out.own.at.2
        clear H2F
        go_wp2_with fail
        refine H2.out.mono ?_
        rintro e w3 ⟨rfl, hk⟩
        have Sc3 := Lib.hid (Sc2.out.kept hk)
        have Sd3 := Lib.hid (Sd2.out.kept hk)
        have HB3 := Lib.hid (HB2.out.kept hk)
        clear hk Sc2 Sd2 HB2 cx cy cn
        have cx := Sc3.out.net.cell
        have cy := Sd3.out.net.cell
        have cn := HB3.out.cell
        clear H2
        have H3 := Lib.hid (same_at Sd3.out.own.at.2 (HX.out.kept Sd3.out.kp) HNL.out.1 HNL.out.1 (by have := HNL.out; omega) (by have := HNL.out; omega) (z := true) (N := N) (S := S) (T := T) (N' := N) (S' := S) (T' := T) (by simp) q3 c)
        go_wp2_with fail
        refine H3.out.mono ?_
        rintro e w4 ⟨rfl, hk⟩
        have Sc4 := Lib.hid (Sc3.out.kept hk)
        have Sd4 := Lib.hid (Sd3.out.kept hk)
        have HB4 := Lib.hid (HB3.out.kept hk)
        clear hk Sc3 Sd3 HB3 cx cy cn
        have cx := Sc4.out.net.cell
        have cy := Sd4.out.net.cell
        have cn := HB4.out.cell
        clear H3
        go_wp2_with fail
        refine (HAW _).out.mono ?_
        rintro e w5 ⟨rfl, hk⟩
        have HKF := Lib.hid (Sd4.out.kp.trans hk)
        clear hk
        go_wp2_with fail
        go_ret
        exact ⟨rfl, HKF.out⟩
      · as_aux_lemma =>
        obtain ⟨p, hp⟩ : ∃ p, wrap64 (T + 1) = p := ⟨_, rfl⟩
        have hpN : ¬ p = T := by rw [← hp]; unfold wrap64; omega
        have hu : Upd (fun k => k = xb) W (W.setCell ⟨xb, 2, none⟩ (.int .i64 p)) := Upd.setCell (S := fun k => k = xb) (Upd.refl _ _) (.inl rfl) _
        have Sc1 := Lib.hid (Sc.out.setT p)
        have Sd1 := Lib.hid (Sd.out.other hu (fun e => HNE.out.1 e.symm) (fun g hg he => by cases hg; exact Sd.out.own.ne Sc.out.net (by decide) he) Sc1.out.kp)
        have HB1 := Lib.hid (HBn.out.upd hu HNE.out.2.2)
        have cx := Sc.out.net.cell
        have fx := Sc.out.net.free
        clear hu
        go_upto_region 21 with (fail)
        clear cx fx Sc Sd HBn hp
        generalize (W.setCell ⟨xb, 2, none⟩ (.int .i64 p)) = W1 at Sc1 Sd1 HB1 ⊢
        have HZL : Hid ((ys).length = n ∧ n ≤ 1000000) := Lib.hid (⟨HNL.out.1, by have := HNL.out; omega⟩)
        have HD : Hid (¬ (N = N ∧ S = S ∧ p = T ∧ ys = ys)) := Lib.hid (fun e => hpN e.2.2.1)
        have H1 := Lib.hid (same_at Sc1.out.own.at.2 Sd1.out.own.at.2 HZL.out.1 HNL.out.1 HZL.out.2 (by have := HNL.out; omega) (z := false) (N := N) (S := S) (T := p) (N' := N) (S' := S) (T' := T) (decide_eq_false HD.out) q1 q3)
        have H2F := fun (W : World) (u1 : Ars W (some ⟨g3, 0, none⟩) ys) (u2 : Ars W (some ⟨g1, 0, none⟩) ys) => Lib.hid (same_at u1 u2 HNL.out.1 HZL.out.1 (by have := HNL.out; omega) HZL.out.2 (z := false) (N := N) (S := S) (T := T) (N' := N) (S' := S) (T' := p) (decide_eq_false (fun ⟨x1, x2, x3, x4⟩ => HD.out ⟨x1.symm, x2.symm, x3.symm, x4.symm⟩)) q3 q1)
        clear HD
        have cx := Sc1.out.net.cell
        have cy := Sd1.out.net.cell
        have cn := HB1.out.cell
        go_wp2_with fail
        refine H1.out.mono ?_
        rintro e w2 ⟨rfl, hk⟩
        have Sc2 := Lib.hid (Sc1.out.kept hk)
        have Sd2 := Lib.hid (Sd1.out.kept hk)
        have HB2 := Lib.hid (HB1.out.kept hk)
        clear hk Sc1 Sd1 HB1 cx cy cn
        have cx := Sc2.out.net.cell
        have cy := Sd2.out.net.cell
        have cn := HB2.out.cell
        clear H1
        have H2 := H2F _ Sd2.out.own.at.2 Sc2.out.own.at.2
        clear H2F
        go_wp2_with fail
        refine H2.out.mono ?_
        rintro e w3 ⟨rfl, hk⟩
        have Sc3 := Lib.hid (Sc2.out.kept hk)
        have Sd3 := Lib.hid (Sd2.out.kept hk)
        have HB3 := Lib.hid (HB2.out.kept hk)
        clear hk Sc2 Sd2 HB2 cx cy cn
        have cx := Sc3.out.net.cell
        have cy := Sd3.out.net.cell
        have cn := HB3.out.cell
        clear H2
        have H3 := Lib.hid (same_at Sd3.out.own.at.2 (HX.out.kept Sd3.out.kp) HNL.out.1 HNL.out.1 (by have := HNL.out; omega) (by have := HNL.out; omega) (z := true) (N := N) (S := S) (T := T) (N' := N) (S' := S) (T' := T) (by simp) q3 c)
        go_wp2_with fail
        refine H3.out.mono ?_
        rintro e w4 ⟨rfl, hk⟩
        have Sc4 := Lib.hid (Sc3.out.kept hk)
        have Sd4 := Lib.hid (Sd3.out.kept hk)
        have HB4 := Lib.hid (HB3.out.kept hk)
        clear hk Sc3 Sd3 HB3 cx cy cn
        have cx := Sc4.out.net.cell
        have cy := Sd4.out.net.cell
        have cn := HB4.out.cell
        clear H3
        go_wp2_with fail
        refine (HAW _).out.mono ?_
        rintro e w5 ⟨rfl, hk⟩
        have HKF := Lib.hid (Sd4.out.kp.trans hk)
        clear hk
        go_wp2_with fail
        go_ret
        exact ⟨rfl, HKF.out⟩
      · as_aux_lemma =>
        have hKy : K < ys.length := by rw [HNL.out.1]; exact hKM
        obtain ⟨p, hp⟩ : ∃ p, wrap64 (ys[K].f + 1) = p := ⟨_, rfl⟩
        have hpN : ¬ p = ys[K].f := by rw [← hp]; unfold wrap64; omega
        have hu : Upd (fun k => k = g1) W (W.setCell ⟨g1, K * 3, none⟩ (.int .i64 p)) := Upd.setCell (S := fun k => k = g1) (Upd.refl _ _) (.inl rfl) _
        have Sc1 := Lib.hid (Sc.out.setF K hKy p)
        have Sd1 := Lib.hid (Sd.out.other hu (fun e => Sc.out.own.ne Sd.out.net (by decide) e.symm) (fun g hg he => by cases hg; exact HNE.out.2.1 he.symm) Sc1.out.kp)
        have HB1 := Lib.hid (HBn.out.upd hu (fun e => Sc.out.own.ne HBn.out (by decide) e.symm))
        have cx := Sc.out.net.cell
        have cr : W.cell? ⟨g1, K * 3, none⟩ = some (.int .i64 ys[K].f) := by
          obtain ⟨b', off', e, h0, h1, h2⟩ := Sc.out.own.at.2.at K hKy
          cases e
          simpa using h0
        obtain ⟨g', hg', _, _, fr⟩ := Sc.out.own.blk HN0.out
        cases hg'
        have q0 : (0 : Int) ≤ (K : Int) := by omega
        have q1' : (K : Int) < (n : Int) := by omega
        clear hu
        go_upto_region 21 with (fail)
        clear cx cr fr Sc Sd HBn hp q0 q1'
        generalize (W.setCell ⟨g1, K * 3, none⟩ (.int .i64 p)) = W1 at Sc1 Sd1 HB1 ⊢
        have HZL : Hid (((ys.set K (⟨p, ys[K].t, ys[K].c⟩ : Ar))).length = n ∧ n ≤ 1000000) := Lib.hid (⟨by rw [List.length_set]; exact HNL.out.1, by have := HNL.out; omega⟩)
        have HD : Hid (¬ (N = N ∧ S = S ∧ T = T ∧ (ys.set K (⟨p, ys[K].t, ys[K].c⟩ : Ar)) = ys)) := Lib.hid (fun e => by
          have h := congrArg (fun l => l[K]?) e.2.2.2
          simp [hKy] at h
          exact hpN (congrArg Ar.f h))
        have H1 := Lib.hid (same_at Sc1.out.own.at.2 Sd1.out.own.at.2 HZL.out.1 HNL.out.1 HZL.out.2 (by have := HNL.out; omega) (z := false) (N := N) (S := S) (T := T) (N' := N) (S' := S) (T' := T) (decide_eq_false HD.out) q1 q3)
        have H2F := fun (W : World) (u1 : Ars W (some ⟨g3, 0, none⟩) ys) (u2 : Ars W (some ⟨g1, 0, none⟩) (ys.set K (⟨p, ys[K].t, ys[K].c⟩ : Ar))) => Lib.hid (same_at u1 u2 HNL.out.1 HZL.out.1 (by have := HNL.out; omega) HZL.out.2 (z := false) (N := N) (S := S) (T := T) (N' := N) (S' := S) (T' := T) (decide_eq_false (fun ⟨x1, x2, x3, x4⟩ => HD.out ⟨x1.symm, x2.symm, x3.symm, x4.symm⟩)) q3 q1)
        clear HD
        have cx := Sc1.out.net.cell
        have cy := Sd1.out.net.cell
        have cn := HB1.out.cell
        go_wp2_with fail
        refine H1.out.mono ?_
        rintro e w2 ⟨rfl, hk⟩
        have Sc2 := Lib.hid (Sc1.out.kept hk)
        have Sd2 := Lib.hid (Sd1.out.kept hk)
        have HB2 := Lib.hid (HB1.out.kept hk)
        clear hk Sc1 Sd1 HB1 cx cy cn
        have cx := Sc2.out.net.cell
        have cy := Sd2.out.net.cell
        have cn := HB2.out.cell
        clear H1
        have H2 := H2F _ Sd2.out.own.at.2 Sc2.out.own.at.2
        clear H2F
        go_wp2_with fail
        refine H2.out.mono ?_
        rintro e w3 ⟨rfl, hk⟩
        have Sc3 := Lib.hid (Sc2.out.kept hk)
        have Sd3 := Lib.hid (Sd2.out.kept hk)
        have HB3 := Lib.hid (HB2.out.kept hk)
        clear hk Sc2 Sd2 HB2 cx cy cn
        have cx := Sc3.out.net.cell
        have cy := Sd3.out.net.cell
        have cn := HB3.out.cell
        clear H2
        have H3 := Lib.hid (same_at Sd3.out.own.at.2 (HX.out.kept Sd3.out.kp) HNL.out.1 HNL.out.1 (by have := HNL.out; omega) (by have := HNL.out; omega) (z := true) (N := N) (S := S) (T := T) (N' := N) (S' := S) (T' := T) (by simp) q3 c)
        go_wp2_with fail
        refine H3.out.mono ?_
        rintro e w4 ⟨rfl, hk⟩
        have Sc4 := Lib.hid (Sc3.out.kept hk)
        have Sd4 := Lib.hid (Sd3.out.kept hk)
        have HB4 := Lib.hid (HB3.out.kept hk)
        clear hk Sc3 Sd3 HB3 cx cy cn
        have cx := Sc4.out.net.cell
        have cy := Sd4.out.net.cell
        have cn := HB4.out.cell
        clear H3
        go_wp2_with fail
        refine (HAW _).out.mono ?_
        rintro e w5 ⟨rfl, hk⟩
        have HKF := Lib.hid (Sd4.out.kp.trans hk)
        clear hk
        go_wp2_with fail
        go_ret
        exact ⟨rfl, HKF.out⟩
      · as_aux_lemma =>
        have hKy : K < ys.length := by rw [HNL.out.1]; exact hKM
        obtain ⟨p, hp⟩ : ∃ p, wrap64 (ys[K].t + 1) = p := ⟨_, rfl⟩
        have hpN : ¬ p = ys[K].t := by rw [← hp]; unfold wrap64; omega
        have hu : Upd (fun k => k = g1) W (W.setCell ⟨g1, K * 3 + 1, none⟩ (.int .i64 p)) := Upd.setCell (S := fun k => k = g1) (Upd.refl _ _) (.inl rfl) _
        have Sc1 := Lib.hid (Sc.out.setTo K hKy p)
        have Sd1 := Lib.hid (Sd.out.other hu (fun e => Sc.out.own.ne Sd.out.net (by decide) e.symm) (fun g hg he => by cases hg; exact HNE.out.2.1 he.symm) Sc1.out.kp)
        have HB1 := Lib.hid (HBn.out.upd hu (fun e => Sc.out.own.ne HBn.out (by decide) e.symm))
        have cx := Sc.out.net.cell
        have cr : W.cell? ⟨g1, K * 3 + 1, none⟩ = some (.int .i64 ys[K].t) := by
          obtain ⟨b', off', e, h0, h1, h2⟩ := Sc.out.own.at.2.at K hKy
          cases e
          simpa using h1
        obtain ⟨g', hg', _, _, fr⟩ := Sc.out.own.blk HN0.out
        cases hg'
        have q0 : (0 : Int) ≤ (K : Int) := by omega
        have q1' : (K : Int) < (n : Int) := by omega
        clear hu
        go_upto_region 21 with (fail)
        clear cx cr fr Sc Sd HBn hp q0 q1'
        generalize (W.setCell ⟨g1, K * 3 + 1, none⟩ (.int .i64 p)) = W1 at Sc1 Sd1 HB1 ⊢
        have HZL : Hid (((ys.set K (⟨ys[K].f, p, ys[K].c⟩ : Ar))).length = n ∧ n ≤ 1000000) := Lib.hid (⟨by rw [List.length_set]; exact HNL.out.1, by have := HNL.out; omega⟩)
        have HD : Hid (¬ (N = N ∧ S = S ∧ T = T ∧ (ys.set K (⟨ys[K].f, p, ys[K].c⟩ : Ar)) = ys)) := Lib.hid (fun e => by
          have h := congrArg (fun l => l[K]?) e.2.2.2
          simp [hKy] at h
          exact hpN (congrArg Ar.t h))
        have H1 := Lib.hid (same_at Sc1.out.own.at.2 Sd1.out.own.at.2 HZL.out.1 HNL.out.1 HZL.out.2 (by have := HNL.out; omega) (z := false) (N := N) (S := S) (T := T) (N' := N) (S' := S) (T' := T) (decide_eq_false HD.out) q1 q3)
        have H2F := fun (W : World) (u1 : Ars W (some ⟨g3, 0, none⟩) ys) (u2 : Ars W (some ⟨g1, 0, none⟩) (ys.set K (⟨ys[K].f, p, ys[K].c⟩ : Ar))) => Lib.hid (same_at u1 u2 HNL.out.1 HZL.out.1 (by have := HNL.out; omega) HZL.out.2 (z := false) (N := N) (S := S) (T := T) (N' := N) (S' := S) (T' := T) (decide_eq_false (fun ⟨x1, x2, x3, x4⟩ => HD.out ⟨x1.symm, x2.symm, x3.symm, x4.symm⟩)) q3 q1)
        clear HD
        have cx := Sc1.out.net.cell
        have cy := Sd1.out.net.cell
        have cn := HB1.out.cell
        go_wp2_with fail
        refine H1.out.mono ?_
        rintro e w2 ⟨rfl, hk⟩
        have Sc2 := Lib.hid (Sc1.out.kept hk)
        have Sd2 := Lib.hid (Sd1.out.kept hk)
        have HB2 := Lib.hid (HB1.out.kept hk)
        clear hk Sc1 Sd1 HB1 cx cy cn
        have cx := Sc2.out.net.cell
        have cy := Sd2.out.net.cell
        have cn := HB2.out.cell
        clear H1
        have H2 := H2F _ Sd2.out.own.at.2 Sc2.out.own.at.2
        clear H2F
        go_wp2_with fail
        refine H2.out.mono ?_
        rintro e w3 ⟨rfl, hk⟩
        have Sc3 := Lib.hid (Sc2.out.kept hk)
        have Sd3 := Lib.hid (Sd2.out.kept hk)
        have HB3 := Lib.hid (HB2.out.kept hk)
        clear hk Sc2 Sd2 HB2 cx cy cn
        have cx := Sc3.out.net.cell
        have cy := Sd3.out.net.cell
        have cn := HB3.out.cell
        clear H2
        have H3 := Lib.hid (same_at Sd3.out.own.at.2 (HX.out.kept Sd3.out.kp) HNL.out.1 HNL.out.1 (by have := HNL.out; omega) (by have := HNL.out; omega) (z := true) (N := N) (S := S) (T := T) (N' := N) (S' := S) (T' := T) (by simp) q3 c)
        go_wp2_with fail
        refine H3.out.mono ?_
        rintro e w4 ⟨rfl, hk⟩
        have Sc4 := Lib.hid (Sc3.out.kept hk)
        have Sd4 := Lib.hid (Sd3.out.kept hk)
        have HB4 := Lib.hid (HB3.out.kept hk)
        clear hk Sc3 Sd3 HB3 cx cy cn
        have cx := Sc4.out.net.cell
        have cy := Sd4.out.net.cell
        have cn := HB4.out.cell
        clear H3
        go_wp2_with fail
        refine (HAW _).out.mono ?_
        rintro e w5 ⟨rfl, hk⟩
        have HKF := Lib.hid (Sd4.out.kp.trans hk)
        clear hk
        go_wp2_with fail
        go_ret
        exact ⟨rfl, HKF.out⟩
      · as_aux_lemma =>
        have hKy : K < ys.length := by rw [HNL.out.1]; exact hKM
        obtain ⟨p, hp⟩ : ∃ p, wrap64 (ys[K].c + 1) = p := ⟨_, rfl⟩
        have hpN : ¬ p = ys[K].c := by rw [← hp]; unfold wrap64; omega
        have hu : Upd (fun k => k = g1) W (W.setCell ⟨g1, K * 3 + 2, none⟩ (.int .i64 p)) := Upd.setCell (S := fun k => k = g1) (Upd.refl _ _) (.inl rfl) _
        have Sc1 := Lib.hid (Sc.out.setC K hKy p)
        have Sd1 := Lib.hid (Sd.out.other hu (fun e => Sc.out.own.ne Sd.out.net (by decide) e.symm) (fun g hg he => by cases hg; exact HNE.out.2.1 he.symm) Sc1.out.kp)
        have HB1 := Lib.hid (HBn.out.upd hu (fun e => Sc.out.own.ne HBn.out (by decide) e.symm))
        have cx := Sc.out.net.cell
        have cr : W.cell? ⟨g1, K * 3 + 2, none⟩ = some (.int .i64 ys[K].c) := by
          obtain ⟨b', off', e, h0, h1, h2⟩ := Sc.out.own.at.2.at K hKy
          cases e
          simpa using h2
        obtain ⟨g', hg', _, _, fr⟩ := Sc.out.own.blk HN0.out
        cases hg'
        have q0 : (0 : Int) ≤ (K : Int) := by omega
        have q1' : (K : Int) < (n : Int) := by omega
        clear hu
        go_upto_region 21 with (fail)
        clear cx cr fr Sc Sd HBn hp q0 q1'
        generalize (W.setCell ⟨g1, K * 3 + 2, none⟩ (.int .i64 p)) = W1 at Sc1 Sd1 HB1 ⊢
        have HZL : Hid (((ys.set K (⟨ys[K].f, ys[K].t, p⟩ : Ar))).length = n ∧ n ≤ 1000000) := Lib.hid (⟨by rw [List.length_set]; exact HNL.out.1, by have := HNL.out; omega⟩)
        have HD : Hid (¬ (N = N ∧ S = S ∧ T = T ∧ (ys.set K (⟨ys[K].f, ys[K].t, p⟩ : Ar)) = ys)) := Lib.hid (fun e => by
          have h := congrArg (fun l => l[K]?) e.2.2.2
          simp [hKy] at h
          exact hpN (congrArg Ar.c h))
        have H1 := Lib.hid (same_at Sc1.out.own.at.2 Sd1.out.own.at.2 HZL.out.1 HNL.out.1 HZL.out.2 (by have := HNL.out; omega) (z := false) (N := N) (S := S) (T := T) (N' := N) (S' := S) (T' := T) (decide_eq_false HD.out) q1 q3)
        have H2F := fun (W : World) (u1 : Ars W (some ⟨g3, 0, none⟩) ys) (u2 : Ars W (some ⟨g1, 0, none⟩) (ys.set K (⟨ys[K].f, ys[K].t, p⟩ : Ar))) => Lib.hid (same_at u1 u2 HNL.out.1 HZL.out.1 (by have := HNL.out; omega) HZL.out.2 (z := false) (N := N) (S := S) (T := T) (N' := N) (S' := S) (T' := T) (decide_eq_false (fun ⟨x1, x2, x3, x4⟩ => HD.out ⟨x1.symm, x2.symm, x3.symm, x4.symm⟩)) q3 q1)
        clear HD
        have cx := Sc1.out.net.cell
        have cy := Sd1.out.net.cell
        have cn := HB1.out.cell
        go_wp2_with fail
        refine H1.out.mono ?_
        rintro e w2 ⟨rfl, hk⟩
        have Sc2 := Lib.hid (Sc1.out.kept hk)
        have Sd2 := Lib.hid (Sd1.out.kept hk)
        have HB2 := Lib.hid (HB1.out.kept hk)
        clear hk Sc1 Sd1 HB1 cx cy cn
        have cx := Sc2.out.net.cell
        have cy := Sd2.out.net.cell
        have cn := HB2.out.cell
        clear H1
        have H2 := H2F _ Sd2.out.own.at.2 Sc2.out.own.at.2
        clear H2F
        go_wp2_with fail
        refine H2.out.mono ?_
        rintro e w3 ⟨rfl, hk⟩
        have Sc3 := Lib.hid (Sc2.out.kept hk)
        have Sd3 := Lib.hid (Sd2.out.kept hk)
        have HB3 := Lib.hid (HB2.out.kept hk)
        clear hk Sc2 Sd2 HB2 cx cy cn
        have cx := Sc3.out.net.cell
        have cy := Sd3.out.net.cell
        have cn := HB3.out.cell
        clear H2
        have H3 := Lib.hid (same_at Sd3.out.own.at.2 (HX.out.kept Sd3.out.kp) HNL.out.1 HNL.out.1 (by have := HNL.out; omega) (by have := HNL.out; omega) (z := true) (N := N) (S := S) (T := T) (N' := N) (S' := S) (T' := T) (by simp) q3 c)
        go_wp2_with fail
        refine H3.out.mono ?_
        rintro e w4 ⟨rfl, hk⟩
        have Sc4 := Lib.hid (Sc3.out.kept hk)
        have Sd4 := Lib.hid (Sd3.out.kept hk)
        have HB4 := Lib.hid (HB3.out.kept hk)
        clear hk Sc3 Sd3 HB3 cx cy cn
        have cx := Sc4.out.net.cell
        have cy := Sd4.out.net.cell
        have cn := HB4.out.cell
        clear H3
        go_wp2_with fail
        refine (HAW _).out.mono ?_
        rintro e w5 ⟨rfl, hk⟩
        have HKF := Lib.hid (Sd4.out.kp.trans hk)
        clear hk
        go_wp2_with fail
        go_ret
        exact ⟨rfl, HKF.out⟩
      · as_aux_lemma =>
        obtain ⟨j1, hi, hz0, hz1, hz2⟩ := info_parts infoArc
        have HO7 : Hid ((W.alloc (.cells #[.int .i64 0, .int .i64 0, .int .i64 0] 31)).ownsRow w.heap.size 31 3 (.slice (some ⟨g1, 0, none⟩) n q1) n (acells ys)) := Lib.hid (by
          have h := Sc.out.own.kept ((Upd.refl _ _).alloc (.cells #[.int .i64 0, .int .i64 0, .int .i64 0] 31))
          unfold Own at h
          rw [HNL.out.1] at h
          exact h)
        have Sc7 := Lib.hid (Sc.out.kept ((Upd.refl _ _).alloc (.cells #[.int .i64 0, .int .i64 0, .int .i64 0] 31)))
        have Sd7 := Lib.hid (Sd.out.kept ((Upd.refl _ _).alloc (.cells #[.int .i64 0, .int .i64 0, .int .i64 0] 31)))
        have HB7 := Lib.hid (HBn.out.alloc (.cells #[.int .i64 0, .int .i64 0, .int .i64 0] 31))
        have cx := Sc.out.net.cell
        have lx := Sc.out.net.lt
        clear Sc Sd HBn
        go_upto_region 21 with (first | (at_builtin; refine wpList_append_own _ rfl _ _ 22 rfl w.heap.size 31 j1 (.agg #[.int .i64 0, .int .i64 0, .int .i64 0]) 3 24 Try.underlying22 hi hz0 hz1 hz2 rfl (by decide) _ n (acells ys) rfl HO7.out ⟨W.heap.size, 0, none⟩ 1 1 [.int .i64 0, .int .i64 0, .int .i64 0] rfl rfl (cells_new _ _ _) (by intro u hu; simp at hu; subst hu; rfl) (by have := HNL.out; unfold maxLen; omega) (by have := HNL.out; omega) (by have := Sc7.out.kp.size; exact this) ?_; intro v' w7 hown hgrow hnil; obtain ⟨a7, c7, rfl⟩ := row_form hown; have hU7 : Upd (fun k => k = g1) (W.alloc (.cells #[.int .i64 0, .int .i64 0, .int .i64 0] 31)) w7 := Upd.grown (Upd.refl _ _) hgrow (fun k hk => .inl (by cases hk; rfl)); have HM8 := Lib.hid (Sc7.out.net.upd hU7 (fun e => Sc7.out.own.ne Sc7.out.net (by decide) e.symm)); have HK8 := Lib.hid (Sc7.out.kp.then hU7 (fun k hk he => by have := (World.ownsRow.lt HO7.out k (by subst he; rfl)).1; omega)); have Sd8 := Lib.hid (Sd7.out.other hU7 (fun e => Sc7.out.own.ne Sd7.out.net (by decide) e.symm) (fun g hg he => by cases hg; exact HNE.out.2.1 he.symm) HK8.out); have HB8 := Lib.hid (HB7.out.upd hU7 (fun e => Sc7.out.own.ne HB7.out (by decide) e.symm)); have HW8 := Lib.hid hown; have cm8 := HM8.out.cell; have fm8 := HM8.out.free; have hge := Sc7.out.ge; clear hown hgrow hnil cx lx) | fail)
        have hzl : (ys ++ [(⟨0, 0, 0⟩ : Ar)]).length = (n + 1) := by simp [HNL.out.1]
        have hu : Upd (fun k => k = xb) w7 (w7.setCell ⟨xb, 3, none⟩ (.slice a7 (n + 1) c7)) := Upd.setCell (S := fun k => k = xb) (Upd.refl _ _) (.inl rfl) _
        have hO8 : Own w7 w.heap.size (.slice a7 (n + 1) c7) (ys ++ [⟨0, 0, 0⟩]) := by
          unfold Own
          rw [acells_append, hzl]
          exact HW8.out
        have HK9 := Lib.hid (HK8.out.then hu (fun k hk he => by omega))
        have Sc1 : Hid (NF w xb N S T a7 (n + 1) c7 (ys ++ [⟨0, 0, 0⟩]) (w7.setCell ⟨xb, 3, none⟩ (.slice a7 (n + 1) c7))) := Lib.hid
          ⟨HK9.out, by have := HM8.out.set 3 (.slice a7 (n + 1) c7); simpa using this, hO8.far hu (fun g hg he => by subst hg; exact hO8.ne HM8.out (by decide) he), hge⟩
        have Sd1 := Lib.hid (Sd8.out.other hu (fun e => HNE.out.1 e.symm) (fun g hg he => by cases hg; exact Sd8.out.own.ne HM8.out (by decide) he) HK9.out)
        have HB1 := Lib.hid (HB8.out.upd hu HNE.out.2.2)
        clear hu hO8 HK9 HK8 HM8 Sd8 HB8 HW8 cm8 fm8 hge Sc7 Sd7 HB7 HO7 hU7 hi hz0 hz1 hz2
        generalize (w7.setCell ⟨xb, 3, none⟩ (.slice a7 (n + 1) c7)) = W1 at Sc1 Sd1 HB1 ⊢
        have HZL : Hid (((ys ++ [(⟨0, 0, 0⟩ : Ar)])).length = (n + 1) ∧ (n + 1) ≤ 1000000) := Lib.hid (⟨hzl, by have := HNL.out; omega⟩)
        have HD : Hid (¬ (N = N ∧ S = S ∧ T = T ∧ (ys ++ [(⟨0, 0, 0⟩ : Ar)]) = ys)) := Lib.hid (fun e => by have h := congrArg List.length e.2.2.2; simp at h)
        have H1 := Lib.hid (same_at Sc1.out.own.at.2 Sd1.out.own.at.2 HZL.out.1 HNL.out.1 HZL.out.2 (by have := HNL.out; omega) (z := false) (N := N) (S := S) (T := T) (N' := N) (S' := S) (T' := T) (decide_eq_false HD.out) c7 q3)
        have H2F := fun (W : World) (u1 : Ars W (some ⟨g3, 0, none⟩) ys) (u2 : Ars W a7 (ys ++ [(⟨0, 0, 0⟩ : Ar)])) => Lib.hid (same_at u1 u2 HNL.out.1 HZL.out.1 (by have := HNL.out; omega) HZL.out.2 (z := false) (N := N) (S := S) (T := T) (N' := N) (S' := S) (T' := T) (decide_eq_false (fun ⟨x1, x2, x3, x4⟩ => HD.out ⟨x1.symm, x2.symm, x3.symm, x4.symm⟩)) q3 c7)
        clear HD
        have cx := Sc1.out.net.cell
        have cy := Sd1.out.net.cell
        have cn := HB1.out.cell
        go_wp2_with fail
        refine H1.out.mono ?_
        rintro e w2 ⟨rfl, hk⟩
        have Sc2 := Lib.hid (Sc1.out.kept hk)
        have Sd2 := Lib.hid (Sd1.out.kept hk)
        have HB2 := Lib.hid (HB1.out.kept hk)
        clear hk Sc1 Sd1 HB1 cx cy cn
        have cx := Sc2.out.net.cell
        have cy := Sd2.out.net.cell
        have cn := HB2.out.cell
        clear H1
        have H2 := H2F _ Sd2.out.own.at.2 Sc2.out.own.at.2
        clear H2F
        go_wp2_with fail
        refine H2.out.mono ?_
        rintro e w3 ⟨rfl, hk⟩
        have Sc3 := Lib.hid (Sc2.out.kept hk)
        have Sd3 := Lib.hid (Sd2.out.kept hk)
        have HB3 := Lib.hid (HB2.out.kept hk)
        clear hk Sc2 Sd2 HB2 cx cy cn
        have cx := Sc3.out.net.cell
        have cy := Sd3.out.net.cell
        have cn := HB3.out.cell
        clear H2
        have H3 := Lib.hid (same_at Sd3.out.own.at.2 (HX.out.kept Sd3.out.kp) HNL.out.1 HNL.out.1 (by have := HNL.out; omega) (by have := HNL.out; omega) (z := true) (N := N) (S := S) (T := T) (N' := N) (S' := S) (T' := T) (by simp) q3 c)
        go_wp2_with fail
        refine H3.out.mono ?_
        rintro e w4 ⟨rfl, hk⟩
        have Sc4 := Lib.hid (Sc3.out.kept hk)
        have Sd4 := Lib.hid (Sd3.out.kept hk)
        have HB4 := Lib.hid (HB3.out.kept hk)
        clear hk Sc3 Sd3 HB3 cx cy cn
        have cx := Sc4.out.net.cell
        have cy := Sd4.out.net.cell
        have cn := HB4.out.cell
        clear H3
        go_wp2_with fail
        refine (HAW _).out.mono ?_
        rintro e w5 ⟨rfl, hk⟩
        have HKF := Lib.hid (Sd4.out.kp.trans hk)
        clear hk
        go_wp2_with fail
        go_ret
        exact ⟨rfl, HKF.out⟩
theorem netCopies_walk (N S T : Int) (a : Option Addr) (cap : Nat) (els : List (List Value)) (tn wh : Int) (w : World) (_wN : (Lit.int .i64 N).wf = true) (_wS : (Lit.int .i64 S).wf = true) (_wT : (Lit.int .i64 T).wf = true) (hrow : FlatRow [some .i64, some .i64, some .i64] w a cap els) (_hf : ∀ x ∈ els, fits [some .i64, some .i64, some .i64] x) (wt : (Lit.int .u8 tn).wf = true) (wc : (Lit.int .u8 wh).wf = true) :
    Calls Try.prog 6 #[.agg #[.int .i64 N, .int .i64 S, .int .i64 T, .slice a els.length cap], .int .u8 tn, .int .u8 wh] w fun e w' => e = .returned (.bool true) ∧ Kept w w' := by
  obtain ⟨ys, hl, hA, _⟩ := ars_of_flat hrow
  have hle := hrow.le
  have hmo := hrow.most
  unfold maxLen at hmo
  exact netCopies_core N S T a els.length cap ys tn wh w hA hl (by omega) (bounds_u8 wt).1 (bounds_u8 wt).2 (bounds_u8 wc).1 (bounds_u8 wc).2
end Go.Proofs.Ytafabeehbifgaaa
