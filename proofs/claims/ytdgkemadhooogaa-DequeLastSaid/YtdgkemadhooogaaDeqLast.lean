/- The law DequeLast (printed by gen_deq.py). -/
import Derived.Test.YtdgkemadhooogaaDeqLaw
import Derived.Test.YtdgkemadhooogaaDeqLastQ
import Derived.Test.YtdgkemadhooogaaDeqCrew
import Derived.Deep.RegionHeld3
import Derived.Deep.CutRange
import Derived.StillTailTactics
import Derived.Deep.MidRow
import Derived.Deep.MidRow
namespace Go.Proofs.Ytdgkemadhooogaa
set_option linter.unusedVariables false
set_option linter.unusedSimpArgs false
open Go.RowKit
attribute [local go_sem] cell?_ext

set_option maxRecDepth 100000 in
set_option maxHeartbeats 16000000 in
theorem dequeLast_core (vts ahead thv : Int) (oa : Option Addr) (oc : Nat) (os : List Int) (w : World) (hv0 : 0 ≤ vts) (hv1 : vts ≤ 255) (ha0 : 0 ≤ ahead) (ha1 : ahead ≤ 255) (ht0 : 0 ≤ thv) (ht1 : thv ≤ 255) (ho : Rd w oa (os.map (Value.int .u8))) (ho2 : ∀ x ∈ os, 0 ≤ x ∧ x ≤ 255) (hol : os.length ≤ oc) (hom : oc ≤ 9223372036854775807) :
    Calls Try.prog 5 #[.int .u8 vts, .int .u8 ahead, .int .u8 thv, .slice oa os.length oc] w fun e w' => e = .returned (.bool true) ∧ Kept w w' := by
  have HZ14 : Hid ((Try.prog.info? 24).map (·.size) = some 14) := Lib.hid (by kernel_rfl)
  have HZo : Hid ((Try.prog.info? 51).map (·.size) = some 21) := Lib.hid (by kernel_rfl)
  have HZt : Hid ((Try.prog.info? 45).map (·.size) = some 22) := Lib.hid (by kernel_rfl)
  have HZu : Hid ((Try.prog.info? 48).map (·.size) = some 22) := Lib.hid (by kernel_rfl)
  obtain ⟨r, S, hS, hS2, hrm, hr13, hvr, hr8, htp⟩ := plan_geo (1 + vts % 16) 1 (by omega) (by omega)
  obtain ⟨tp, hG0, htp0, hfp⟩ := htp 0 (by omega) (by omega)
  obtain ⟨l, hl⟩ : ∃ l, planOf (1 + vts % 16) 0 1 = l := ⟨_, rfl⟩
  have HB := fun w => Lib.hid (bank_any (1 + vts % 16) 1 w (by unfold May; omega) l hl S (by rw [← hl]; exact hS) hS2)
  rw [hl] at hrm hG0
  have HRW0 : Hid (Row tp r (List.replicate S 0) 0 []) := Lib.hid (row_zero hfp)
  have HRV : Hid (1 ≤ 2 ^ r) := Lib.hid Nat.one_le_two_pow
  have HG := Lib.hid hG0
  have HNU := fun v w => Lib.hid (NewPush_any l 0 v w)
  have HNP := fun w => Lib.hid (NewPop_any l 0 w)
  have HNS := fun w => Lib.hid (NewSteal_any l 0 w)
  have HH0 := fun w bb g xs T L n (hb : Bnk w bb g xs) (hr : Row tp r xs T L) hn => Lib.hid (Held_row hG0 hb hr n hn)
  clear hS hS2 hrm hr13 hvr hr8 htp hG0 htp0 hfp hl
  obtain ⟨verts, arcs, workers, room, res, lex, hh, flag, pending, ask, count, sense, deques, size⟩ := l
  simp only [Lay.val, Lay.vals, PL] at HB HNU HNP HNS HH0
  have hq0 : 0 ≤ vts % 16 := Int.emod_nonneg _ (by omega)
  have hq1 : vts % 16 < 16 := Int.emod_lt_of_pos _ (by omega)
  have hwv : wrap64 (1 + vts % 16) = 1 + vts % 16 := by unfold wrap64; omega
  obtain ⟨N, hN⟩ : ∃ N : Nat, ahead % 10 = (N : Int) := ⟨(ahead % 10).toNat, by have := Int.emod_nonneg ahead (show (10 : Int) ≠ 0 by omega); omega⟩
  have hN9 : N ≤ 9 := by have := Int.emod_lt_of_pos ahead (show (0 : Int) < 10 by omega); omega
  have HNN := Lib.hid hN
  clear hN
  obtain ⟨M, hM⟩ : ∃ M : Nat, 1 + thv % 4 = (M : Int) := ⟨(1 + thv % 4).toNat, by omega⟩
  have hM4 : 1 ≤ M ∧ M ≤ 4 := by omega
  have HMM := Lib.hid hM
  clear hM
  go_enter Try.func5, Try.ntmps5
  go_wp2_with fail
  refine (HB _).out.mono ?_
  rintro e w0 ⟨bb, g, rfl, hb, h1, h2, hk⟩
  have hA := (Upd.refl (fun _ => False) w0).alloc (.cells #[.int .i64 verts, .int .i64 arcs, .int .i64 workers, .int .i64 room, .int .i64 res, .int .i64 lex, .int .i64 hh, .int .i64 flag, .int .i64 pending, .int .i64 ask, .int .i64 count, .int .i64 sense, .int .i64 deques, .int .i64 size] 24)
  have D0 : Hid (DA w (w0.alloc (.cells #[.int .i64 verts, .int .i64 arcs, .int .i64 workers, .int .i64 room, .int .i64 res, .int .i64 lex, .int .i64 hh, .int .i64 flag, .int .i64 pending, .int .i64 ask, .int .i64 count, .int .i64 sense, .int .i64 deques, .int .i64 size] 24)).heap.size w0.heap.size bb g #[.int .i64 verts, .int .i64 arcs, .int .i64 workers, .int .i64 room, .int .i64 res, .int .i64 lex, .int .i64 hh, .int .i64 flag, .int .i64 pending, .int .i64 ask, .int .i64 count, .int .i64 sense, .int .i64 deques, .int .i64 size] (List.replicate S 0) (w0.alloc (.cells #[.int .i64 verts, .int .i64 arcs, .int .i64 workers, .int .i64 room, .int .i64 res, .int .i64 lex, .int .i64 hh, .int .i64 flag, .int .i64 pending, .int .i64 ask, .int .i64 count, .int .i64 sense, .int .i64 deques, .int .i64 size] 24))) := Lib.hid (by
    have h3 := hb.head.lt
    have h4 := hb.row.lt
    have h5 := hk.size
    have h6 : (w0.alloc (.cells #[.int .i64 verts, .int .i64 arcs, .int .i64 workers, .int .i64 room, .int .i64 res, .int .i64 lex, .int .i64 hh, .int .i64 flag, .int .i64 pending, .int .i64 ask, .int .i64 count, .int .i64 sense, .int .i64 deques, .int .i64 size] 24)).heap.size = w0.heap.size + 1 := World.size_alloc _ _
    exact ⟨hk.trans hA, Blk.new _ _ _, hb.kept hA, by omega⟩)
  clear hb h1 h2 hk hA HB
  simp only [Lay.val, Lay.vals]
  go_upto_region 2 with (fail)
  generalize (w0.alloc (.cells #[.int .i64 verts, .int .i64 arcs, .int .i64 workers, .int .i64 room, .int .i64 res, .int .i64 lex, .int .i64 hh, .int .i64 flag, .int .i64 pending, .int .i64 ask, .int .i64 count, .int .i64 sense, .int .i64 deques, .int .i64 size] 24)) = W1 at D0 ⊢
  generalize w0.heap.size = lb at D0 ⊢
  generalize W1.heap.size = B at D0
  clear hq0 hq1 hwv
  go_wp2_with fail
  go_loopw [43] (fun cx wr => ∃ (c : Nat) (xs : List Int) (T : Int), cx = .int .u8 c ∧ c ≤ N ∧ Hid (DA w B lb bb g #[.int .i64 verts, .int .i64 arcs, .int .i64 workers, .int .i64 room, .int .i64 res, .int .i64 lex, .int .i64 hh, .int .i64 flag, .int .i64 pending, .int .i64 ask, .int .i64 count, .int .i64 sense, .int .i64 deques, .int .i64 size] xs wr) ∧ Hid (Row tp r xs T []) ∧ Hid (T = c)) (fun cx _ => N - (intOf cx).toNat)
  case atStart => exact ⟨0, _, 0, rfl, by omega, D0, HRW0, Lib.hid rfl⟩
  case round =>
    clear D0 HRW0
    obtain ⟨c, xs, T, rfl, hc, D0, HRW, HBD⟩ := hrel
    by_cases hcN : c < N
    · have i1 : (c : Int) < ahead % 10 := by rw [HNN.out]; omega
      have i2 : decide ((c : Int) < ahead % 10) = true := by simpa using i1
      as_aux_lemma =>
      go_upto_region 6 with (fail)
      clear i1 i2
      refine wp_region_inv (fun l us W => ∃ (b0 b1 b2 b3 b4 b5 b6 b7 : Bool) (v45 v46 v47 v48 v12 v13 : Value) (pb sb : Nat), l = #[b0, b1, b2, b3, b4, b5, b6, b7] ∧ us = [v45, v46, v47, v48, v12, v13] ∧ Hid (KK wr W) ∧
          Hid (b0 = true → v45 = .agg #[.int .i64 verts, .int .i64 arcs, .int .i64 workers, .int .i64 room, .int .i64 res, .int .i64 lex, .int .i64 hh, .int .i64 flag, .int .i64 pending, .int .i64 ask, .int .i64 count, .int .i64 sense, .int .i64 deques, .int .i64 size]) ∧
          Hid (b1 = true → v46 = .agg #[.int .i64 verts, .int .i64 arcs, .int .i64 workers, .int .i64 room, .int .i64 res, .int .i64 lex, .int .i64 hh, .int .i64 flag, .int .i64 pending, .int .i64 ask, .int .i64 count, .int .i64 sense, .int .i64 deques, .int .i64 size, .int .i64 0, .int .i64 0, .int .i64 0, .int .i64 0, .int .i64 0, .bool false, .bool false, .int .i64 1]) ∧
          Hid (b2 = true → v47 = .agg #[.int .i64 verts, .int .i64 arcs, .int .i64 workers, .int .i64 room, .int .i64 res, .int .i64 lex, .int .i64 hh, .int .i64 flag, .int .i64 pending, .int .i64 ask, .int .i64 count, .int .i64 sense, .int .i64 deques, .int .i64 size]) ∧
          Hid (b3 = true → v48 = .agg #[.int .i64 verts, .int .i64 arcs, .int .i64 workers, .int .i64 room, .int .i64 res, .int .i64 lex, .int .i64 hh, .int .i64 flag, .int .i64 pending, .int .i64 ask, .int .i64 count, .int .i64 sense, .int .i64 deques, .int .i64 size, .int .i64 0, .int .i64 0, .int .i64 0, .int .i64 0, .int .i64 0, .bool false, .bool false, .bool false]) ∧
          Hid (b4 = true → v12 = .pointer (some ⟨pb, 0, none⟩) ∧ wr.heap.size ≤ pb ∧ Blk W pb (if b6 then #[.int .i64 verts, .int .i64 arcs, .int .i64 workers, .int .i64 room, .int .i64 res, .int .i64 lex, .int .i64 hh, .int .i64 flag, .int .i64 pending, .int .i64 ask, .int .i64 count, .int .i64 sense, .int .i64 deques, .int .i64 size, .int .i64 0, .int .i64 0, .int .i64 0, .int .i64 0, .int .i64 0, .bool false, .bool false, .int .i64 1] else #[.int .i64 0, .int .i64 0, .int .i64 0, .int .i64 0, .int .i64 0, .int .i64 0, .int .i64 0, .int .i64 0, .int .i64 0, .int .i64 0, .int .i64 0, .int .i64 0, .int .i64 0, .int .i64 0, .int .i64 0, .int .i64 0, .int .i64 0, .int .i64 0, .int .i64 0, .bool false, .bool false, .int .i64 0]) 48) ∧
          Hid (b5 = true → v13 = .pointer (some ⟨sb, 0, none⟩) ∧ wr.heap.size ≤ sb ∧ Blk W sb (if b7 then #[.int .i64 verts, .int .i64 arcs, .int .i64 workers, .int .i64 room, .int .i64 res, .int .i64 lex, .int .i64 hh, .int .i64 flag, .int .i64 pending, .int .i64 ask, .int .i64 count, .int .i64 sense, .int .i64 deques, .int .i64 size, .int .i64 0, .int .i64 0, .int .i64 0, .int .i64 0, .int .i64 0, .bool false, .bool false, .bool false] else #[.int .i64 0, .int .i64 0, .int .i64 0, .int .i64 0, .int .i64 0, .int .i64 0, .int .i64 0, .int .i64 0, .int .i64 0, .int .i64 0, .int .i64 0, .int .i64 0, .int .i64 0, .int .i64 0, .int .i64 0, .int .i64 0, .int .i64 0, .int .i64 0, .int .i64 0, .bool false, .bool false, .bool false]) 45) ∧
          Hid (b4 = true → b5 = true → ¬ pb = sb) ∧
          Hid (b6 = true → b4 = true) ∧
          Hid (b7 = true → b5 = true)) [45, 46, 47, 48, 12, 13] [u45, u46, u47, u48, u12, u13] (by kernel_rfl) (by kernel_rfl) (by simp only [putAll, Act.put, List.setIfInBounds_toArray, List.set_cons_zero, List.set_cons_succ]) ?_ ?_ ?_
      · exact ⟨false, false, false, false, false, false, false, false, _, _, _, _, _, _, 0, 0, rfl, rfl, Lib.hid (⟨(Upd.refl _ _).drew⟩), Lib.hid (by simp), Lib.hid (by simp), Lib.hid (by simp), Lib.hid (by simp), Lib.hid (by simp), Lib.hid (by simp), Lib.hid (by simp), Lib.hid (by simp), Lib.hid (by simp)⟩
      · rintro i l us W ⟨b0, b1, b2, b3, b4, b5, b6, b7, v45, v46, v47, v48, v12, v13, pb, sb, rfl, rfl, hI, h0, h1, h2, h3, h4, h5, n4_5, g6, g7⟩ hr
        have hi : i = 0 ∨ i = 1 ∨ i = 2 ∨ i = 3 ∨ i = 4 ∨ i = 5 ∨ i = 6 ∨ i = 7 := by
          have := ready_lt hr
          simp at this
          omega
        rcases hi with rfl | rfl | rfl | rfl | rfl | rfl | rfl | rfl
        · as_aux_lemma =>
          obtain ⟨hn, hd⟩ := ready_at hr rfl
          simp [Region.binds] at hn hd
          have hlb := (D0.out.kept hI.out.k).l
          refine wpOp_step (o := ⟨some 45, .load 24 (.tmp 9), 24, _, _, none⟩) rfl (fun K' hK => ?_)
          simp only [putAll, Act.put, List.setIfInBounds_toArray, List.set_cons_zero, List.set_cons_succ]
          refine wp_load_mid 24 (.tmp 9) rfl lb 0 rfl [.int .i64 verts, .int .i64 arcs, .int .i64 workers, .int .i64 room, .int .i64 res, .int .i64 lex, .int .i64 hh, .int .i64 flag, .int .i64 pending, .int .i64 ask, .int .i64 count, .int .i64 sense, .int .i64 deques, .int .i64 size] _ (Blk.range hlb) Try.underlying24 rfl HZ14.out ?_
          exact hK _ _ ⟨_, by simp only [putAll, Act.put, List.setIfInBounds_toArray, List.set_cons_zero, List.set_cons_succ], true, b1, b2, b3, b4, b5, b6, b7, _, _, _, _, _, _, pb, sb, rfl, rfl, hI, Lib.hid (fun _ => rfl), h1, h2, h3, h4, h5, n4_5, g6, g7⟩
        · as_aux_lemma =>
          obtain ⟨hn, hd⟩ := ready_at hr rfl
          simp [Region.binds] at hn hd
          obtain rfl := h0.out (by simp [hd])
          refine wpOp_step rfl (fun K' hK => ?_)
          simp only [putAll, Act.put, List.setIfInBounds_toArray, List.set_cons_zero, List.set_cons_succ]
          go_simp
          refine (HNU 1 _).out.mono ?_
          rintro e w' ⟨rfl, hk⟩
          exact hK _ _ ⟨_, by simp only [putAll, Act.put, List.setIfInBounds_toArray, List.set_cons_zero, List.set_cons_succ], b0, true, b2, b3, b4, b5, b6, b7, _, _, _, _, _, _, pb, sb, rfl, rfl, (Lib.hid (hI.out.kept hk)), h0, Lib.hid (fun _ => rfl), h2, h3, Lib.hid (fun hb => ⟨(h4.out hb).1, (h4.out hb).2.1, (h4.out hb).2.2.kept hk⟩), Lib.hid (fun hb => ⟨(h5.out hb).1, (h5.out hb).2.1, (h5.out hb).2.2.kept hk⟩), n4_5, g6, g7⟩
        · as_aux_lemma =>
          obtain ⟨hn, hd⟩ := ready_at hr rfl
          simp [Region.binds] at hn hd
          have hlb := (D0.out.kept hI.out.k).l
          refine wpOp_step (o := ⟨some 47, .load 24 (.tmp 9), 24, _, _, none⟩) rfl (fun K' hK => ?_)
          simp only [putAll, Act.put, List.setIfInBounds_toArray, List.set_cons_zero, List.set_cons_succ]
          refine wp_load_mid 24 (.tmp 9) rfl lb 0 rfl [.int .i64 verts, .int .i64 arcs, .int .i64 workers, .int .i64 room, .int .i64 res, .int .i64 lex, .int .i64 hh, .int .i64 flag, .int .i64 pending, .int .i64 ask, .int .i64 count, .int .i64 sense, .int .i64 deques, .int .i64 size] _ (Blk.range hlb) Try.underlying24 rfl HZ14.out ?_
          exact hK _ _ ⟨_, by simp only [putAll, Act.put, List.setIfInBounds_toArray, List.set_cons_zero, List.set_cons_succ], b0, b1, true, b3, b4, b5, b6, b7, _, _, _, _, _, _, pb, sb, rfl, rfl, hI, h0, h1, Lib.hid (fun _ => rfl), h3, h4, h5, n4_5, g6, g7⟩
        · as_aux_lemma =>
          obtain ⟨hn, hd⟩ := ready_at hr rfl
          simp [Region.binds] at hn hd
          obtain rfl := h2.out (by simp [hd])
          refine wpOp_step rfl (fun K' hK => ?_)
          simp only [putAll, Act.put, List.setIfInBounds_toArray, List.set_cons_zero, List.set_cons_succ]
          go_simp
          refine (HNS _).out.mono ?_
          rintro e w' ⟨rfl, hk⟩
          exact hK _ _ ⟨_, by simp only [putAll, Act.put, List.setIfInBounds_toArray, List.set_cons_zero, List.set_cons_succ], b0, b1, b2, true, b4, b5, b6, b7, _, _, _, _, _, _, pb, sb, rfl, rfl, (Lib.hid (hI.out.kept hk)), h0, h1, h2, Lib.hid (fun _ => rfl), Lib.hid (fun hb => ⟨(h4.out hb).1, (h4.out hb).2.1, (h4.out hb).2.2.kept hk⟩), Lib.hid (fun hb => ⟨(h5.out hb).1, (h5.out hb).2.1, (h5.out hb).2.2.kept hk⟩), n4_5, g6, g7⟩
        · as_aux_lemma =>
          obtain ⟨hn, hd⟩ := ready_at hr rfl
          simp [Region.binds] at hn hd
          have hbq : b6 = false := by cases b6 with | false => rfl | true => (have := g6.out rfl; rw [hn] at this; cases this)
          subst hbq
          refine wpOp_step rfl (fun K' hK => ?_)
          simp only [putAll, Act.put, List.setIfInBounds_toArray, List.set_cons_zero, List.set_cons_succ]
          go_simp
          exact hK _ _ ⟨_, by simp only [putAll, Act.put, List.setIfInBounds_toArray, List.set_cons_zero, List.set_cons_succ], b0, b1, b2, b3, true, b5, false, b7, _, _, _, _, _, _, W.heap.size, sb, rfl, rfl, (Lib.hid (hI.out.kept ((Upd.refl _ _).alloc _))), h0, h1, h2, h3, Lib.hid (fun _ => ⟨rfl, hI.out.up, Blk.new _ _ _⟩), Lib.hid (fun hb => ⟨(h5.out hb).1, (h5.out hb).2.1, (h5.out hb).2.2.kept ((Upd.refl _ _).alloc _)⟩), Lib.hid (fun _ hb e => by have := (h5.out hb).2.2.lt; omega), Lib.hid (by simp), g7⟩
        · as_aux_lemma =>
          obtain ⟨hn, hd⟩ := ready_at hr rfl
          simp [Region.binds] at hn hd
          have hbq : b7 = false := by cases b7 with | false => rfl | true => (have := g7.out rfl; rw [hn] at this; cases this)
          subst hbq
          refine wpOp_step rfl (fun K' hK => ?_)
          simp only [putAll, Act.put, List.setIfInBounds_toArray, List.set_cons_zero, List.set_cons_succ]
          go_simp
          exact hK _ _ ⟨_, by simp only [putAll, Act.put, List.setIfInBounds_toArray, List.set_cons_zero, List.set_cons_succ], b0, b1, b2, b3, b4, true, b6, false, _, _, _, _, _, _, pb, W.heap.size, rfl, rfl, (Lib.hid (hI.out.kept ((Upd.refl _ _).alloc _))), h0, h1, h2, h3, Lib.hid (fun hb => ⟨(h4.out hb).1, (h4.out hb).2.1, (h4.out hb).2.2.kept ((Upd.refl _ _).alloc _)⟩), Lib.hid (fun _ => ⟨rfl, hI.out.up, Blk.new _ _ _⟩), Lib.hid (fun hb _ e => by have := (h4.out hb).2.2.lt; omega), g6, Lib.hid (by simp)⟩
        · as_aux_lemma =>
          obtain ⟨hn, hd⟩ := ready_at hr rfl
          simp [Region.binds] at hn hd
          obtain rfl := h1.out (by simp [hd])
          obtain ⟨hp, hx, hbk⟩ := h4.out (by simp [hd])
          subst hn hp
          have hbk : Blk W _ _ _ := hbk
          have hc := hbk.cell
          have hf := hbk.free
          refine wpOp_step (o := ⟨none, .store 48 (.tmp 12) (.tmp 46), 0, _, _, none⟩) rfl (fun K' hK => ?_)
          simp only [putAll, Act.put, List.setIfInBounds_toArray, List.set_cons_zero, List.set_cons_succ]
          simp only [if_false, Bool.false_eq_true] at hbk
          refine wp_store_mid 48 (.tmp 12) (.tmp 46) rfl pb 0 #[.int .i64 verts, .int .i64 arcs, .int .i64 workers, .int .i64 room, .int .i64 res, .int .i64 lex, .int .i64 hh, .int .i64 flag, .int .i64 pending, .int .i64 ask, .int .i64 count, .int .i64 sense, .int .i64 deques, .int .i64 size, .int .i64 0, .int .i64 0, .int .i64 0, .int .i64 0, .int .i64 0, .bool false, .bool false, .int .i64 1] rfl rfl (Blk.there hbk 22 rfl) HZu.out (all_oneCell_toArray (cs := [.int .i64 verts, .int .i64 arcs, .int .i64 workers, .int .i64 room, .int .i64 res, .int .i64 lex, .int .i64 hh, .int .i64 flag, .int .i64 pending, .int .i64 ask, .int .i64 count, .int .i64 sense, .int .i64 deques, .int .i64 size, .int .i64 0, .int .i64 0, .int .i64 0, .int .i64 0, .int .i64 0, .bool false, .bool false, .int .i64 1]) (by simp [Value.oneCell'])) ?_
          have hs := hbk.alls [.int .i64 verts, .int .i64 arcs, .int .i64 workers, .int .i64 room, .int .i64 res, .int .i64 lex, .int .i64 hh, .int .i64 flag, .int .i64 pending, .int .i64 ask, .int .i64 count, .int .i64 sense, .int .i64 deques, .int .i64 size, .int .i64 0, .int .i64 0, .int .i64 0, .int .i64 0, .int .i64 0, .bool false, .bool false, .int .i64 1] rfl
          exact hK _ _ ⟨_, by simp only [putAll, Act.put, List.setIfInBounds_toArray, List.set_cons_zero, List.set_cons_succ], b0, b1, b2, b3, b4, b5, true, b7, _, _, _, _, _, _, pb, sb, rfl, rfl, (Lib.hid (hI.out.upd hs.2 hx)), h0, h1, h2, h3, Lib.hid (fun _ => ⟨rfl, hx, hs.1⟩), Lib.hid (fun hb => ⟨(h5.out hb).1, (h5.out hb).2.1, (h5.out hb).2.2.upd hs.2 (fun e => n4_5.out (by simp [hd]) hb e.symm)⟩), n4_5, Lib.hid (fun _ => (by simp [hd])), g7⟩
        · as_aux_lemma =>
          obtain ⟨hn, hd⟩ := ready_at hr rfl
          simp [Region.binds] at hn hd
          obtain rfl := h3.out (by simp [hd])
          obtain ⟨hp, hx, hbk⟩ := h5.out (by simp [hd])
          subst hn hp
          have hbk : Blk W _ _ _ := hbk
          have hc := hbk.cell
          have hf := hbk.free
          refine wpOp_step (o := ⟨none, .store 45 (.tmp 13) (.tmp 48), 0, _, _, none⟩) rfl (fun K' hK => ?_)
          simp only [putAll, Act.put, List.setIfInBounds_toArray, List.set_cons_zero, List.set_cons_succ]
          simp only [if_false, Bool.false_eq_true] at hbk
          refine wp_store_mid 45 (.tmp 13) (.tmp 48) rfl sb 0 #[.int .i64 verts, .int .i64 arcs, .int .i64 workers, .int .i64 room, .int .i64 res, .int .i64 lex, .int .i64 hh, .int .i64 flag, .int .i64 pending, .int .i64 ask, .int .i64 count, .int .i64 sense, .int .i64 deques, .int .i64 size, .int .i64 0, .int .i64 0, .int .i64 0, .int .i64 0, .int .i64 0, .bool false, .bool false, .bool false] rfl rfl (Blk.there hbk 22 rfl) HZt.out (all_oneCell_toArray (cs := [.int .i64 verts, .int .i64 arcs, .int .i64 workers, .int .i64 room, .int .i64 res, .int .i64 lex, .int .i64 hh, .int .i64 flag, .int .i64 pending, .int .i64 ask, .int .i64 count, .int .i64 sense, .int .i64 deques, .int .i64 size, .int .i64 0, .int .i64 0, .int .i64 0, .int .i64 0, .int .i64 0, .bool false, .bool false, .bool false]) (by simp [Value.oneCell'])) ?_
          have hs := hbk.alls [.int .i64 verts, .int .i64 arcs, .int .i64 workers, .int .i64 room, .int .i64 res, .int .i64 lex, .int .i64 hh, .int .i64 flag, .int .i64 pending, .int .i64 ask, .int .i64 count, .int .i64 sense, .int .i64 deques, .int .i64 size, .int .i64 0, .int .i64 0, .int .i64 0, .int .i64 0, .int .i64 0, .bool false, .bool false, .bool false] rfl
          exact hK _ _ ⟨_, by simp only [putAll, Act.put, List.setIfInBounds_toArray, List.set_cons_zero, List.set_cons_succ], b0, b1, b2, b3, b4, b5, b6, true, _, _, _, _, _, _, pb, sb, rfl, rfl, (Lib.hid (hI.out.upd hs.2 hx)), h0, h1, h2, h3, Lib.hid (fun hb => ⟨(h4.out hb).1, (h4.out hb).2.1, (h4.out hb).2.2.upd hs.2 (fun e => n4_5.out hb (by simp [hd]) e)⟩), Lib.hid (fun _ => ⟨rfl, hx, hs.1⟩), n4_5, g6, Lib.hid (fun _ => (by simp [hd]))⟩
      · rintro l us W ⟨b0, b1, b2, b3, b4, b5, b6, b7, v45, v46, v47, v48, v12, v13, pb, sb, rfl, rfl, hI, h0, h1, h2, h3, h4, h5, n4_5, g6, g7⟩ hall
        as_aux_lemma =>
        obtain rfl : b0 = true := by simpa using hall 0
        obtain rfl : b1 = true := by simpa using hall 1
        obtain rfl : b2 = true := by simpa using hall 2
        obtain rfl : b3 = true := by simpa using hall 3
        obtain rfl : b4 = true := by simpa using hall 4
        obtain rfl : b5 = true := by simpa using hall 5
        obtain rfl : b6 = true := by simpa using hall 6
        obtain rfl : b7 = true := by simpa using hall 7
        obtain rfl := h0.out rfl
        obtain rfl := h1.out rfl
        obtain rfl := h2.out rfl
        obtain rfl := h3.out rfl
        obtain ⟨rfl, hx4, hB4⟩ := h4.out rfl
        obtain ⟨rfl, hx5, hB5⟩ := h5.out rfl
        simp only [putAll, Act.put, List.setIfInBounds_toArray, List.set_cons_zero, List.set_cons_succ]
        have D1 := Lib.hid (D0.out.kept hI.out.k)
        have PB0 : Hid (PB W pb 48 (⟨verts, arcs, workers, room, res, lex, hh, flag, pending, ask, count, sense, deques, size⟩ : Lay) 0 ⟨0, 0, 0, 0, false, false⟩ [.int .i64 1]) := Lib.hid hB4
        have SB0 : Hid (PB W sb 45 (⟨verts, arcs, workers, room, res, lex, hh, flag, pending, ask, count, sense, deques, size⟩ : Lay) 0 ⟨0, 0, 0, 0, false, false⟩ [.bool false]) := Lib.hid hB5
        have HMB : Hid (B ≤ pb ∧ B ≤ sb ∧ ¬ pb = g ∧ ¬ pb = bb ∧ ¬ sb = g ∧ ¬ sb = bb ∧ ¬ pb = sb) := Lib.hid (by
          have n := D0.out.nz
          have h7 := n4_5.out rfl rfl
          omega)
        obtain ⟨y1, R1, -, AL1⟩ := push_to HRW.out (by have := HRV.out; simp; omega) (by have := HBD.out; simp; omega) 1 false
        obtain ⟨y2, R2, -, AL2⟩ := steal_to R1 (by simp)
        have HR2 : Hid (Row tp r y2 (T + 1) []) := Lib.hid (by simpa using R2)
        have HA1 := Lib.hid AL1
        have HA2 := Lib.hid AL2
        clear hall hI hB4 hB5 hx4 hx5 D0 AL1 AL2 R1 R2
        go_upto_region 7 with (fail)
        go_wp2_with fail
        refine (alone_push HG.out PB0.out D1.out.b (by have := HMB.out; omega) HA1.out (by omega)).mono ?_
        rintro e W5 ⟨rfl, hK⟩
        have D2 := Lib.hid (D1.out.mach hK HMB.out.1)
        have PB1 := Lib.hid hK.1
        have SB1 := Lib.hid (SB0.out.upd hK.2.2 (by have := HMB.out; omega))
        clear hK D1 PB0 SB0 HA1
        go_wp2_with fail
        refine (alone_steal HG.out SB1.out D2.out.b (by have := HMB.out; omega) HA2.out (by omega)).mono ?_
        rintro e W6 ⟨rfl, hK⟩
        have D3 := Lib.hid (D2.out.mach hK HMB.out.2.1)
        have PB2 := Lib.hid (PB1.out.upd hK.2.2 (by have := HMB.out; omega))
        clear hK D2 PB1 SB1 HA2
        go_wp2_with fail
        refine (push_ok PB2.out).mono ?_
        rintro e w6 ⟨rfl, rfl⟩
        simp only [Bool.and_self]
        have hwc : IntKind.u8.wrap ((c : Int) + 1) = ((c + 1 : Nat) : Int) := by rw [IntKind.wrap_u8]; omega
        go_wp2_with fail
        go_roundw
        case rel => exact ⟨c + 1, y2, T + 1, by go_num, by omega, D3, HR2, Lib.hid (by have := HBD.out; omega)⟩
        case measure => simp [intOf]; omega
    · obtain rfl : c = N := by omega
      have i1 : ¬ (c : Int) < ahead % 10 := by rw [HNN.out]; omega
      have i2 : decide ((c : Int) < ahead % 10) = false := by simpa using i1
      as_aux_lemma =>
      go_upto_region 10 with (fail)
      clear i1 i2
      have hra := Blk.range D0.out.l
      go_wp2_with (first | (refine wpList_load_mid rfl _ _ rfl lb 0 rfl [.int .i64 verts, .int .i64 arcs, .int .i64 workers, .int .i64 room, .int .i64 res, .int .i64 lex, .int .i64 hh, .int .i64 flag, .int .i64 pending, .int .i64 ask, .int .i64 count, .int .i64 sense, .int .i64 deques, .int .i64 size] _ hra Try.underlying24 rfl HZ14.out ?_) | fail)
      refine (HNU 77 _).out.mono ?_
      rintro e w3 ⟨rfl, hk⟩
      have DX := Lib.hid (D0.out.kept hk)
      clear hk D0 hra
      have hZ := Blk.new w3 #[.int .i64 0, .int .i64 0, .int .i64 0, .int .i64 0, .int .i64 0, .int .i64 0, .int .i64 0, .int .i64 0, .int .i64 0, .int .i64 0, .int .i64 0, .int .i64 0, .int .i64 0, .int .i64 0, .int .i64 0, .int .i64 0, .int .i64 0, .int .i64 0, .int .i64 0, .bool false, .bool false, .int .i64 0] 48
      have hth := Blk.there hZ 22 rfl
      obtain ⟨W4, hW4⟩ : ∃ W4, (w3.alloc (.cells #[.int .i64 0, .int .i64 0, .int .i64 0, .int .i64 0, .int .i64 0, .int .i64 0, .int .i64 0, .int .i64 0, .int .i64 0, .int .i64 0, .int .i64 0, .int .i64 0, .int .i64 0, .int .i64 0, .int .i64 0, .int .i64 0, .int .i64 0, .int .i64 0, .int .i64 0, .bool false, .bool false, .int .i64 0] 48)).setCells w3.heap.size 0 [.int .i64 verts, .int .i64 arcs, .int .i64 workers, .int .i64 room, .int .i64 res, .int .i64 lex, .int .i64 hh, .int .i64 flag, .int .i64 pending, .int .i64 ask, .int .i64 count, .int .i64 sense, .int .i64 deques, .int .i64 size, .int .i64 0, .int .i64 0, .int .i64 0, .int .i64 0, .int .i64 0, .bool false, .bool false, .int .i64 77] = W4 := ⟨_, rfl⟩
      have hB4 : Blk W4 w3.heap.size #[.int .i64 verts, .int .i64 arcs, .int .i64 workers, .int .i64 room, .int .i64 res, .int .i64 lex, .int .i64 hh, .int .i64 flag, .int .i64 pending, .int .i64 ask, .int .i64 count, .int .i64 sense, .int .i64 deques, .int .i64 size, .int .i64 0, .int .i64 0, .int .i64 0, .int .i64 0, .int .i64 0, .bool false, .bool false, .int .i64 77] 48 ∧ Upd (fun k => k = w3.heap.size) (w3.alloc (.cells #[.int .i64 0, .int .i64 0, .int .i64 0, .int .i64 0, .int .i64 0, .int .i64 0, .int .i64 0, .int .i64 0, .int .i64 0, .int .i64 0, .int .i64 0, .int .i64 0, .int .i64 0, .int .i64 0, .int .i64 0, .int .i64 0, .int .i64 0, .int .i64 0, .int .i64 0, .bool false, .bool false, .int .i64 0] 48)) W4 := by rw [← hW4]; exact Blk.alls hZ [.int .i64 verts, .int .i64 arcs, .int .i64 workers, .int .i64 room, .int .i64 res, .int .i64 lex, .int .i64 hh, .int .i64 flag, .int .i64 pending, .int .i64 ask, .int .i64 count, .int .i64 sense, .int .i64 deques, .int .i64 size, .int .i64 0, .int .i64 0, .int .i64 0, .int .i64 0, .int .i64 0, .bool false, .bool false, .int .i64 77] rfl
      have PM0 : Hid (PB W4 w3.heap.size 48 (⟨verts, arcs, workers, room, res, lex, hh, flag, pending, ask, count, sense, deques, size⟩ : Lay) 0 ⟨0, 0, 0, 0, false, false⟩ [.int .i64 77]) := Lib.hid hB4.1
      have KW : Hid (Kept w3 W4) := Lib.hid (((Upd.refl (fun _ => False) w3).alloc _).then hB4.2 (fun i hi e => by omega))
      have D1 := Lib.hid (DX.out.kept KW.out)
      have HMP : Hid (B ≤ w3.heap.size ∧ ¬ w3.heap.size = g ∧ ¬ w3.heap.size = bb) := Lib.hid (by have n := DX.out.nz; have := DX.out.b.head.lt; have := DX.out.b.row.lt; omega)
      have hzn := (show (Try.prog.info? 48).map (·.size) = some 22 from HZu.out)
      clear hB4 DX hZ KW
      go_upto_region 11 with (first | (refine wpList_store_mid rfl _ _ _ rfl w3.heap.size 0 #[.int .i64 verts, .int .i64 arcs, .int .i64 workers, .int .i64 room, .int .i64 res, .int .i64 lex, .int .i64 hh, .int .i64 flag, .int .i64 pending, .int .i64 ask, .int .i64 count, .int .i64 sense, .int .i64 deques, .int .i64 size, .int .i64 0, .int .i64 0, .int .i64 0, .int .i64 0, .int .i64 0, .bool false, .bool false, .int .i64 77] rfl rfl hth hzn (all_oneCell_toArray (cs := [.int .i64 verts, .int .i64 arcs, .int .i64 workers, .int .i64 room, .int .i64 res, .int .i64 lex, .int .i64 hh, .int .i64 flag, .int .i64 pending, .int .i64 ask, .int .i64 count, .int .i64 sense, .int .i64 deques, .int .i64 size, .int .i64 0, .int .i64 0, .int .i64 0, .int .i64 0, .int .i64 0, .bool false, .bool false, .int .i64 77]) (by simp [Value.oneCell'])) ?_; simp only [hW4]) | fail)
      clear hth hW4 hzn
      generalize w3.heap.size = pm at PM0 HMP  ⊢
      obtain ⟨y1, R1, -, AL1⟩ := push_to HRW.out (by have := HRV.out; simp; omega) (by have := HBD.out; simp; omega) 77 false
      have HR1 : Hid (Row tp r y1 T [77]) := Lib.hid (by simpa using R1)
      have HA1 := Lib.hid AL1
      clear R1 AL1 HRW
      go_wp2_with fail
      refine (alone_push HG.out PM0.out D1.out.b (by have := HMP.out; omega) HA1.out (by omega)).mono ?_
      rintro e W5 ⟨rfl, hK⟩
      have D2 := Lib.hid (D1.out.mach hK HMP.out.1)
      have PM1 := Lib.hid hK.1
      clear hK D1 PM0 HA1 HMP
      go_wp2_with fail
      refine (push_ok PM1.out).mono ?_
      rintro e w6 ⟨rfl, rfl⟩
      simp only [Bool.and_self]
      clear PM1
      have hra := Blk.range D2.out.l
      go_wp2_with (first | (refine wpList_load_mid rfl _ _ rfl lb 0 rfl [.int .i64 verts, .int .i64 arcs, .int .i64 workers, .int .i64 room, .int .i64 res, .int .i64 lex, .int .i64 hh, .int .i64 flag, .int .i64 pending, .int .i64 ask, .int .i64 count, .int .i64 sense, .int .i64 deques, .int .i64 size] _ hra Try.underlying24 rfl HZ14.out ?_) | fail)
      refine (HNP _).out.mono ?_
      rintro e w3 ⟨rfl, hk⟩
      have DX := Lib.hid (D2.out.kept hk)
      clear hk D2 hra
      have hZ := Blk.new w3 #[.int .i64 0, .int .i64 0, .int .i64 0, .int .i64 0, .int .i64 0, .int .i64 0, .int .i64 0, .int .i64 0, .int .i64 0, .int .i64 0, .int .i64 0, .int .i64 0, .int .i64 0, .int .i64 0, .int .i64 0, .int .i64 0, .int .i64 0, .int .i64 0, .int .i64 0, .bool false, .bool false] 51
      have hth := Blk.there hZ 21 rfl
      obtain ⟨W6, hW4⟩ : ∃ W4, (w3.alloc (.cells #[.int .i64 0, .int .i64 0, .int .i64 0, .int .i64 0, .int .i64 0, .int .i64 0, .int .i64 0, .int .i64 0, .int .i64 0, .int .i64 0, .int .i64 0, .int .i64 0, .int .i64 0, .int .i64 0, .int .i64 0, .int .i64 0, .int .i64 0, .int .i64 0, .int .i64 0, .bool false, .bool false] 51)).setCells w3.heap.size 0 [.int .i64 verts, .int .i64 arcs, .int .i64 workers, .int .i64 room, .int .i64 res, .int .i64 lex, .int .i64 hh, .int .i64 flag, .int .i64 pending, .int .i64 ask, .int .i64 count, .int .i64 sense, .int .i64 deques, .int .i64 size, .int .i64 0, .int .i64 0, .int .i64 0, .int .i64 0, .int .i64 0, .bool false, .bool false] = W4 := ⟨_, rfl⟩
      have hB4 : Blk W6 w3.heap.size #[.int .i64 verts, .int .i64 arcs, .int .i64 workers, .int .i64 room, .int .i64 res, .int .i64 lex, .int .i64 hh, .int .i64 flag, .int .i64 pending, .int .i64 ask, .int .i64 count, .int .i64 sense, .int .i64 deques, .int .i64 size, .int .i64 0, .int .i64 0, .int .i64 0, .int .i64 0, .int .i64 0, .bool false, .bool false] 51 ∧ Upd (fun k => k = w3.heap.size) (w3.alloc (.cells #[.int .i64 0, .int .i64 0, .int .i64 0, .int .i64 0, .int .i64 0, .int .i64 0, .int .i64 0, .int .i64 0, .int .i64 0, .int .i64 0, .int .i64 0, .int .i64 0, .int .i64 0, .int .i64 0, .int .i64 0, .int .i64 0, .int .i64 0, .int .i64 0, .int .i64 0, .bool false, .bool false] 51)) W6 := by rw [← hW4]; exact Blk.alls hZ [.int .i64 verts, .int .i64 arcs, .int .i64 workers, .int .i64 room, .int .i64 res, .int .i64 lex, .int .i64 hh, .int .i64 flag, .int .i64 pending, .int .i64 ask, .int .i64 count, .int .i64 sense, .int .i64 deques, .int .i64 size, .int .i64 0, .int .i64 0, .int .i64 0, .int .i64 0, .int .i64 0, .bool false, .bool false] rfl
      have PB0 : Hid (PB W6 w3.heap.size 51 (⟨verts, arcs, workers, room, res, lex, hh, flag, pending, ask, count, sense, deques, size⟩ : Lay) 0 ⟨0, 0, 0, 0, false, false⟩ []) := Lib.hid hB4.1
      have KW : Hid (Kept w3 W6) := Lib.hid (((Upd.refl (fun _ => False) w3).alloc _).then hB4.2 (fun i hi e => by omega))
      have D3 := Lib.hid (DX.out.kept KW.out)
      have HPB : Hid (B ≤ w3.heap.size ∧ ¬ w3.heap.size = g ∧ ¬ w3.heap.size = bb) := Lib.hid (by have n := DX.out.nz; have := DX.out.b.head.lt; have := DX.out.b.row.lt; omega)
      have hzn := (show (Try.prog.info? 51).map (·.size) = some 21 from HZo.out)
      clear hB4 DX hZ KW
      go_upto_region 14 with (first | (refine wpList_store_mid rfl _ _ _ rfl w3.heap.size 0 #[.int .i64 verts, .int .i64 arcs, .int .i64 workers, .int .i64 room, .int .i64 res, .int .i64 lex, .int .i64 hh, .int .i64 flag, .int .i64 pending, .int .i64 ask, .int .i64 count, .int .i64 sense, .int .i64 deques, .int .i64 size, .int .i64 0, .int .i64 0, .int .i64 0, .int .i64 0, .int .i64 0, .bool false, .bool false] rfl rfl hth hzn (all_oneCell_toArray (cs := [.int .i64 verts, .int .i64 arcs, .int .i64 workers, .int .i64 room, .int .i64 res, .int .i64 lex, .int .i64 hh, .int .i64 flag, .int .i64 pending, .int .i64 ask, .int .i64 count, .int .i64 sense, .int .i64 deques, .int .i64 size, .int .i64 0, .int .i64 0, .int .i64 0, .int .i64 0, .int .i64 0, .bool false, .bool false]) (by simp [Value.oneCell'])) ?_; simp only [hW4]) | fail)
      clear hth hW4 hzn
      generalize w3.heap.size = pb at PB0 HPB  ⊢
      go_upto_region 15 with (fail)
      have HC0 : Hid (Crew w B lb bb g #[.int .i64 verts, .int .i64 arcs, .int .i64 workers, .int .i64 room, .int .i64 res, .int .i64 lex, .int .i64 hh, .int .i64 flag, .int .i64 pending, .int .i64 ask, .int .i64 count, .int .i64 sense, .int .i64 deques, .int .i64 size] (⟨verts, arcs, workers, room, res, lex, hh, flag, pending, ask, count, sense, deques, size⟩ : Lay) tp r T pb [] ⟨0, 0, 0, 0, false, false⟩ [] false y1 W6) := Lib.hid ⟨D3.out, PB0.out, HPB.out.1, by simp, rfl, List.nodup_nil, OneB.start HR1.out (by have := HBD.out; omega), PopI.start _ _ _, by simp, rfl⟩
      have HBW : Hid (B ≤ W6.heap.size) := Lib.hid D3.out.nz.2.2.2.2.2.2.2.2
      clear D3 PB0 HR1 HPB
      go_wp2_with fail
      go_loopw [16, 17, 81] (fun v1 v2 cx wr => ∃ (k : Nat) (bs : List Nat) (ss : List SB), cx = .int .u8 k ∧ k ≤ M ∧ Hid (bs.length = k) ∧ Hid (Crew w B lb bb g #[.int .i64 verts, .int .i64 arcs, .int .i64 workers, .int .i64 room, .int .i64 res, .int .i64 lex, .int .i64 hh, .int .i64 flag, .int .i64 pending, .int .i64 ask, .int .i64 count, .int .i64 sense, .int .i64 deques, .int .i64 size] (⟨verts, arcs, workers, room, res, lex, hh, flag, pending, ask, count, sense, deques, size⟩ : Lay) tp r T pb bs ⟨0, 0, 0, 0, false, false⟩ ss false y1 wr) ∧ Hid (RowsC B pb bs v1 v2 wr)) (fun _ _ cx _ => M - (intOf cx).toNat)
      case atStart =>
        refine ⟨0, [], [], rfl, by omega, Lib.hid rfl, Lib.hid (HC0.out.kept ((Upd.refl _ _).alloc _)), Lib.hid (RowsC.start ?_)⟩
        exact World.ownsRow_lit W6 #[popIfc pb] 1 HBW.out (by decide) (by simp)
      case round =>
        clear HC0 HBW
        obtain ⟨k, bs, ss, rfl, hk4, HLN, HC, HR⟩ := hrel
        by_cases hkM : k < M
        · have i1 : (k : Int) < 1 + thv % 4 := by rw [HMM.out]; omega
          have i2 : decide ((k : Int) < 1 + thv % 4) = true := by simpa using i1
          as_aux_lemma =>
          go_upto_region 18 with (fail)
          clear i1 i2
          have D0 := Lib.hid HC.out.da
          have hra := Blk.range D0.out.l
          go_wp2_with (first | (refine wpList_load_mid rfl _ _ rfl lb 0 rfl [.int .i64 verts, .int .i64 arcs, .int .i64 workers, .int .i64 room, .int .i64 res, .int .i64 lex, .int .i64 hh, .int .i64 flag, .int .i64 pending, .int .i64 ask, .int .i64 count, .int .i64 sense, .int .i64 deques, .int .i64 size] _ hra Try.underlying24 rfl HZ14.out ?_) | fail)
          refine (HNS _).out.mono ?_
          rintro e w3 ⟨rfl, hk⟩
          have DX := Lib.hid (D0.out.kept hk)
          have HCX := Lib.hid (HC.out.kept hk)
          have HRX := Lib.hid (HR.out.kept hk)
          clear HC HR
          have HNB : Hid (∀ x ∈ bs, x ≠ w3.heap.size) := Lib.hid (fun x hx e => by rw [← HCX.out.eb] at hx; obtain ⟨s, hs, e2⟩ := List.mem_map.1 hx; have := (HCX.out.st s hs).1.lt; omega)
          clear hk D0 hra
          have hZ := Blk.new w3 #[.int .i64 0, .int .i64 0, .int .i64 0, .int .i64 0, .int .i64 0, .int .i64 0, .int .i64 0, .int .i64 0, .int .i64 0, .int .i64 0, .int .i64 0, .int .i64 0, .int .i64 0, .int .i64 0, .int .i64 0, .int .i64 0, .int .i64 0, .int .i64 0, .int .i64 0, .bool false, .bool false, .bool false] 45
          have hth := Blk.there hZ 22 rfl
          obtain ⟨W4, hW4⟩ : ∃ W4, (w3.alloc (.cells #[.int .i64 0, .int .i64 0, .int .i64 0, .int .i64 0, .int .i64 0, .int .i64 0, .int .i64 0, .int .i64 0, .int .i64 0, .int .i64 0, .int .i64 0, .int .i64 0, .int .i64 0, .int .i64 0, .int .i64 0, .int .i64 0, .int .i64 0, .int .i64 0, .int .i64 0, .bool false, .bool false, .bool false] 45)).setCells w3.heap.size 0 [.int .i64 verts, .int .i64 arcs, .int .i64 workers, .int .i64 room, .int .i64 res, .int .i64 lex, .int .i64 hh, .int .i64 flag, .int .i64 pending, .int .i64 ask, .int .i64 count, .int .i64 sense, .int .i64 deques, .int .i64 size, .int .i64 0, .int .i64 0, .int .i64 0, .int .i64 0, .int .i64 0, .bool false, .bool false, .bool false] = W4 := ⟨_, rfl⟩
          have hB4 : Blk W4 w3.heap.size #[.int .i64 verts, .int .i64 arcs, .int .i64 workers, .int .i64 room, .int .i64 res, .int .i64 lex, .int .i64 hh, .int .i64 flag, .int .i64 pending, .int .i64 ask, .int .i64 count, .int .i64 sense, .int .i64 deques, .int .i64 size, .int .i64 0, .int .i64 0, .int .i64 0, .int .i64 0, .int .i64 0, .bool false, .bool false, .bool false] 45 ∧ Upd (fun k => k = w3.heap.size) (w3.alloc (.cells #[.int .i64 0, .int .i64 0, .int .i64 0, .int .i64 0, .int .i64 0, .int .i64 0, .int .i64 0, .int .i64 0, .int .i64 0, .int .i64 0, .int .i64 0, .int .i64 0, .int .i64 0, .int .i64 0, .int .i64 0, .int .i64 0, .int .i64 0, .int .i64 0, .int .i64 0, .bool false, .bool false, .bool false] 45)) W4 := by rw [← hW4]; exact Blk.alls hZ [.int .i64 verts, .int .i64 arcs, .int .i64 workers, .int .i64 room, .int .i64 res, .int .i64 lex, .int .i64 hh, .int .i64 flag, .int .i64 pending, .int .i64 ask, .int .i64 count, .int .i64 sense, .int .i64 deques, .int .i64 size, .int .i64 0, .int .i64 0, .int .i64 0, .int .i64 0, .int .i64 0, .bool false, .bool false, .bool false] rfl
          have SB0 : Hid (PB W4 w3.heap.size 45 (⟨verts, arcs, workers, room, res, lex, hh, flag, pending, ask, count, sense, deques, size⟩ : Lay) 0 ⟨0, 0, 0, 0, false, false⟩ [.bool false]) := Lib.hid hB4.1
          have KW : Hid (Kept w3 W4) := Lib.hid (((Upd.refl (fun _ => False) w3).alloc _).then hB4.2 (fun i hi e => by omega))
          have D1 := Lib.hid (DX.out.kept KW.out)
          have HC1 := Lib.hid (HCX.out.kept KW.out)
          have HR1 := Lib.hid (HRX.out.kept KW.out)
          clear HCX HRX
          have HSB : Hid (B ≤ w3.heap.size ∧ ¬ w3.heap.size = g ∧ ¬ w3.heap.size = bb) := Lib.hid (by have n := DX.out.nz; have := DX.out.b.head.lt; have := DX.out.b.row.lt; omega)
          have hzn := (show (Try.prog.info? 45).map (·.size) = some 22 from HZt.out)
          clear hB4 DX hZ KW
          go_upto_region 19 with (first | (refine wpList_store_mid rfl _ _ _ rfl w3.heap.size 0 #[.int .i64 verts, .int .i64 arcs, .int .i64 workers, .int .i64 room, .int .i64 res, .int .i64 lex, .int .i64 hh, .int .i64 flag, .int .i64 pending, .int .i64 ask, .int .i64 count, .int .i64 sense, .int .i64 deques, .int .i64 size, .int .i64 0, .int .i64 0, .int .i64 0, .int .i64 0, .int .i64 0, .bool false, .bool false, .bool false] rfl rfl hth hzn (all_oneCell_toArray (cs := [.int .i64 verts, .int .i64 arcs, .int .i64 workers, .int .i64 room, .int .i64 res, .int .i64 lex, .int .i64 hh, .int .i64 flag, .int .i64 pending, .int .i64 ask, .int .i64 count, .int .i64 sense, .int .i64 deques, .int .i64 size, .int .i64 0, .int .i64 0, .int .i64 0, .int .i64 0, .int .i64 0, .bool false, .bool false, .bool false]) (by simp [Value.oneCell'])) ?_; simp only [hW4]) | fail)
          clear hth hW4 hzn
          generalize w3.heap.size = sb at SB0 HSB HNB ⊢
          have HC2 := Lib.hid (HC1.out.add SB0.out HSB.out.1 HNB.out)
          clear HC1 D1 SB0 HSB HNB
          obtain ⟨i0, hi0, hz0, hz1, hz2⟩ := info_parts infoPtr
          have ho := HR1.out.s
          have hbs : B ≤ W4.heap.size := HC2.out.da.nz.2.2.2.2.2.2.2.2
          have hlen : bs.length ≤ 2000000 := by have := HLN.out; omega
          go_upto_region 20 with (first | (at_builtin; refine wpList_pushw rfl _ _ 62 rfl B 38 i0 (.pointer none) 8 Try.underlying62 hi0 hz0 hz1 hz2 rfl (by decide) _ _ _ rfl ho (.pointer (some ⟨sb, 0, none⟩)) rfl rfl hlen hbs ?_; intro g1 cap1 w7 hown hg2; clear hi0 hz0 hz1 hz2 ho hbs) | fail)
          have HS3 := Lib.hid hown
          have HL3 := Lib.hid (HR1.out.pushS hg2)
          have HC3 := Lib.hid (HC2.out.grew HR1.out.s (by decide) (by decide) hg2)
          clear hown hg2 HR1 HC2
          obtain ⟨i0, hi0, hz0, hz1, hz2⟩ := info_parts infoMach
          have ho := HL3.out
          have hbs : B ≤ w7.heap.size := HC3.out.da.nz.2.2.2.2.2.2.2.2
          have hlen : bs.length + 1 ≤ 2000000 := by have := HLN.out; omega
          go_upto_region 21 with (first | (at_builtin; refine wpList_pushw rfl _ _ 63 rfl B 65 i0 .nilIface 16 Try.underlying63 hi0 hz0 hz1 hz2 rfl (by decide) _ _ _ rfl ho (.iface 38 (.pointer (some ⟨sb, 0, none⟩))) rfl rfl hlen hbs ?_; intro g2 cap2 w8 hown hg2; clear hi0 hz0 hz1 hz2 ho hbs) | fail)
          have HR4 := Lib.hid (rows_both HS3.out HL3.out hown hg2)
          have HC4 := Lib.hid (HC3.out.grew HL3.out (by decide) (by decide) hg2)
          clear hown hg2 HS3 HL3 HC3
          have hwc : IntKind.u8.wrap ((k : Int) + 1) = ((k + 1 : Nat) : Int) := by rw [IntKind.wrap_u8]; omega
          go_wp2_with fail
          go_roundw
          case rel => exact ⟨k + 1, _, _, by go_num, by omega, Lib.hid (by have := HLN.out; simp; omega), HC4, HR4⟩
          case measure => simp [intOf]; omega
        · obtain rfl : M = k := by omega
          have i1 : ¬ (M : Int) < 1 + thv % 4 := by rw [HMM.out]; omega
          have i2 : decide ((M : Int) < 1 + thv % 4) = false := by simpa using i1
          as_aux_lemma =>
          go_upto_region 22 with (fail)
          clear i1 i2
          obtain ⟨P, hP⟩ : ∃ P, bs.length + 1 = P := ⟨_, rfl⟩
          obtain ⟨lg, cl, rfl⟩ := HR.out.list hP
          obtain ⟨sg, cs, rfl⟩ := HR.out.steals HLN.out hM4.1
          have HP := Lib.hid hP
          have hP0 : ¬ (P : Int) = 0 := by omega
          have hP6 : P ≤ 6 := by have := HLN.out; omega
          clear hP
          obtain ⟨K, hK⟩ : ∃ K : Nat, min os.length 60 = K := ⟨_, rfl⟩
          have hK1 : K ≤ os.length := by omega
          have hK2 : K ≤ 60 := by omega
          have hif1 : (if (60 : Int) < (os.length : Int) then (60 : Int) else (os.length : Int)) = (K : Int) := by split <;> omega
          have hif2 : (if 60 < os.length then (60 : Int) else (os.length : Int)) = (K : Int) := by split <;> omega
          have htk := fun w => run_take (P := Try.prog) Try.underlying61 (size := 1) (by kernel_rfl) oa os.length oc K (by omega) w
          clear hK
          have HMR := Lib.hid (fun (i : Nat) (h : i < os.length) => ho2 os[i] (List.getElem_mem h))
          go_wp2_with fail
          clear htk hif1 hif2
          go_loopw [99] (fun cx wr => ∃ (k : Nat) (m : DM) (ss : List SB) (top : Bool) (xs : List Int), cx = .int .i64 k ∧ k ≤ K ∧ Hid (Crew w B lb bb g #[.int .i64 verts, .int .i64 arcs, .int .i64 workers, .int .i64 room, .int .i64 res, .int .i64 lex, .int .i64 hh, .int .i64 flag, .int .i64 pending, .int .i64 ask, .int .i64 count, .int .i64 sense, .int .i64 deques, .int .i64 size] (⟨verts, arcs, workers, room, res, lex, hh, flag, pending, ask, count, sense, deques, size⟩ : Lay) tp r T pb bs m ss top xs wr) ∧ Hid (RowsC B pb bs (.slice (some ⟨sg, 0, none⟩) M cs) (.slice (some ⟨lg, 0, none⟩) P cl) wr)) (fun cx _ => K - (intOf cx).toNat)
          case atStart => exact ⟨0, _, _, _, _, rfl, by omega, HC, HR⟩
          case round =>
            clear HC HR
            obtain ⟨k, m, ss, top, xs, rfl, hk, HC, HR⟩ := hrel
            by_cases hlt : k < K
            · as_aux_lemma =>
              have hlt' : (k : Int) < (K : Int) := by omega
              have hkz : k < os.length := by omega
              obtain ⟨b9, off9, e9, c9⟩ := ho.at k (by simpa using hkz)
              subst e9
              obtain ⟨v, hv⟩ : ∃ v, os[k] = v := ⟨_, rfl⟩
              have c9' : wr.cell? ⟨b9, off9 + k, none⟩ = some (.int .u8 v) := by
                have h : w.cell? ⟨b9, off9 + k, none⟩ = some (.int .u8 v) := by rw [c9, ← hv]; simp [hkz]
                exact (keptCells HC.out.da.kp _ (by rw [h]; rfl)).trans h
              have hv2 := HMR.out k hkz
              rw [hv] at hv2
              clear c9 hv
              obtain ⟨j, hj⟩ := Int.eq_ofNat_of_zero_le (Int.emod_nonneg v hP0)
              have hjn : j < P := by have := Int.emod_lt_of_pos v (show (0 : Int) < P by omega); omega
              have htm : v.tmod (P : Int) = (j : Int) := by rw [Int.tmod_eq_emod_of_nonneg hv2.1, hj]
              clear hj
              have hat := HR.out.at HP.out hjn
              unfold popIfc stIfc at hat
              rcases hat with ⟨-, c7⟩ | ⟨jj, b, -, hb, c7⟩
              · go_wp2_with fail
                refine (Crew.stepPop HG.out HC.out HR.out).mono ?_
                rintro e W5 ⟨d, m5, ss5, top5, xs5, rfl, hC5, hR5⟩
                have HC5 := Lib.hid hC5
                have HR5 := Lib.hid hR5
                clear hC5 hR5 c7 c9' HC HR htm
                go_wp2_with fail
                go_roundw
                case rel => exact ⟨k + 1, _, _, _, _, by go_num, by omega, HC5, HR5⟩
                case measure => simp [intOf]; omega
              · have hbm := List.mem_of_getElem? hb
                clear hb
                go_wp2_with fail
                refine (Crew.stepSteal HG.out HC.out HR.out hbm).mono ?_
                rintro e W5 ⟨d, m5, ss5, top5, xs5, rfl, hC5, hR5⟩
                have HC5 := Lib.hid hC5
                have HR5 := Lib.hid hR5
                clear hC5 hR5 c7 c9' HC HR htm
                go_wp2_with fail
                go_roundw
                case rel => exact ⟨k + 1, _, _, _, _, by go_num, by omega, HC5, HR5⟩
                case measure => simp [intOf]; omega
            · obtain rfl : k = K := by omega
              have hlt' : ¬ (k : Int) < (k : Int) := by omega
              as_aux_lemma =>
              clear HMR
              go_upto_region 27 with (fail)
              go_wp2_with fail
              go_loopw [116] (fun cx wr => ∃ (k : Nat) (m : DM) (ss : List SB) (top : Bool) (xs : List Int), cx = .int .i64 k ∧ k ≤ P ∧ Hid (Crew w B lb bb g #[.int .i64 verts, .int .i64 arcs, .int .i64 workers, .int .i64 room, .int .i64 res, .int .i64 lex, .int .i64 hh, .int .i64 flag, .int .i64 pending, .int .i64 ask, .int .i64 count, .int .i64 sense, .int .i64 deques, .int .i64 size] (⟨verts, arcs, workers, room, res, lex, hh, flag, pending, ask, count, sense, deques, size⟩ : Lay) tp r T pb bs m ss top xs wr) ∧ Hid (RowsC B pb bs (.slice (some ⟨sg, 0, none⟩) M cs) (.slice (some ⟨lg, 0, none⟩) P cl) wr) ∧ Hid (DnTo k m ss)) (fun cx _ => P - (intOf cx).toNat)
              case atStart => exact ⟨0, _, _, _, _, rfl, by omega, HC, HR, Lib.hid ⟨fun h => by omega, fun j s h => by omega⟩⟩
              case round =>
                clear HC HR
                obtain ⟨k, m, ss, top, xs, rfl, hk, HC, HR, HD⟩ := hrel
                by_cases hlt : k < P
                · as_aux_lemma =>
                  have hlt' : (k : Int) < (P : Int) := by omega
                  obtain ⟨u, c7, hcall⟩ := HC.out.alone_at HG.out HR.out HP.out hlt HD.out
                  have HA := Lib.hid hcall
                  clear hcall
                  go_wp2_with fail
                  refine HA.out.mono ?_
                  rintro e W5 ⟨m5, ss5, top5, xs5, rfl, hC5, hR5, hD5⟩
                  have HC5 := Lib.hid hC5
                  have HR5 := Lib.hid hR5
                  have HD5 := Lib.hid hD5
                  clear hC5 hR5 hD5 c7 HA HC HR HD
                  go_wp2_with fail
                  go_roundw
                  case rel => exact ⟨k + 1, _, _, _, _, by go_num, by omega, HC5, HR5, HD5⟩
                  case measure => simp [intOf]; omega
                · obtain rfl : P = k := by omega
                  have hlt' : ¬ (P : Int) < (P : Int) := by omega
                  as_aux_lemma =>
                  have hmd := HD.out.1 (by omega)
                  have HSD : Hid (∀ (j : Nat) (s : SB), ss[j]? = some s → s.m.done = true) := Lib.hid (fun j s hj => HD.out.2 j s (by have h1 := (List.getElem?_eq_some_iff.1 hj).1; have h2 := HC.out.len; have h3 := HP.out; omega) hj)
                  obtain ⟨hct, hx, hrow⟩ := HC.out.top_at hmd
                  have HRW : Hid (Row tp r xs (T + 1) []) := Lib.hid (hrow (by have := HBD.out; omega))
                  clear hrow HD
                  go_upto_region 34 with (fail)
                  clear hlt'
                  go_wp2_with fail
                  refine (pop_got HC.out.pp).mono ?_
                  rintro e w5 ⟨rfl, rfl⟩
                  cases hg : m.got
                  · as_aux_lemma =>
                    rw [took_no hmd hg]
                    have HCT : Hid (0 + got1 ss = 1) := Lib.hid (by rw [hg] at hct; simpa [cnt1] using hct)
                    clear hct hx
                    go_wp2_with fail
                    go_loopw [23, 136] (fun v23 cx wr => ∃ (k q : Nat), v23 = .int .i64 q ∧ cx = .int .i64 k ∧ k ≤ M ∧ q ≤ 1 ∧ Hid (q = 0 + got1 (ss.take k)) ∧ Hid (Crew w B lb bb g #[.int .i64 verts, .int .i64 arcs, .int .i64 workers, .int .i64 room, .int .i64 res, .int .i64 lex, .int .i64 hh, .int .i64 flag, .int .i64 pending, .int .i64 ask, .int .i64 count, .int .i64 sense, .int .i64 deques, .int .i64 size] (⟨verts, arcs, workers, room, res, lex, hh, flag, pending, ask, count, sense, deques, size⟩ : Lay) tp r T pb bs m ss top xs wr) ∧ Hid (RowsC B pb bs (.slice (some ⟨sg, 0, none⟩) M cs) (.slice (some ⟨lg, 0, none⟩) P cl) wr)) (fun _ cx _ => M - (intOf cx).toNat)
                    case atStart => exact ⟨0, 0, rfl, rfl, by omega, by omega, Lib.hid rfl, HC, HR⟩
                    case round =>
                      clear HC HR
                      obtain ⟨k, q, rfl, rfl, hk, hq, HQ, HC, HR⟩ := hrel
                      by_cases hlt : k < M
                      · as_aux_lemma =>
                        have hlt' : (k : Int) < (M : Int) := by omega
                        obtain ⟨s, hs, c7, hpb, hst⟩ := HC.out.steal_at HR.out HLN.out hlt
                        have hsd := HSD.out k s hs
                        have HFN := Lib.hid (hst.fin hsd)
                        have HPB2 := Lib.hid hpb
                        have HTK := Lib.hid (got1_take ss k s hs)
                        have HLE := Lib.hid (got1_le ss (k + 1))
                        clear hs hpb hst
                        go_wp2_with fail
                        refine (steal_got HPB2.out).mono ?_
                        rintro e w5 ⟨rfl, rfl⟩
                        cases hg : s.m.got
                        · rw [took_no hsd hg]
                          clear c7
                          go_wp2_with fail
                          go_roundw
                          case rel => exact ⟨k + 1, q, rfl, by go_num, by omega, hq, Lib.hid (by rw [HTK.out, hg]; have := HQ.out; simp only [cnt1, if_false, Bool.false_eq_true]; omega), HC, HR⟩
                          case measure => simp [intOf]; omega
                        · rw [took_yes hsd hg (HFN.out hg).1]
                          have hql : q + 1 ≤ 1 := by
                            have h1 := HTK.out
                            have h2 := HLE.out
                            have h3 := HQ.out
                            have h4 := HCT.out
                            rw [hg] at h1
                            simp only [cnt1, if_true] at h1
                            omega
                          clear c7
                          go_wp2_with fail
                          refine (steal_lost HPB2.out).mono ?_
                          rintro e w6 ⟨rfl, rfl⟩
                          rw [(HFN.out hg).2]
                          go_wp2_with fail
                          go_roundw
                          case rel => exact ⟨k + 1, q + 1, by go_num, by go_num, by omega, hql, Lib.hid (by rw [HTK.out, hg]; have := HQ.out; simp only [cnt1, if_true]; omega), HC, HR⟩
                          case measure => simp [intOf]; omega
                      · as_aux_lemma =>
                        obtain rfl : M = k := by omega
                        have hlt' : ¬ (M : Int) < (M : Int) := by omega
                        obtain rfl : q = 1 := by
                          have h1 := HQ.out
                          have h2 := HCT.out
                          have h3 := HC.out.len
                          have h4 := HLN.out
                          rw [List.take_of_length_le (by omega)] at h1
                          omega
                        have hz1 : (((1 : Nat) : Int) == 1) = true := rfl
                        clear HQ hq HSD HLN
                        have cl' := HC.out.da.l.cell
                        go_wp2_with fail
                        refine (HH0 _ _ _ _ _ _ 0 HC.out.da.b HRW.out rfl).out.mono ?_
                        rintro e w6 ⟨ha, hc, rfl, -, hk6⟩
                        have HK6 := Lib.hid (HC.out.da.kp.trans hk6)
                        clear hk6 HC HR cl'
                        go_wp2_with fail
                        refine (awake11_any _).mono ?_
                        rintro e w7 ⟨rfl, hk7⟩
                        have HK7 := Lib.hid (HK6.out.trans hk7)
                        clear hk7 HK6
                        go_wp2_with fail
                        go_ret
                        exact ⟨rfl, HK7.out⟩
                  · as_aux_lemma =>
                    rw [took_yes hmd hg (hx hg)]
                    have HCT : Hid (1 + got1 ss = 1) := Lib.hid (by rw [hg] at hct; simpa [cnt1] using hct)
                    clear hct hx
                    go_wp2_with fail
                    go_loopw [23, 136] (fun v23 cx wr => ∃ (k q : Nat), v23 = .int .i64 q ∧ cx = .int .i64 k ∧ k ≤ M ∧ q ≤ 1 ∧ Hid (q = 1 + got1 (ss.take k)) ∧ Hid (Crew w B lb bb g #[.int .i64 verts, .int .i64 arcs, .int .i64 workers, .int .i64 room, .int .i64 res, .int .i64 lex, .int .i64 hh, .int .i64 flag, .int .i64 pending, .int .i64 ask, .int .i64 count, .int .i64 sense, .int .i64 deques, .int .i64 size] (⟨verts, arcs, workers, room, res, lex, hh, flag, pending, ask, count, sense, deques, size⟩ : Lay) tp r T pb bs m ss top xs wr) ∧ Hid (RowsC B pb bs (.slice (some ⟨sg, 0, none⟩) M cs) (.slice (some ⟨lg, 0, none⟩) P cl) wr)) (fun _ cx _ => M - (intOf cx).toNat)
                    case atStart => exact ⟨0, 1, rfl, rfl, by omega, by omega, Lib.hid rfl, HC, HR⟩
                    case round =>
                      clear HC HR
                      obtain ⟨k, q, rfl, rfl, hk, hq, HQ, HC, HR⟩ := hrel
                      by_cases hlt : k < M
                      · as_aux_lemma =>
                        have hlt' : (k : Int) < (M : Int) := by omega
                        obtain ⟨s, hs, c7, hpb, hst⟩ := HC.out.steal_at HR.out HLN.out hlt
                        have hsd := HSD.out k s hs
                        have HFN := Lib.hid (hst.fin hsd)
                        have HPB2 := Lib.hid hpb
                        have HTK := Lib.hid (got1_take ss k s hs)
                        have HLE := Lib.hid (got1_le ss (k + 1))
                        clear hs hpb hst
                        go_wp2_with fail
                        refine (steal_got HPB2.out).mono ?_
                        rintro e w5 ⟨rfl, rfl⟩
                        cases hg : s.m.got
                        · rw [took_no hsd hg]
                          clear c7
                          go_wp2_with fail
                          go_roundw
                          case rel => exact ⟨k + 1, q, rfl, by go_num, by omega, hq, Lib.hid (by rw [HTK.out, hg]; have := HQ.out; simp only [cnt1, if_false, Bool.false_eq_true]; omega), HC, HR⟩
                          case measure => simp [intOf]; omega
                        · rw [took_yes hsd hg (HFN.out hg).1]
                          have hql : q + 1 ≤ 1 := by
                            have h1 := HTK.out
                            have h2 := HLE.out
                            have h3 := HQ.out
                            have h4 := HCT.out
                            rw [hg] at h1
                            simp only [cnt1, if_true] at h1
                            omega
                          clear c7
                          go_wp2_with fail
                          refine (steal_lost HPB2.out).mono ?_
                          rintro e w6 ⟨rfl, rfl⟩
                          rw [(HFN.out hg).2]
                          go_wp2_with fail
                          go_roundw
                          case rel => exact ⟨k + 1, q + 1, by go_num, by go_num, by omega, hql, Lib.hid (by rw [HTK.out, hg]; have := HQ.out; simp only [cnt1, if_true]; omega), HC, HR⟩
                          case measure => simp [intOf]; omega
                      · as_aux_lemma =>
                        obtain rfl : M = k := by omega
                        have hlt' : ¬ (M : Int) < (M : Int) := by omega
                        obtain rfl : q = 1 := by
                          have h1 := HQ.out
                          have h2 := HCT.out
                          have h3 := HC.out.len
                          have h4 := HLN.out
                          rw [List.take_of_length_le (by omega)] at h1
                          omega
                        have hz1 : (((1 : Nat) : Int) == 1) = true := rfl
                        clear HQ hq HSD HLN
                        have cl' := HC.out.da.l.cell
                        go_wp2_with fail
                        refine (HH0 _ _ _ _ _ _ 0 HC.out.da.b HRW.out rfl).out.mono ?_
                        rintro e w6 ⟨ha, hc, rfl, -, hk6⟩
                        have HK6 := Lib.hid (HC.out.da.kp.trans hk6)
                        clear hk6 HC HR cl'
                        go_wp2_with fail
                        refine (awake11_any _).mono ?_
                        rintro e w7 ⟨rfl, hk7⟩
                        have HK7 := Lib.hid (HK6.out.trans hk7)
                        clear hk7 HK6
                        go_wp2_with fail
                        go_ret
                        exact ⟨rfl, HK7.out⟩
end Go.Proofs.Ytdgkemadhooogaa
