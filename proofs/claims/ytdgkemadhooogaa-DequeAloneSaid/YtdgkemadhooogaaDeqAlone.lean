/- The law DequeAlone (printed by gen_deq.py). -/
import Derived.Test.YtdgkemadhooogaaAwake11
import Derived.Test.YtdgkemadhooogaaDeqTo
import Derived.Test.YtdgkemadhooogaaOffRow
import Derived.Test.YtdgkemadhooogaaOpen
import Derived.Test.YtdgkemadhooogaaBase2
import Derived.Deep.RegionHeld3
import Derived.Deep.CutRange
import Derived.StillTailTactics
import Derived.Deep.MidRow
import Derived.Deep.MidRow
namespace Go.Proofs.Ytdgkemadhooogaa
set_option linter.unusedVariables false
set_option linter.unusedSimpArgs false
open Go.RowKit
attribute [local go_sem] cell?_ext

theorem wrap_pred (p : Nat) (h : p ≤ 1000) : wrap64 (((p + 1 : Nat) : Int) - 1) = (p : Int) ∧ wrap64 (p : Int) = (p : Int) := by
  unfold wrap64
  omega
/-- What the law looks at: the plan's box, the bank. -/
structure DA (w : World) (B lb bb g : Nat) (lv : Array Value) (xs : List Int) (W : World) : Prop where
  kp : Kept w W
  l : Blk W lb lv 24
  b : Bnk W bb g xs
  nz : w.heap.size ≤ lb ∧ w.heap.size ≤ bb ∧ w.heap.size ≤ g ∧ lb < B ∧ bb < B ∧ g < B ∧ ¬ lb = bb ∧ ¬ lb = g ∧ B ≤ W.heap.size
section
variable {w W W' : World} {B lb bb g : Nat} {lv : Array Value} {xs : List Int}
theorem DA.kept (h : DA w B lb bb g lv xs W) (k : Kept W W') : DA w B lb bb g lv xs W' := ⟨h.kp.trans k, h.l.kept k, h.b.kept k, by have := h.nz; have := k.size; omega⟩
theorem DA.far (h : DA w B lb bb g lv xs W) (k : Upd (fun i => B ≤ i) W W') : DA w B lb bb g lv xs W' := by
  have n := h.nz
  have := k.size
  exact ⟨h.kp.then k (fun i hi e => by omega), h.l.upd k (by omega), h.b.upd k (by omega) (by omega), by omega⟩
theorem DA.mach (h : DA w B lb bb g lv xs W) {kd : Kd} {l : Lay} {k : Int} {mb : Nat} {s' : KS} (hK : KSt kd l k mb bb g s' W W') (hm : B ≤ mb) : DA w B lb bb g lv s'.xs W' := by
  have n := h.nz
  have := hK.2.2.size
  exact ⟨h.kp.then hK.2.2 (fun i hi e => by omega), h.l.upd hK.2.2 (by omega), hK.2.1, by omega⟩
end
theorem Row.ahead {tp tq r : Nat} {xs ys : List Int} {T : Int} (h : Row tp r xs T []) (ha : Ahead tq xs ys) (hq : tp + 2 ≤ tq) : Row tp r ys T [] := by
  refine ⟨by rw [ha.1]; exact h.fit, h.t0, h.big, h.room, by rw [ha.2 _ (by omega) (by omega)]; exact h.top, by rw [ha.2 _ (by omega) (by omega)]; exact h.bot, fun j hj => by simp at hj⟩
theorem row_zero {tp r S : Nat} (h : tp + 2 + 2 ^ r ≤ S) : Row tp r (List.replicate S 0) 0 [] := by
  have h0 : 0 < 2 ^ r := Nat.pow_pos (by omega)
  have g : ∀ i : Int, 0 ≤ i → bget (List.replicate S 0) i = 0 := fun i hi => by
    rw [bget_in hi]
    simp [List.getD, List.getElem?_replicate]
    split <;> rfl
  exact ⟨by rw [List.length_replicate]; exact h, by omega, by simp, by simp, g _ (by omega), g _ (by omega), fun j hj => by simp at hj⟩
theorem op_of {e : List Value} (hf : fits [some .u8, some .u8, some .i64] e) : ∃ a b c, e = [.int .u8 a, .int .u8 b, .int .i64 c] ∧ 0 ≤ b ∧ b ≤ 255 := by
  obtain ⟨x1, u1, e1, h1, f1⟩ := fits_int hf
  obtain ⟨x2, u2, e2, h2, f2⟩ := fits_int f1
  obtain ⟨x3, u3, e3, h3, f3⟩ := fits_int f2
  exact ⟨x1, x2, x3, by rw [e1, e2, e3, fits_nil f3], (bounds_u8 h2).1, (bounds_u8 h2).2⟩
/-- Plans of some vertices and workers: where the deques are. -/
theorem plan_geo (v k : Int) (hv : 0 ≤ v ∧ v ≤ 4096) (hk : 1 ≤ k ∧ k ≤ 16) : ∃ (r S : Nat), (planOf v 0 k).size = (S : Int) ∧ S ≤ 524288 ∧ (planOf v 0 k).room = ((2 ^ r : Nat) : Int) ∧ r ≤ 13 ∧ v ≤ ((2 ^ r : Nat) : Int) ∧ 2 ^ r ≤ 8192 ∧
    ∀ i : Int, 0 ≤ i → i < k → ∃ tp : Nat, Geo (planOf v 0 k) i tp r ∧ (tp : Int) = (planOf v 0 k).deques + i * (((2 ^ r : Nat) : Int) + 2) ∧ tp + 2 + 2 ^ r ≤ S := by
  obtain ⟨r, hr, e⟩ := roomOf_pow v
  have h1 := roomOf_le v
  have h2 : 0 ≤ k * (roomOf v + 2) := Int.mul_nonneg (by omega) (by omega)
  have h3 : k * (roomOf v + 2) ≤ 16 * 8194 := Int.mul_le_mul hk.2 (by omega) (by omega) (by omega)
  have h4 := roomFrom_done 13 1 v (by omega) (by omega)
  have h5 : v ≤ roomOf v := h4
  have hsz : (planOf v 0 k).size = 0 + v + v + v + 1 + 1 + 1 + 1 + k * (roomOf v + 2) := rfl
  have hdq : (planOf v 0 k).deques = 0 + v + v + v + 1 + 1 + 1 + 1 := rfl
  have hrm : (planOf v 0 k).room = roomOf v := rfl
  refine ⟨r, (planOf v 0 k).size.toNat, by rw [hsz]; omega, ?_, by rw [hrm, e], hr, by rw [← e]; exact h5, by omega, fun i h0 hi => ?_⟩
  · rw [hsz]; omega
  · have h6 : 0 ≤ i * (roomOf v + 2) := Int.mul_nonneg h0 (by omega)
    have h7 : (i + 1) * (roomOf v + 2) ≤ k * (roomOf v + 2) := Int.mul_le_mul_of_nonneg_right (by omega) (by omega)
    rw [Int.add_mul, Int.one_mul] at h7
    refine ⟨((planOf v 0 k).deques + i * (roomOf v + 2)).toNat, ⟨by rw [hdq]; omega, by rw [hdq]; omega, hr, by rw [hrm, e], h0, by omega, ?_⟩, ?_, ?_⟩
    · rw [hrm, hdq]; omega
    · rw [← e, hdq]; omega
    · rw [hsz, hdq]; omega
theorem infoA64 : (Try.prog.info? 2).map (fun i => (i.zero, i.size, i.bytes)) = some (some (.int .i64 0), 1, 8) := by kernel_rfl
set_option maxRecDepth 100000 in
set_option maxHeartbeats 16000000 in
theorem dequeAlone_core (vts : Int) (sa : Option Addr) (cap0 : Nat) (els : List (List Value)) (w : World) (hv0 : 0 ≤ vts) (hv1 : vts ≤ 255) (hlen : els.length ≤ cap0) (hmost : cap0 ≤ maxLen)
    (hcells : els.length = 0 ∨ ∃ b off, sa = some ⟨b, off, none⟩ ∧ ∀ i (h : i < els.length) j v, els[i][j]? = some v → w.cell? ⟨b, off + i * 3 + j, none⟩ = some v) (hfit : ∀ e ∈ els, fits [some .u8, some .u8, some .i64] e) :
    Calls Try.prog 4 #[.int .u8 vts, .slice sa els.length cap0] w fun e w' => e = .returned (.bool true) ∧ Kept w w' := by
  have HZ14 : Hid ((Try.prog.info? 24).map (·.size) = some 14) := Lib.hid (by kernel_rfl)
  have HZo : Hid ((Try.prog.info? 51).map (·.size) = some 21) := Lib.hid (by kernel_rfl)
  have HZt : Hid ((Try.prog.info? 45).map (·.size) = some 22) := Lib.hid (by kernel_rfl)
  have HZu : Hid ((Try.prog.info? 48).map (·.size) = some 22) := Lib.hid (by kernel_rfl)
  obtain ⟨r, S, hS, hS2, hrm, hr13, hvr, hr8, htp⟩ := plan_geo (1 + vts % 16) 2 (by omega) (by omega)
  obtain ⟨tq, hG0, htq, hfq⟩ := htp 0 (by omega) (by omega)
  obtain ⟨tp, hG1, htp1, hfp⟩ := htp 1 (by omega) (by omega)
  obtain ⟨l, hl⟩ : ∃ l, planOf (1 + vts % 16) 0 2 = l := ⟨_, rfl⟩
  have HB := fun w => Lib.hid (bank_any (1 + vts % 16) 2 w (by unfold May; omega) l hl S (by rw [← hl]; exact hS) hS2)
  rw [hl] at hrm hG0 hG1
  have HTQ : Hid (tq + 2 ≤ tp) := Lib.hid (by rw [hl] at htq htp1; omega)
  have HRW0 : Hid (Row tp r (List.replicate S 0) 0 [] ∧ Row tq r (List.replicate S 0) 0 []) := Lib.hid ⟨row_zero hfp, row_zero hfq⟩
  have HG1 := Lib.hid hG1
  have HRM := Lib.hid hrm
  have HNU := fun v w => Lib.hid (NewPush_any l 1 v w)
  have HNP := fun w => Lib.hid (NewPop_any l 1 w)
  have HNS := fun w => Lib.hid (NewSteal_any l 1 w)
  have HH1 := fun w bb g xs T L n (hb : Bnk w bb g xs) (hr : Row tp r xs T L) hn => Lib.hid (Held_row hG1 hb hr n hn)
  have HH0 := fun w bb g xs T L n (hb : Bnk w bb g xs) (hr : Row tq r xs T L) hn => Lib.hid (Held_row hG0 hb hr n hn)
  clear hS hS2 hrm hr13 hvr hr8 htp hG0 hG1 htq htp1 hfq hfp hl
  obtain ⟨verts, arcs, workers, room, res, lex, hh, flag, pending, ask, count, sense, deques, size⟩ := l
  simp only at HRM
  simp only [Lay.val, Lay.vals, PL] at HB HNU HNP HNS HH1 HH0
  obtain ⟨M, hM⟩ : ∃ M, M = min els.length 150 := ⟨_, rfl⟩
  have hM1 : M ≤ els.length := by omega
  have hM2 : M ≤ 150 := by omega
  have hsl := fun w => run_take (P := Try.prog) Try.underlying22 (size := 3) (by kernel_rfl) sa els.length cap0 M (by omega) w
  have hif1 : (if (150 : Int) < (els.length : Int) then (150 : Int) else (els.length : Int)) = (M : Int) := by split <;> omega
  have hif2 : (if 150 < els.length then (150 : Int) else (els.length : Int)) = (M : Int) := by split <;> omega
  unfold maxLen at hmost
  have HC := Lib.hid hcells
  have HF := Lib.hid hfit
  have hq0 : 0 ≤ vts % 16 := Int.emod_nonneg _ (by omega)
  have hq1 : vts % 16 < 16 := Int.emod_lt_of_pos _ (by omega)
  have hwv : wrap64 (1 + vts % 16) = 1 + vts % 16 := by unfold wrap64; omega
  clear hcells hfit hM
  go_enter Try.func4, Try.ntmps4
  go_wp2_with fail
  refine (HB _).out.mono ?_
  rintro e w0 ⟨bb, g, rfl, hb, h1, h2, hk⟩
  have hA := (Upd.refl (fun _ => False) w0).alloc (.cells #[.int .i64 verts, .int .i64 arcs, .int .i64 workers, .int .i64 room, .int .i64 res, .int .i64 lex, .int .i64 hh, .int .i64 flag, .int .i64 pending, .int .i64 ask, .int .i64 count, .int .i64 sense, .int .i64 deques, .int .i64 size] 24)
  have D0 : Hid (DA w (w0.alloc (.cells #[.int .i64 verts, .int .i64 arcs, .int .i64 workers, .int .i64 room, .int .i64 res, .int .i64 lex, .int .i64 hh, .int .i64 flag, .int .i64 pending, .int .i64 ask, .int .i64 count, .int .i64 sense, .int .i64 deques, .int .i64 size] 24)).heap.size w0.heap.size bb g #[.int .i64 verts, .int .i64 arcs, .int .i64 workers, .int .i64 room, .int .i64 res, .int .i64 lex, .int .i64 hh, .int .i64 flag, .int .i64 pending, .int .i64 ask, .int .i64 count, .int .i64 sense, .int .i64 deques, .int .i64 size] (List.replicate S 0) (w0.alloc (.cells #[.int .i64 verts, .int .i64 arcs, .int .i64 workers, .int .i64 room, .int .i64 res, .int .i64 lex, .int .i64 hh, .int .i64 flag, .int .i64 pending, .int .i64 ask, .int .i64 count, .int .i64 sense, .int .i64 deques, .int .i64 size] 24))) := Lib.hid (by
    have h3 := hb.head.lt
    have h4 := hb.row.lt
    have h5 := hk.size
    have h6 : (w0.alloc (.cells #[.int .i64 verts, .int .i64 arcs, .int .i64 workers, .int .i64 room, .int .i64 res, .int .i64 lex, .int .i64 hh, .int .i64 flag, .int .i64 pending, .int .i64 ask, .int .i64 count, .int .i64 sense, .int .i64 deques, .int .i64 size] 24)).heap.size = w0.heap.size + 1 := World.size_alloc _ _
    exact ⟨hk.trans hA, Blk.new _ _ _, hb.kept hA, by omega⟩)
  clear hb h1 h2 hk hA HB
  simp only [Lay.val, Lay.vals]
  go_upto_region 2 with (fail)
  generalize (w0.alloc (.cells #[.int .i64 verts, .int .i64 arcs, .int .i64 workers, .int .i64 room, .int .i64 res, .int .i64 lex, .int .i64 hh, .int .i64 flag, .int .i64 pending, .int .i64 ask, .int .i64 count, .int .i64 sense, .int .i64 deques, .int .i64 size] 24)) = W1 at D0 ⊢
  generalize w0.heap.size = lb at D0 ⊢
  generalize W1.heap.size = B at D0
  clear hq0 hq1 hwv
  go_wp2_with fail
  go_loopw [8, 35] (fun rx jx wr => ∃ (j : Nat) (a : Option Addr) (n c : Nat) (L xs : List Int) (T : Int), rx = .slice a n c ∧ jx = .int .i64 j ∧ j ≤ M ∧ Hid (OffRow wr B 2 a n c L) ∧ Hid (DA w B lb bb g #[.int .i64 verts, .int .i64 arcs, .int .i64 workers, .int .i64 room, .int .i64 res, .int .i64 lex, .int .i64 hh, .int .i64 flag, .int .i64 pending, .int .i64 ask, .int .i64 count, .int .i64 sense, .int .i64 deques, .int .i64 size] xs wr) ∧ Hid (Row tp r xs T L ∧ Row tq r xs 0 []) ∧ Hid (0 ≤ T ∧ T + L.length ≤ j ∧ j ≤ 150)) (fun _ jx _ => M - (intOf jx).toNat)
  case atStart => exact ⟨0, none, 0, 0, [], _, 0, rfl, rfl, by omega, Lib.hid (OffRow.nil _ _ _), D0, HRW0, Lib.hid (by simp)⟩
  case round =>
    clear HRW0 D0
    obtain ⟨j, a, n, c, L, xs, T, rfl, rfl, hj, O0, D0, HRW, HBD⟩ := hrel
    by_cases hjm : j < M
    · obtain ⟨sb, so, rfl, hcs⟩ := HC.out.resolve_left (by omega)
      obtain ⟨who, wh, v, hel, hw0, hw1⟩ := op_of (HF.out (els[j]'(by omega)) (List.getElem_mem _))
      have hc := fun k v (h : (els[j]'(by omega))[k]? = some v) => (D0.out.kp.cells _ (by rw [hcs j (by omega) k v h]; rfl) (fun f => f)).trans (hcs j (by omega) k v h)
      rw [hel] at hc
      have c0 : wr.cell? ⟨sb, so + j * 3, none⟩ = some (.int .u8 who) := hc 0 _ rfl
      have c1 : wr.cell? ⟨sb, so + j * 3 + 1, none⟩ = some (.int .u8 wh) := hc 1 _ rfl
      have c2 : wr.cell? ⟨sb, so + j * 3 + 2, none⟩ = some (.int .i64 v) := hc 2 _ rfl
      have hA := (Upd.refl (fun _ => False) wr).alloc (.cells #[.int .u8 who, .int .u8 wh, .int .i64 v] 34)
      have D1 := Lib.hid (D0.out.kept hA)
      have O1 := Lib.hid (O0.out.kept hA)
      have X1 := Lib.hid (Blk.new wr #[.int .u8 who, .int .u8 wh, .int .i64 v] 34)
      have HOB : Hid (B ≤ wr.heap.size) := Lib.hid D0.out.nz.2.2.2.2.2.2.2.2
      have hq0 : 0 ≤ wh % 4 := Int.emod_nonneg _ (by omega)
      have hq1 : wh % 4 < 4 := Int.emod_lt_of_pos _ (by omega)
      have i1 : (0 : Int) ≤ (j : Int) := by omega
      have i2 : (j : Int) < (M : Int) := by omega
      have hj150 : (j : Int) < 150 := by have := HBD.out; omega
      clear hc hel hcs hA O0 D0
      go_upto_region 8 with (fail)
      clear c0 c1 c2
      generalize (wr.alloc (.cells #[.int .u8 who, .int .u8 wh, .int .i64 v] 34)) = W1 at D1 O1 X1 ⊢
      generalize wr.heap.size = ob at X1 HOB ⊢
      rcases (show wh % 4 = 0 ∨ wh % 4 = 1 ∨ wh % 4 = 2 ∨ wh % 4 = 3 by omega) with hwh | hwh | hwh | hwh
      · skip
        by_cases hzr0 : L.length < 2 ^ r
        · have HZR := Lib.hid hzr0
          clear hzr0
          as_aux_lemma =>
          have e0 : (wh % 4 == 0) = true := by simp; omega
          have e1 : (wh % 4 == 1) = false := by simp; omega
          have hra := Blk.range D1.out.l
          have xl := X1.out.cell
          go_wp2_with (first | (refine wpList_load_mid rfl _ _ rfl lb 0 rfl [.int .i64 verts, .int .i64 arcs, .int .i64 workers, .int .i64 room, .int .i64 res, .int .i64 lex, .int .i64 hh, .int .i64 flag, .int .i64 pending, .int .i64 ask, .int .i64 count, .int .i64 sense, .int .i64 deques, .int .i64 size] _ hra Try.underlying24 rfl HZ14.out ?_) | fail)
          refine (HNU v _).out.mono ?_
          rintro e w3 ⟨rfl, hk⟩
          have D2 := Lib.hid (D1.out.kept hk)
          have O2 := Lib.hid (O1.out.kept hk)
          have X2 := Lib.hid (X1.out.kept hk)
          clear hk D1 O1 X1 hra xl
          have hZ := Blk.new w3 #[.int .i64 0, .int .i64 0, .int .i64 0, .int .i64 0, .int .i64 0, .int .i64 0, .int .i64 0, .int .i64 0, .int .i64 0, .int .i64 0, .int .i64 0, .int .i64 0, .int .i64 0, .int .i64 0, .int .i64 0, .int .i64 0, .int .i64 0, .int .i64 0, .int .i64 0, .bool false, .bool false, .int .i64 0] 48
          have hth := Blk.there hZ 22 rfl
          obtain ⟨W4, hW4⟩ : ∃ W4, (w3.alloc (.cells #[.int .i64 0, .int .i64 0, .int .i64 0, .int .i64 0, .int .i64 0, .int .i64 0, .int .i64 0, .int .i64 0, .int .i64 0, .int .i64 0, .int .i64 0, .int .i64 0, .int .i64 0, .int .i64 0, .int .i64 0, .int .i64 0, .int .i64 0, .int .i64 0, .int .i64 0, .bool false, .bool false, .int .i64 0] 48)).setCells w3.heap.size 0 [.int .i64 verts, .int .i64 arcs, .int .i64 workers, .int .i64 room, .int .i64 res, .int .i64 lex, .int .i64 hh, .int .i64 flag, .int .i64 pending, .int .i64 ask, .int .i64 count, .int .i64 sense, .int .i64 deques, .int .i64 size, .int .i64 1, .int .i64 0, .int .i64 0, .int .i64 0, .int .i64 0, .bool false, .bool false, .int .i64 v] = W4 := ⟨_, rfl⟩
          have hB4 : Blk W4 w3.heap.size #[.int .i64 verts, .int .i64 arcs, .int .i64 workers, .int .i64 room, .int .i64 res, .int .i64 lex, .int .i64 hh, .int .i64 flag, .int .i64 pending, .int .i64 ask, .int .i64 count, .int .i64 sense, .int .i64 deques, .int .i64 size, .int .i64 1, .int .i64 0, .int .i64 0, .int .i64 0, .int .i64 0, .bool false, .bool false, .int .i64 v] 48 ∧ Upd (fun k => k = w3.heap.size) (w3.alloc (.cells #[.int .i64 0, .int .i64 0, .int .i64 0, .int .i64 0, .int .i64 0, .int .i64 0, .int .i64 0, .int .i64 0, .int .i64 0, .int .i64 0, .int .i64 0, .int .i64 0, .int .i64 0, .int .i64 0, .int .i64 0, .int .i64 0, .int .i64 0, .int .i64 0, .int .i64 0, .bool false, .bool false, .int .i64 0] 48)) W4 := by rw [← hW4]; exact Blk.alls hZ [.int .i64 verts, .int .i64 arcs, .int .i64 workers, .int .i64 room, .int .i64 res, .int .i64 lex, .int .i64 hh, .int .i64 flag, .int .i64 pending, .int .i64 ask, .int .i64 count, .int .i64 sense, .int .i64 deques, .int .i64 size, .int .i64 1, .int .i64 0, .int .i64 0, .int .i64 0, .int .i64 0, .bool false, .bool false, .int .i64 v] rfl
          have PB0 : Hid (PB W4 w3.heap.size 48 (⟨verts, arcs, workers, room, res, lex, hh, flag, pending, ask, count, sense, deques, size⟩ : Lay) 1 ⟨0, 0, 0, 0, false, false⟩ [.int .i64 v]) := Lib.hid hB4.1
          have KW : Hid (Kept w3 W4) := Lib.hid (((Upd.refl (fun _ => False) w3).alloc _).then hB4.2 (fun i hi e => by omega))
          have D3 := Lib.hid (D2.out.kept KW.out)
          have HMB : Hid (B ≤ w3.heap.size ∧ ¬ w3.heap.size = g ∧ ¬ w3.heap.size = bb ∧ ob < w3.heap.size) := Lib.hid (by have n := D2.out.nz; have := D2.out.b.head.lt; have := D2.out.b.row.lt; have := X2.out.lt; omega)
          have hzn := (show (Try.prog.info? 48).map (·.size) = some 22 from HZu.out)
          clear hB4 D2 hZ
          go_upto_region 21 with (first | (refine wpList_store_mid rfl _ _ _ rfl w3.heap.size 0 #[.int .i64 verts, .int .i64 arcs, .int .i64 workers, .int .i64 room, .int .i64 res, .int .i64 lex, .int .i64 hh, .int .i64 flag, .int .i64 pending, .int .i64 ask, .int .i64 count, .int .i64 sense, .int .i64 deques, .int .i64 size, .int .i64 1, .int .i64 0, .int .i64 0, .int .i64 0, .int .i64 0, .bool false, .bool false, .int .i64 v] rfl rfl hth hzn (all_oneCell_toArray (cs := [.int .i64 verts, .int .i64 arcs, .int .i64 workers, .int .i64 room, .int .i64 res, .int .i64 lex, .int .i64 hh, .int .i64 flag, .int .i64 pending, .int .i64 ask, .int .i64 count, .int .i64 sense, .int .i64 deques, .int .i64 size, .int .i64 1, .int .i64 0, .int .i64 0, .int .i64 0, .int .i64 0, .bool false, .bool false, .int .i64 v]) (by simp [Value.oneCell'])) ?_; simp only [hW4]) | fail)
          clear hth hW4 hzn
          obtain ⟨mb, hmb⟩ : ∃ mb, w3.heap.size = mb := ⟨_, rfl⟩
          rw [hmb] at PB0 HMB ⊢
          have HMS := Lib.hid hmb
          clear hmb
          obtain ⟨ys, RW5, AH5, AL5⟩ := push_to HRW.out.1 HZR.out (by have := HBD.out; omega) v false
          have HRW5 : Hid (Row tp r ys T (L ++ [v]) ∧ Row tq r ys 0 []) := Lib.hid ⟨RW5, HRW.out.2.ahead AH5 HTQ.out⟩
          have HAL := Lib.hid AL5
          clear AL5
          have hzr : decide ((n : Int) < room) = true := by have h1 := HRM.out; have h2 := HZR.out; have h3 := O2.out.1; have h4 := HRW.out.1.room; simp; omega
          have hzr2 : (n : Int) < room := by simpa using hzr
          have C0 : (∀ i, W4.drew.cell? ⟨lb, i, none⟩ = (#[.int .i64 verts, .int .i64 arcs, .int .i64 workers, .int .i64 room, .int .i64 res, .int .i64 lex, .int .i64 hh, .int .i64 flag, .int .i64 pending, .int .i64 ask, .int .i64 count, .int .i64 sense, .int .i64 deques, .int .i64 size] : Array Value)[i]?) := D3.out.l.cell
          go_region_held3 (fun w' => (∀ i, w'.cell? ⟨lb, i, none⟩ = (#[.int .i64 verts, .int .i64 arcs, .int .i64 workers, .int .i64 room, .int .i64 res, .int .i64 lex, .int .i64 hh, .int .i64 flag, .int .i64 pending, .int .i64 ask, .int .i64 count, .int .i64 sense, .int .i64 deques, .int .i64 size] : Array Value)[i]?))
            (first | exact C0 | exact C1)
            (first
              | (go_at_call 20; refine (alone_push HG1.out (PB0.out.kept (Upd.refl _ _).drew) (D3.out.b.kept (Upd.refl _ _).drew) (by have := HMB.out; omega) HAL.out (by omega)).mono ?_; rintro e W5 ⟨rfl, hK⟩; have D5 := Lib.hid ((D3.out.kept (Upd.refl _ _).drew).mach hK HMB.out.1); have KU : Upd (fun i => i = g ∨ i = mb) w3 W5 := ((KW.out.wide (fun _ _ f => f.elim)).drew).trans hK.2.2; have O5 := Lib.hid (O2.out.upd KU (fun q h1 h2 e => by have n := D3.out.nz; have := HMS.out; have := HMB.out; omega)); have X5 := Lib.hid (X2.out.upd KU (by have n := D3.out.nz; have := HMB.out; have := HOB.out; omega)); have PB5 := Lib.hid hK.1; have C1 : (∀ i, W5.cell? ⟨lb, i, none⟩ = (#[.int .i64 verts, .int .i64 arcs, .int .i64 workers, .int .i64 room, .int .i64 res, .int .i64 lex, .int .i64 hh, .int .i64 flag, .int .i64 pending, .int .i64 ask, .int .i64 count, .int .i64 sense, .int .i64 deques, .int .i64 size] : Array Value)[i]?) := D5.out.l.cell; clear hK KU)
              | (go_at_call 21; refine (push_ok PB5.out).mono ?_; rintro e W6 ⟨rfl, rfl⟩))
          clear C0 C1 D3 O2 X2 PB0 KW HAL hzr hzr2
          go_wp2_with fail
          refine (push_ok PB5.out).mono ?_
          rintro e w6 ⟨rfl, rfl⟩
          simp only [Bool.and_true, Bool.and_self, Bool.and_false]
          clear PB5 HMS HMB
          have xl := X5.out.cell
          obtain ⟨i0, hi0, hz0, hz1, hz2⟩ := info_parts infoA64
          have ho := O5.out
          have hbs : B ≤ W5.heap.size := D5.out.nz.2.2.2.2.2.2.2.2
          have hn9 : n ≤ 100000 := by have h1 := HRW.out.1.big; have h2 := HRW.out.1.t0; have := O5.out.1; omega
          go_upto_region 35 with (first | (at_builtin; refine wpList_offpush rfl _ _ 29 rfl B 2 i0 Try.underlying29 hi0 hz0 hz1 hz2 ho v rfl rfl hn9 hbs ?_; intro a7 c7 w7 hO7 hU7; clear hi0 hz0 hz1 hz2 ho hbs hn9) | fail)
          have D7 := Lib.hid (D5.out.far hU7)
          have O7 := Lib.hid hO7
          clear hO7 hU7 D5 O5 X5 xl
          have hra := Blk.range D7.out.l
          go_wp2_with (first | (refine wpList_load_mid rfl _ _ rfl lb 0 rfl [.int .i64 verts, .int .i64 arcs, .int .i64 workers, .int .i64 room, .int .i64 res, .int .i64 lex, .int .i64 hh, .int .i64 flag, .int .i64 pending, .int .i64 ask, .int .i64 count, .int .i64 sense, .int .i64 deques, .int .i64 size] _ hra Try.underlying24 rfl HZ14.out ?_) | fail)
          refine (HH1 _ _ _ _ _ _ (n + 1) D7.out.b HRW5.out.1 (by have := O7.out.1; omega)).out.mono ?_
          rintro e w11 ⟨ha, hc, rfl, hR, hk⟩
          have DB := Lib.hid (D7.out.kept hk)
          have OB := Lib.hid (O7.out.kept hk)
          have HR := Lib.hid hR
          clear hR hk hra D7 O7
          go_wp2_with fail
          refine (same_at _ _ _ _ _ _ _ HR.out OB.out.rd (by have := OB.out.1; omega) (by have h1 := HRW5.out.1.big; have h2 := HRW5.out.1.t0; have := OB.out.1; omega)).mono ?_
          rintro e w12 ⟨rfl, hk⟩
          have DC := Lib.hid (DB.out.kept hk)
          have OC := Lib.hid (OB.out.kept hk)
          clear hk DB OB HR
          have cl := DC.out.l.cell
          go_wp2_with fail
          refine (HH0 _ _ _ _ _ _ 0 DC.out.b HRW5.out.2 rfl).out.mono ?_
          rintro e w13 ⟨ha2, hc2, rfl, -, hk⟩
          have DD := Lib.hid (DC.out.kept hk)
          have OD := Lib.hid (OC.out.kept hk)
          clear hk DC OC cl
          go_wp2_with fail
          go_roundw
          case rel => exact ⟨j + 1, _, _, _, _, _, T, rfl, by go_num, by omega, OD, DD, HRW5, Lib.hid (by have h1 := HBD.out; simp; omega)⟩
          case measure => simp [intOf]; omega
        · have HZR : Hid (L.length = 2 ^ r) := Lib.hid (by have := HRW.out.1.room; omega)
          clear hzr0
          as_aux_lemma =>
          have e0 : (wh % 4 == 0) = true := by simp; omega
          have e1 : (wh % 4 == 1) = false := by simp; omega
          have hra := Blk.range D1.out.l
          have xl := X1.out.cell
          go_wp2_with (first | (refine wpList_load_mid rfl _ _ rfl lb 0 rfl [.int .i64 verts, .int .i64 arcs, .int .i64 workers, .int .i64 room, .int .i64 res, .int .i64 lex, .int .i64 hh, .int .i64 flag, .int .i64 pending, .int .i64 ask, .int .i64 count, .int .i64 sense, .int .i64 deques, .int .i64 size] _ hra Try.underlying24 rfl HZ14.out ?_) | fail)
          refine (HNU v _).out.mono ?_
          rintro e w3 ⟨rfl, hk⟩
          have D2 := Lib.hid (D1.out.kept hk)
          have O2 := Lib.hid (O1.out.kept hk)
          have X2 := Lib.hid (X1.out.kept hk)
          clear hk D1 O1 X1 hra xl
          have hZ := Blk.new w3 #[.int .i64 0, .int .i64 0, .int .i64 0, .int .i64 0, .int .i64 0, .int .i64 0, .int .i64 0, .int .i64 0, .int .i64 0, .int .i64 0, .int .i64 0, .int .i64 0, .int .i64 0, .int .i64 0, .int .i64 0, .int .i64 0, .int .i64 0, .int .i64 0, .int .i64 0, .bool false, .bool false, .int .i64 0] 48
          have hth := Blk.there hZ 22 rfl
          obtain ⟨W4, hW4⟩ : ∃ W4, (w3.alloc (.cells #[.int .i64 0, .int .i64 0, .int .i64 0, .int .i64 0, .int .i64 0, .int .i64 0, .int .i64 0, .int .i64 0, .int .i64 0, .int .i64 0, .int .i64 0, .int .i64 0, .int .i64 0, .int .i64 0, .int .i64 0, .int .i64 0, .int .i64 0, .int .i64 0, .int .i64 0, .bool false, .bool false, .int .i64 0] 48)).setCells w3.heap.size 0 [.int .i64 verts, .int .i64 arcs, .int .i64 workers, .int .i64 room, .int .i64 res, .int .i64 lex, .int .i64 hh, .int .i64 flag, .int .i64 pending, .int .i64 ask, .int .i64 count, .int .i64 sense, .int .i64 deques, .int .i64 size, .int .i64 1, .int .i64 0, .int .i64 0, .int .i64 0, .int .i64 0, .bool false, .bool false, .int .i64 v] = W4 := ⟨_, rfl⟩
          have hB4 : Blk W4 w3.heap.size #[.int .i64 verts, .int .i64 arcs, .int .i64 workers, .int .i64 room, .int .i64 res, .int .i64 lex, .int .i64 hh, .int .i64 flag, .int .i64 pending, .int .i64 ask, .int .i64 count, .int .i64 sense, .int .i64 deques, .int .i64 size, .int .i64 1, .int .i64 0, .int .i64 0, .int .i64 0, .int .i64 0, .bool false, .bool false, .int .i64 v] 48 ∧ Upd (fun k => k = w3.heap.size) (w3.alloc (.cells #[.int .i64 0, .int .i64 0, .int .i64 0, .int .i64 0, .int .i64 0, .int .i64 0, .int .i64 0, .int .i64 0, .int .i64 0, .int .i64 0, .int .i64 0, .int .i64 0, .int .i64 0, .int .i64 0, .int .i64 0, .int .i64 0, .int .i64 0, .int .i64 0, .int .i64 0, .bool false, .bool false, .int .i64 0] 48)) W4 := by rw [← hW4]; exact Blk.alls hZ [.int .i64 verts, .int .i64 arcs, .int .i64 workers, .int .i64 room, .int .i64 res, .int .i64 lex, .int .i64 hh, .int .i64 flag, .int .i64 pending, .int .i64 ask, .int .i64 count, .int .i64 sense, .int .i64 deques, .int .i64 size, .int .i64 1, .int .i64 0, .int .i64 0, .int .i64 0, .int .i64 0, .bool false, .bool false, .int .i64 v] rfl
          have PB0 : Hid (PB W4 w3.heap.size 48 (⟨verts, arcs, workers, room, res, lex, hh, flag, pending, ask, count, sense, deques, size⟩ : Lay) 1 ⟨0, 0, 0, 0, false, false⟩ [.int .i64 v]) := Lib.hid hB4.1
          have KW : Hid (Kept w3 W4) := Lib.hid (((Upd.refl (fun _ => False) w3).alloc _).then hB4.2 (fun i hi e => by omega))
          have D3 := Lib.hid (D2.out.kept KW.out)
          have HMB : Hid (B ≤ w3.heap.size ∧ ¬ w3.heap.size = g ∧ ¬ w3.heap.size = bb ∧ ob < w3.heap.size) := Lib.hid (by have n := D2.out.nz; have := D2.out.b.head.lt; have := D2.out.b.row.lt; have := X2.out.lt; omega)
          have hzn := (show (Try.prog.info? 48).map (·.size) = some 22 from HZu.out)
          clear hB4 D2 hZ
          go_upto_region 21 with (first | (refine wpList_store_mid rfl _ _ _ rfl w3.heap.size 0 #[.int .i64 verts, .int .i64 arcs, .int .i64 workers, .int .i64 room, .int .i64 res, .int .i64 lex, .int .i64 hh, .int .i64 flag, .int .i64 pending, .int .i64 ask, .int .i64 count, .int .i64 sense, .int .i64 deques, .int .i64 size, .int .i64 1, .int .i64 0, .int .i64 0, .int .i64 0, .int .i64 0, .bool false, .bool false, .int .i64 v] rfl rfl hth hzn (all_oneCell_toArray (cs := [.int .i64 verts, .int .i64 arcs, .int .i64 workers, .int .i64 room, .int .i64 res, .int .i64 lex, .int .i64 hh, .int .i64 flag, .int .i64 pending, .int .i64 ask, .int .i64 count, .int .i64 sense, .int .i64 deques, .int .i64 size, .int .i64 1, .int .i64 0, .int .i64 0, .int .i64 0, .int .i64 0, .bool false, .bool false, .int .i64 v]) (by simp [Value.oneCell'])) ?_; simp only [hW4]) | fail)
          clear hth hW4 hzn
          obtain ⟨mb, hmb⟩ : ∃ mb, w3.heap.size = mb := ⟨_, rfl⟩
          rw [hmb] at PB0 HMB ⊢
          have HMS := Lib.hid hmb
          clear hmb
          have AL5 := push_full HRW.out.1 HZR.out v false
          have HAL := Lib.hid AL5
          clear AL5
          have hzr : decide ((n : Int) < room) = false := by have h1 := HRM.out; have h2 := HZR.out; have h3 := O2.out.1; have h4 := HRW.out.1.room; simp; omega
          have hzr2 : ¬ (n : Int) < room := by simpa using hzr
          have C0 : (∀ i, W4.drew.cell? ⟨lb, i, none⟩ = (#[.int .i64 verts, .int .i64 arcs, .int .i64 workers, .int .i64 room, .int .i64 res, .int .i64 lex, .int .i64 hh, .int .i64 flag, .int .i64 pending, .int .i64 ask, .int .i64 count, .int .i64 sense, .int .i64 deques, .int .i64 size] : Array Value)[i]?) := D3.out.l.cell
          go_region_held3 (fun w' => (∀ i, w'.cell? ⟨lb, i, none⟩ = (#[.int .i64 verts, .int .i64 arcs, .int .i64 workers, .int .i64 room, .int .i64 res, .int .i64 lex, .int .i64 hh, .int .i64 flag, .int .i64 pending, .int .i64 ask, .int .i64 count, .int .i64 sense, .int .i64 deques, .int .i64 size] : Array Value)[i]?))
            (first | exact C0 | exact C1)
            (first
              | (go_at_call 20; refine (alone_push HG1.out (PB0.out.kept (Upd.refl _ _).drew) (D3.out.b.kept (Upd.refl _ _).drew) (by have := HMB.out; omega) HAL.out (by omega)).mono ?_; rintro e W5 ⟨rfl, hK⟩; have D5 := Lib.hid ((D3.out.kept (Upd.refl _ _).drew).mach hK HMB.out.1); have KU : Upd (fun i => i = g ∨ i = mb) w3 W5 := ((KW.out.wide (fun _ _ f => f.elim)).drew).trans hK.2.2; have O5 := Lib.hid (O2.out.upd KU (fun q h1 h2 e => by have n := D3.out.nz; have := HMS.out; have := HMB.out; omega)); have X5 := Lib.hid (X2.out.upd KU (by have n := D3.out.nz; have := HMB.out; have := HOB.out; omega)); have PB5 := Lib.hid hK.1; have C1 : (∀ i, W5.cell? ⟨lb, i, none⟩ = (#[.int .i64 verts, .int .i64 arcs, .int .i64 workers, .int .i64 room, .int .i64 res, .int .i64 lex, .int .i64 hh, .int .i64 flag, .int .i64 pending, .int .i64 ask, .int .i64 count, .int .i64 sense, .int .i64 deques, .int .i64 size] : Array Value)[i]?) := D5.out.l.cell; clear hK KU)
              | (go_at_call 21; refine (push_ok PB5.out).mono ?_; rintro e W6 ⟨rfl, rfl⟩))
          clear C0 C1 D3 O2 X2 PB0 KW HAL hzr hzr2
          go_wp2_with fail
          refine (push_ok PB5.out).mono ?_
          rintro e w6 ⟨rfl, rfl⟩
          simp only [Bool.and_true, Bool.and_self, Bool.and_false]
          clear PB5 HMS HMB
          have hra := Blk.range D5.out.l
          go_wp2_with (first | (refine wpList_load_mid rfl _ _ rfl lb 0 rfl [.int .i64 verts, .int .i64 arcs, .int .i64 workers, .int .i64 room, .int .i64 res, .int .i64 lex, .int .i64 hh, .int .i64 flag, .int .i64 pending, .int .i64 ask, .int .i64 count, .int .i64 sense, .int .i64 deques, .int .i64 size] _ hra Try.underlying24 rfl HZ14.out ?_) | fail)
          refine (HH1 _ _ _ _ _ _ n D5.out.b HRW.out.1 (by have := O5.out.1; omega)).out.mono ?_
          rintro e w11 ⟨ha, hc, rfl, hR, hk⟩
          have DB := Lib.hid (D5.out.kept hk)
          have OB := Lib.hid (O5.out.kept hk)
          have HR := Lib.hid hR
          clear hR hk hra D5 O5
          go_wp2_with fail
          refine (same_at _ _ _ _ _ _ _ HR.out OB.out.rd (by have := OB.out.1; omega) (by have h1 := HRW.out.1.big; have h2 := HRW.out.1.t0; have := OB.out.1; omega)).mono ?_
          rintro e w12 ⟨rfl, hk⟩
          have DC := Lib.hid (DB.out.kept hk)
          have OC := Lib.hid (OB.out.kept hk)
          clear hk DB OB HR
          have cl := DC.out.l.cell
          go_wp2_with fail
          refine (HH0 _ _ _ _ _ _ 0 DC.out.b HRW.out.2 rfl).out.mono ?_
          rintro e w13 ⟨ha2, hc2, rfl, -, hk⟩
          have DD := Lib.hid (DC.out.kept hk)
          have OD := Lib.hid (OC.out.kept hk)
          clear hk DC OC cl
          go_wp2_with fail
          go_roundw
          case rel => exact ⟨j + 1, _, _, _, _, _, T, rfl, by go_num, by omega, OD, DD, HRW, Lib.hid (by have h1 := HBD.out; omega)⟩
          case measure => simp [intOf]; omega
      · skip
        by_cases hzr0 : L.length < 2 ^ r
        · have HZR := Lib.hid hzr0
          clear hzr0
          as_aux_lemma =>
          have e0 : (wh % 4 == 0) = false := by simp; omega
          have e1 : (wh % 4 == 1) = true := by simp; omega
          have hra := Blk.range D1.out.l
          have xl := X1.out.cell
          go_wp2_with (first | (refine wpList_load_mid rfl _ _ rfl lb 0 rfl [.int .i64 verts, .int .i64 arcs, .int .i64 workers, .int .i64 room, .int .i64 res, .int .i64 lex, .int .i64 hh, .int .i64 flag, .int .i64 pending, .int .i64 ask, .int .i64 count, .int .i64 sense, .int .i64 deques, .int .i64 size] _ hra Try.underlying24 rfl HZ14.out ?_) | fail)
          refine (HNU v _).out.mono ?_
          rintro e w3 ⟨rfl, hk⟩
          have D2 := Lib.hid (D1.out.kept hk)
          have O2 := Lib.hid (O1.out.kept hk)
          have X2 := Lib.hid (X1.out.kept hk)
          clear hk D1 O1 X1 hra xl
          have hZ := Blk.new w3 #[.int .i64 0, .int .i64 0, .int .i64 0, .int .i64 0, .int .i64 0, .int .i64 0, .int .i64 0, .int .i64 0, .int .i64 0, .int .i64 0, .int .i64 0, .int .i64 0, .int .i64 0, .int .i64 0, .int .i64 0, .int .i64 0, .int .i64 0, .int .i64 0, .int .i64 0, .bool false, .bool false, .int .i64 0] 48
          have hth := Blk.there hZ 22 rfl
          obtain ⟨W4, hW4⟩ : ∃ W4, (w3.alloc (.cells #[.int .i64 0, .int .i64 0, .int .i64 0, .int .i64 0, .int .i64 0, .int .i64 0, .int .i64 0, .int .i64 0, .int .i64 0, .int .i64 0, .int .i64 0, .int .i64 0, .int .i64 0, .int .i64 0, .int .i64 0, .int .i64 0, .int .i64 0, .int .i64 0, .int .i64 0, .bool false, .bool false, .int .i64 0] 48)).setCells w3.heap.size 0 [.int .i64 verts, .int .i64 arcs, .int .i64 workers, .int .i64 room, .int .i64 res, .int .i64 lex, .int .i64 hh, .int .i64 flag, .int .i64 pending, .int .i64 ask, .int .i64 count, .int .i64 sense, .int .i64 deques, .int .i64 size, .int .i64 1, .int .i64 0, .int .i64 0, .int .i64 0, .int .i64 0, .bool false, .bool false, .int .i64 v] = W4 := ⟨_, rfl⟩
          have hB4 : Blk W4 w3.heap.size #[.int .i64 verts, .int .i64 arcs, .int .i64 workers, .int .i64 room, .int .i64 res, .int .i64 lex, .int .i64 hh, .int .i64 flag, .int .i64 pending, .int .i64 ask, .int .i64 count, .int .i64 sense, .int .i64 deques, .int .i64 size, .int .i64 1, .int .i64 0, .int .i64 0, .int .i64 0, .int .i64 0, .bool false, .bool false, .int .i64 v] 48 ∧ Upd (fun k => k = w3.heap.size) (w3.alloc (.cells #[.int .i64 0, .int .i64 0, .int .i64 0, .int .i64 0, .int .i64 0, .int .i64 0, .int .i64 0, .int .i64 0, .int .i64 0, .int .i64 0, .int .i64 0, .int .i64 0, .int .i64 0, .int .i64 0, .int .i64 0, .int .i64 0, .int .i64 0, .int .i64 0, .int .i64 0, .bool false, .bool false, .int .i64 0] 48)) W4 := by rw [← hW4]; exact Blk.alls hZ [.int .i64 verts, .int .i64 arcs, .int .i64 workers, .int .i64 room, .int .i64 res, .int .i64 lex, .int .i64 hh, .int .i64 flag, .int .i64 pending, .int .i64 ask, .int .i64 count, .int .i64 sense, .int .i64 deques, .int .i64 size, .int .i64 1, .int .i64 0, .int .i64 0, .int .i64 0, .int .i64 0, .bool false, .bool false, .int .i64 v] rfl
          have PB0 : Hid (PB W4 w3.heap.size 48 (⟨verts, arcs, workers, room, res, lex, hh, flag, pending, ask, count, sense, deques, size⟩ : Lay) 1 ⟨0, 0, 0, 0, false, false⟩ [.int .i64 v]) := Lib.hid hB4.1
          have KW : Hid (Kept w3 W4) := Lib.hid (((Upd.refl (fun _ => False) w3).alloc _).then hB4.2 (fun i hi e => by omega))
          have D3 := Lib.hid (D2.out.kept KW.out)
          have HMB : Hid (B ≤ w3.heap.size ∧ ¬ w3.heap.size = g ∧ ¬ w3.heap.size = bb ∧ ob < w3.heap.size) := Lib.hid (by have n := D2.out.nz; have := D2.out.b.head.lt; have := D2.out.b.row.lt; have := X2.out.lt; omega)
          have hzn := (show (Try.prog.info? 48).map (·.size) = some 22 from HZu.out)
          clear hB4 D2 hZ
          go_upto_region 21 with (first | (refine wpList_store_mid rfl _ _ _ rfl w3.heap.size 0 #[.int .i64 verts, .int .i64 arcs, .int .i64 workers, .int .i64 room, .int .i64 res, .int .i64 lex, .int .i64 hh, .int .i64 flag, .int .i64 pending, .int .i64 ask, .int .i64 count, .int .i64 sense, .int .i64 deques, .int .i64 size, .int .i64 1, .int .i64 0, .int .i64 0, .int .i64 0, .int .i64 0, .bool false, .bool false, .int .i64 v] rfl rfl hth hzn (all_oneCell_toArray (cs := [.int .i64 verts, .int .i64 arcs, .int .i64 workers, .int .i64 room, .int .i64 res, .int .i64 lex, .int .i64 hh, .int .i64 flag, .int .i64 pending, .int .i64 ask, .int .i64 count, .int .i64 sense, .int .i64 deques, .int .i64 size, .int .i64 1, .int .i64 0, .int .i64 0, .int .i64 0, .int .i64 0, .bool false, .bool false, .int .i64 v]) (by simp [Value.oneCell'])) ?_; simp only [hW4]) | fail)
          clear hth hW4 hzn
          obtain ⟨mb, hmb⟩ : ∃ mb, w3.heap.size = mb := ⟨_, rfl⟩
          rw [hmb] at PB0 HMB ⊢
          have HMS := Lib.hid hmb
          clear hmb
          obtain ⟨ys, RW5, AH5, AL5⟩ := push_to HRW.out.1 HZR.out (by have := HBD.out; omega) v false
          have HRW5 : Hid (Row tp r ys T (L ++ [v]) ∧ Row tq r ys 0 []) := Lib.hid ⟨RW5, HRW.out.2.ahead AH5 HTQ.out⟩
          have HAL := Lib.hid AL5
          clear AL5
          have hzr : decide ((n : Int) < room) = true := by have h1 := HRM.out; have h2 := HZR.out; have h3 := O2.out.1; have h4 := HRW.out.1.room; simp; omega
          have hzr2 : (n : Int) < room := by simpa using hzr
          have C0 : (∀ i, W4.drew.cell? ⟨lb, i, none⟩ = (#[.int .i64 verts, .int .i64 arcs, .int .i64 workers, .int .i64 room, .int .i64 res, .int .i64 lex, .int .i64 hh, .int .i64 flag, .int .i64 pending, .int .i64 ask, .int .i64 count, .int .i64 sense, .int .i64 deques, .int .i64 size] : Array Value)[i]?) := D3.out.l.cell
          go_region_held3 (fun w' => (∀ i, w'.cell? ⟨lb, i, none⟩ = (#[.int .i64 verts, .int .i64 arcs, .int .i64 workers, .int .i64 room, .int .i64 res, .int .i64 lex, .int .i64 hh, .int .i64 flag, .int .i64 pending, .int .i64 ask, .int .i64 count, .int .i64 sense, .int .i64 deques, .int .i64 size] : Array Value)[i]?))
            (first | exact C0 | exact C1)
            (first
              | (go_at_call 20; refine (alone_push HG1.out (PB0.out.kept (Upd.refl _ _).drew) (D3.out.b.kept (Upd.refl _ _).drew) (by have := HMB.out; omega) HAL.out (by omega)).mono ?_; rintro e W5 ⟨rfl, hK⟩; have D5 := Lib.hid ((D3.out.kept (Upd.refl _ _).drew).mach hK HMB.out.1); have KU : Upd (fun i => i = g ∨ i = mb) w3 W5 := ((KW.out.wide (fun _ _ f => f.elim)).drew).trans hK.2.2; have O5 := Lib.hid (O2.out.upd KU (fun q h1 h2 e => by have n := D3.out.nz; have := HMS.out; have := HMB.out; omega)); have X5 := Lib.hid (X2.out.upd KU (by have n := D3.out.nz; have := HMB.out; have := HOB.out; omega)); have PB5 := Lib.hid hK.1; have C1 : (∀ i, W5.cell? ⟨lb, i, none⟩ = (#[.int .i64 verts, .int .i64 arcs, .int .i64 workers, .int .i64 room, .int .i64 res, .int .i64 lex, .int .i64 hh, .int .i64 flag, .int .i64 pending, .int .i64 ask, .int .i64 count, .int .i64 sense, .int .i64 deques, .int .i64 size] : Array Value)[i]?) := D5.out.l.cell; clear hK KU)
              | (go_at_call 21; refine (push_ok PB5.out).mono ?_; rintro e W6 ⟨rfl, rfl⟩))
          clear C0 C1 D3 O2 X2 PB0 KW HAL hzr hzr2
          go_wp2_with fail
          refine (push_ok PB5.out).mono ?_
          rintro e w6 ⟨rfl, rfl⟩
          simp only [Bool.and_true, Bool.and_self, Bool.and_false]
          clear PB5 HMS HMB
          have xl := X5.out.cell
          obtain ⟨i0, hi0, hz0, hz1, hz2⟩ := info_parts infoA64
          have ho := O5.out
          have hbs : B ≤ W5.heap.size := D5.out.nz.2.2.2.2.2.2.2.2
          have hn9 : n ≤ 100000 := by have h1 := HRW.out.1.big; have h2 := HRW.out.1.t0; have := O5.out.1; omega
          go_upto_region 35 with (first | (at_builtin; refine wpList_offpush rfl _ _ 29 rfl B 2 i0 Try.underlying29 hi0 hz0 hz1 hz2 ho v rfl rfl hn9 hbs ?_; intro a7 c7 w7 hO7 hU7; clear hi0 hz0 hz1 hz2 ho hbs hn9) | fail)
          have D7 := Lib.hid (D5.out.far hU7)
          have O7 := Lib.hid hO7
          clear hO7 hU7 D5 O5 X5 xl
          have hra := Blk.range D7.out.l
          go_wp2_with (first | (refine wpList_load_mid rfl _ _ rfl lb 0 rfl [.int .i64 verts, .int .i64 arcs, .int .i64 workers, .int .i64 room, .int .i64 res, .int .i64 lex, .int .i64 hh, .int .i64 flag, .int .i64 pending, .int .i64 ask, .int .i64 count, .int .i64 sense, .int .i64 deques, .int .i64 size] _ hra Try.underlying24 rfl HZ14.out ?_) | fail)
          refine (HH1 _ _ _ _ _ _ (n + 1) D7.out.b HRW5.out.1 (by have := O7.out.1; omega)).out.mono ?_
          rintro e w11 ⟨ha, hc, rfl, hR, hk⟩
          have DB := Lib.hid (D7.out.kept hk)
          have OB := Lib.hid (O7.out.kept hk)
          have HR := Lib.hid hR
          clear hR hk hra D7 O7
          go_wp2_with fail
          refine (same_at _ _ _ _ _ _ _ HR.out OB.out.rd (by have := OB.out.1; omega) (by have h1 := HRW5.out.1.big; have h2 := HRW5.out.1.t0; have := OB.out.1; omega)).mono ?_
          rintro e w12 ⟨rfl, hk⟩
          have DC := Lib.hid (DB.out.kept hk)
          have OC := Lib.hid (OB.out.kept hk)
          clear hk DB OB HR
          have cl := DC.out.l.cell
          go_wp2_with fail
          refine (HH0 _ _ _ _ _ _ 0 DC.out.b HRW5.out.2 rfl).out.mono ?_
          rintro e w13 ⟨ha2, hc2, rfl, -, hk⟩
          have DD := Lib.hid (DC.out.kept hk)
          have OD := Lib.hid (OC.out.kept hk)
          clear hk DC OC cl
          go_wp2_with fail
          go_roundw
          case rel => exact ⟨j + 1, _, _, _, _, _, T, rfl, by go_num, by omega, OD, DD, HRW5, Lib.hid (by have h1 := HBD.out; simp; omega)⟩
          case measure => simp [intOf]; omega
        · have HZR : Hid (L.length = 2 ^ r) := Lib.hid (by have := HRW.out.1.room; omega)
          clear hzr0
          as_aux_lemma =>
          have e0 : (wh % 4 == 0) = false := by simp; omega
          have e1 : (wh % 4 == 1) = true := by simp; omega
          have hra := Blk.range D1.out.l
          have xl := X1.out.cell
          go_wp2_with (first | (refine wpList_load_mid rfl _ _ rfl lb 0 rfl [.int .i64 verts, .int .i64 arcs, .int .i64 workers, .int .i64 room, .int .i64 res, .int .i64 lex, .int .i64 hh, .int .i64 flag, .int .i64 pending, .int .i64 ask, .int .i64 count, .int .i64 sense, .int .i64 deques, .int .i64 size] _ hra Try.underlying24 rfl HZ14.out ?_) | fail)
          refine (HNU v _).out.mono ?_
          rintro e w3 ⟨rfl, hk⟩
          have D2 := Lib.hid (D1.out.kept hk)
          have O2 := Lib.hid (O1.out.kept hk)
          have X2 := Lib.hid (X1.out.kept hk)
          clear hk D1 O1 X1 hra xl
          have hZ := Blk.new w3 #[.int .i64 0, .int .i64 0, .int .i64 0, .int .i64 0, .int .i64 0, .int .i64 0, .int .i64 0, .int .i64 0, .int .i64 0, .int .i64 0, .int .i64 0, .int .i64 0, .int .i64 0, .int .i64 0, .int .i64 0, .int .i64 0, .int .i64 0, .int .i64 0, .int .i64 0, .bool false, .bool false, .int .i64 0] 48
          have hth := Blk.there hZ 22 rfl
          obtain ⟨W4, hW4⟩ : ∃ W4, (w3.alloc (.cells #[.int .i64 0, .int .i64 0, .int .i64 0, .int .i64 0, .int .i64 0, .int .i64 0, .int .i64 0, .int .i64 0, .int .i64 0, .int .i64 0, .int .i64 0, .int .i64 0, .int .i64 0, .int .i64 0, .int .i64 0, .int .i64 0, .int .i64 0, .int .i64 0, .int .i64 0, .bool false, .bool false, .int .i64 0] 48)).setCells w3.heap.size 0 [.int .i64 verts, .int .i64 arcs, .int .i64 workers, .int .i64 room, .int .i64 res, .int .i64 lex, .int .i64 hh, .int .i64 flag, .int .i64 pending, .int .i64 ask, .int .i64 count, .int .i64 sense, .int .i64 deques, .int .i64 size, .int .i64 1, .int .i64 0, .int .i64 0, .int .i64 0, .int .i64 0, .bool false, .bool false, .int .i64 v] = W4 := ⟨_, rfl⟩
          have hB4 : Blk W4 w3.heap.size #[.int .i64 verts, .int .i64 arcs, .int .i64 workers, .int .i64 room, .int .i64 res, .int .i64 lex, .int .i64 hh, .int .i64 flag, .int .i64 pending, .int .i64 ask, .int .i64 count, .int .i64 sense, .int .i64 deques, .int .i64 size, .int .i64 1, .int .i64 0, .int .i64 0, .int .i64 0, .int .i64 0, .bool false, .bool false, .int .i64 v] 48 ∧ Upd (fun k => k = w3.heap.size) (w3.alloc (.cells #[.int .i64 0, .int .i64 0, .int .i64 0, .int .i64 0, .int .i64 0, .int .i64 0, .int .i64 0, .int .i64 0, .int .i64 0, .int .i64 0, .int .i64 0, .int .i64 0, .int .i64 0, .int .i64 0, .int .i64 0, .int .i64 0, .int .i64 0, .int .i64 0, .int .i64 0, .bool false, .bool false, .int .i64 0] 48)) W4 := by rw [← hW4]; exact Blk.alls hZ [.int .i64 verts, .int .i64 arcs, .int .i64 workers, .int .i64 room, .int .i64 res, .int .i64 lex, .int .i64 hh, .int .i64 flag, .int .i64 pending, .int .i64 ask, .int .i64 count, .int .i64 sense, .int .i64 deques, .int .i64 size, .int .i64 1, .int .i64 0, .int .i64 0, .int .i64 0, .int .i64 0, .bool false, .bool false, .int .i64 v] rfl
          have PB0 : Hid (PB W4 w3.heap.size 48 (⟨verts, arcs, workers, room, res, lex, hh, flag, pending, ask, count, sense, deques, size⟩ : Lay) 1 ⟨0, 0, 0, 0, false, false⟩ [.int .i64 v]) := Lib.hid hB4.1
          have KW : Hid (Kept w3 W4) := Lib.hid (((Upd.refl (fun _ => False) w3).alloc _).then hB4.2 (fun i hi e => by omega))
          have D3 := Lib.hid (D2.out.kept KW.out)
          have HMB : Hid (B ≤ w3.heap.size ∧ ¬ w3.heap.size = g ∧ ¬ w3.heap.size = bb ∧ ob < w3.heap.size) := Lib.hid (by have n := D2.out.nz; have := D2.out.b.head.lt; have := D2.out.b.row.lt; have := X2.out.lt; omega)
          have hzn := (show (Try.prog.info? 48).map (·.size) = some 22 from HZu.out)
          clear hB4 D2 hZ
          go_upto_region 21 with (first | (refine wpList_store_mid rfl _ _ _ rfl w3.heap.size 0 #[.int .i64 verts, .int .i64 arcs, .int .i64 workers, .int .i64 room, .int .i64 res, .int .i64 lex, .int .i64 hh, .int .i64 flag, .int .i64 pending, .int .i64 ask, .int .i64 count, .int .i64 sense, .int .i64 deques, .int .i64 size, .int .i64 1, .int .i64 0, .int .i64 0, .int .i64 0, .int .i64 0, .bool false, .bool false, .int .i64 v] rfl rfl hth hzn (all_oneCell_toArray (cs := [.int .i64 verts, .int .i64 arcs, .int .i64 workers, .int .i64 room, .int .i64 res, .int .i64 lex, .int .i64 hh, .int .i64 flag, .int .i64 pending, .int .i64 ask, .int .i64 count, .int .i64 sense, .int .i64 deques, .int .i64 size, .int .i64 1, .int .i64 0, .int .i64 0, .int .i64 0, .int .i64 0, .bool false, .bool false, .int .i64 v]) (by simp [Value.oneCell'])) ?_; simp only [hW4]) | fail)
          clear hth hW4 hzn
          obtain ⟨mb, hmb⟩ : ∃ mb, w3.heap.size = mb := ⟨_, rfl⟩
          rw [hmb] at PB0 HMB ⊢
          have HMS := Lib.hid hmb
          clear hmb
          have AL5 := push_full HRW.out.1 HZR.out v false
          have HAL := Lib.hid AL5
          clear AL5
          have hzr : decide ((n : Int) < room) = false := by have h1 := HRM.out; have h2 := HZR.out; have h3 := O2.out.1; have h4 := HRW.out.1.room; simp; omega
          have hzr2 : ¬ (n : Int) < room := by simpa using hzr
          have C0 : (∀ i, W4.drew.cell? ⟨lb, i, none⟩ = (#[.int .i64 verts, .int .i64 arcs, .int .i64 workers, .int .i64 room, .int .i64 res, .int .i64 lex, .int .i64 hh, .int .i64 flag, .int .i64 pending, .int .i64 ask, .int .i64 count, .int .i64 sense, .int .i64 deques, .int .i64 size] : Array Value)[i]?) := D3.out.l.cell
          go_region_held3 (fun w' => (∀ i, w'.cell? ⟨lb, i, none⟩ = (#[.int .i64 verts, .int .i64 arcs, .int .i64 workers, .int .i64 room, .int .i64 res, .int .i64 lex, .int .i64 hh, .int .i64 flag, .int .i64 pending, .int .i64 ask, .int .i64 count, .int .i64 sense, .int .i64 deques, .int .i64 size] : Array Value)[i]?))
            (first | exact C0 | exact C1)
            (first
              | (go_at_call 20; refine (alone_push HG1.out (PB0.out.kept (Upd.refl _ _).drew) (D3.out.b.kept (Upd.refl _ _).drew) (by have := HMB.out; omega) HAL.out (by omega)).mono ?_; rintro e W5 ⟨rfl, hK⟩; have D5 := Lib.hid ((D3.out.kept (Upd.refl _ _).drew).mach hK HMB.out.1); have KU : Upd (fun i => i = g ∨ i = mb) w3 W5 := ((KW.out.wide (fun _ _ f => f.elim)).drew).trans hK.2.2; have O5 := Lib.hid (O2.out.upd KU (fun q h1 h2 e => by have n := D3.out.nz; have := HMS.out; have := HMB.out; omega)); have X5 := Lib.hid (X2.out.upd KU (by have n := D3.out.nz; have := HMB.out; have := HOB.out; omega)); have PB5 := Lib.hid hK.1; have C1 : (∀ i, W5.cell? ⟨lb, i, none⟩ = (#[.int .i64 verts, .int .i64 arcs, .int .i64 workers, .int .i64 room, .int .i64 res, .int .i64 lex, .int .i64 hh, .int .i64 flag, .int .i64 pending, .int .i64 ask, .int .i64 count, .int .i64 sense, .int .i64 deques, .int .i64 size] : Array Value)[i]?) := D5.out.l.cell; clear hK KU)
              | (go_at_call 21; refine (push_ok PB5.out).mono ?_; rintro e W6 ⟨rfl, rfl⟩))
          clear C0 C1 D3 O2 X2 PB0 KW HAL hzr hzr2
          go_wp2_with fail
          refine (push_ok PB5.out).mono ?_
          rintro e w6 ⟨rfl, rfl⟩
          simp only [Bool.and_true, Bool.and_self, Bool.and_false]
          clear PB5 HMS HMB
          have hra := Blk.range D5.out.l
          go_wp2_with (first | (refine wpList_load_mid rfl _ _ rfl lb 0 rfl [.int .i64 verts, .int .i64 arcs, .int .i64 workers, .int .i64 room, .int .i64 res, .int .i64 lex, .int .i64 hh, .int .i64 flag, .int .i64 pending, .int .i64 ask, .int .i64 count, .int .i64 sense, .int .i64 deques, .int .i64 size] _ hra Try.underlying24 rfl HZ14.out ?_) | fail)
          refine (HH1 _ _ _ _ _ _ n D5.out.b HRW.out.1 (by have := O5.out.1; omega)).out.mono ?_
          rintro e w11 ⟨ha, hc, rfl, hR, hk⟩
          have DB := Lib.hid (D5.out.kept hk)
          have OB := Lib.hid (O5.out.kept hk)
          have HR := Lib.hid hR
          clear hR hk hra D5 O5
          go_wp2_with fail
          refine (same_at _ _ _ _ _ _ _ HR.out OB.out.rd (by have := OB.out.1; omega) (by have h1 := HRW.out.1.big; have h2 := HRW.out.1.t0; have := OB.out.1; omega)).mono ?_
          rintro e w12 ⟨rfl, hk⟩
          have DC := Lib.hid (DB.out.kept hk)
          have OC := Lib.hid (OB.out.kept hk)
          clear hk DB OB HR
          have cl := DC.out.l.cell
          go_wp2_with fail
          refine (HH0 _ _ _ _ _ _ 0 DC.out.b HRW.out.2 rfl).out.mono ?_
          rintro e w13 ⟨ha2, hc2, rfl, -, hk⟩
          have DD := Lib.hid (DC.out.kept hk)
          have OD := Lib.hid (OC.out.kept hk)
          clear hk DC OC cl
          go_wp2_with fail
          go_roundw
          case rel => exact ⟨j + 1, _, _, _, _, _, T, rfl, by go_num, by omega, OD, DD, HRW, Lib.hid (by have h1 := HBD.out; omega)⟩
          case measure => simp [intOf]; omega
      · skip
        by_cases h0 : L.length = 0
        · as_aux_lemma =>
          have e0 : (wh % 4 == 0) = false := by simp; omega
          have e1 : (wh % 4 == 1) = false := by simp; omega
          have e2 : (wh % 4 == 2) = true := by simp; omega
          obtain rfl : L = [] := List.eq_nil_of_length_eq_zero (by omega)
          obtain rfl : n = 0 := by have := O1.out.1; simpa using this.symm
          have hra := Blk.range D1.out.l
          have xl := X1.out.cell
          go_wp2_with (first | (refine wpList_load_mid rfl _ _ rfl lb 0 rfl [.int .i64 verts, .int .i64 arcs, .int .i64 workers, .int .i64 room, .int .i64 res, .int .i64 lex, .int .i64 hh, .int .i64 flag, .int .i64 pending, .int .i64 ask, .int .i64 count, .int .i64 sense, .int .i64 deques, .int .i64 size] _ hra Try.underlying24 rfl HZ14.out ?_) | fail)
          refine (HNP _).out.mono ?_
          rintro e w3 ⟨rfl, hk⟩
          have D2 := Lib.hid (D1.out.kept hk)
          have O2 := Lib.hid (O1.out.kept hk)
          have X2 := Lib.hid (X1.out.kept hk)
          clear hk D1 O1 X1 hra xl
          have hZ := Blk.new w3 #[.int .i64 0, .int .i64 0, .int .i64 0, .int .i64 0, .int .i64 0, .int .i64 0, .int .i64 0, .int .i64 0, .int .i64 0, .int .i64 0, .int .i64 0, .int .i64 0, .int .i64 0, .int .i64 0, .int .i64 0, .int .i64 0, .int .i64 0, .int .i64 0, .int .i64 0, .bool false, .bool false] 51
          have hth := Blk.there hZ 21 rfl
          obtain ⟨W4, hW4⟩ : ∃ W4, (w3.alloc (.cells #[.int .i64 0, .int .i64 0, .int .i64 0, .int .i64 0, .int .i64 0, .int .i64 0, .int .i64 0, .int .i64 0, .int .i64 0, .int .i64 0, .int .i64 0, .int .i64 0, .int .i64 0, .int .i64 0, .int .i64 0, .int .i64 0, .int .i64 0, .int .i64 0, .int .i64 0, .bool false, .bool false] 51)).setCells w3.heap.size 0 [.int .i64 verts, .int .i64 arcs, .int .i64 workers, .int .i64 room, .int .i64 res, .int .i64 lex, .int .i64 hh, .int .i64 flag, .int .i64 pending, .int .i64 ask, .int .i64 count, .int .i64 sense, .int .i64 deques, .int .i64 size, .int .i64 1, .int .i64 0, .int .i64 0, .int .i64 0, .int .i64 0, .bool false, .bool false] = W4 := ⟨_, rfl⟩
          have hB4 : Blk W4 w3.heap.size #[.int .i64 verts, .int .i64 arcs, .int .i64 workers, .int .i64 room, .int .i64 res, .int .i64 lex, .int .i64 hh, .int .i64 flag, .int .i64 pending, .int .i64 ask, .int .i64 count, .int .i64 sense, .int .i64 deques, .int .i64 size, .int .i64 1, .int .i64 0, .int .i64 0, .int .i64 0, .int .i64 0, .bool false, .bool false] 51 ∧ Upd (fun k => k = w3.heap.size) (w3.alloc (.cells #[.int .i64 0, .int .i64 0, .int .i64 0, .int .i64 0, .int .i64 0, .int .i64 0, .int .i64 0, .int .i64 0, .int .i64 0, .int .i64 0, .int .i64 0, .int .i64 0, .int .i64 0, .int .i64 0, .int .i64 0, .int .i64 0, .int .i64 0, .int .i64 0, .int .i64 0, .bool false, .bool false] 51)) W4 := by rw [← hW4]; exact Blk.alls hZ [.int .i64 verts, .int .i64 arcs, .int .i64 workers, .int .i64 room, .int .i64 res, .int .i64 lex, .int .i64 hh, .int .i64 flag, .int .i64 pending, .int .i64 ask, .int .i64 count, .int .i64 sense, .int .i64 deques, .int .i64 size, .int .i64 1, .int .i64 0, .int .i64 0, .int .i64 0, .int .i64 0, .bool false, .bool false] rfl
          have PB0 : Hid (PB W4 w3.heap.size 51 (⟨verts, arcs, workers, room, res, lex, hh, flag, pending, ask, count, sense, deques, size⟩ : Lay) 1 ⟨0, 0, 0, 0, false, false⟩ []) := Lib.hid hB4.1
          have KW : Hid (Kept w3 W4) := Lib.hid (((Upd.refl (fun _ => False) w3).alloc _).then hB4.2 (fun i hi e => by omega))
          have D3 := Lib.hid (D2.out.kept KW.out)
          have HMB : Hid (B ≤ w3.heap.size ∧ ¬ w3.heap.size = g ∧ ¬ w3.heap.size = bb ∧ ob < w3.heap.size) := Lib.hid (by have n := D2.out.nz; have := D2.out.b.head.lt; have := D2.out.b.row.lt; have := X2.out.lt; omega)
          have hzn := (show (Try.prog.info? 51).map (·.size) = some 21 from HZo.out)
          clear hB4 D2 hZ
          go_upto_region 27 with (first | (refine wpList_store_mid rfl _ _ _ rfl w3.heap.size 0 #[.int .i64 verts, .int .i64 arcs, .int .i64 workers, .int .i64 room, .int .i64 res, .int .i64 lex, .int .i64 hh, .int .i64 flag, .int .i64 pending, .int .i64 ask, .int .i64 count, .int .i64 sense, .int .i64 deques, .int .i64 size, .int .i64 1, .int .i64 0, .int .i64 0, .int .i64 0, .int .i64 0, .bool false, .bool false] rfl rfl hth hzn (all_oneCell_toArray (cs := [.int .i64 verts, .int .i64 arcs, .int .i64 workers, .int .i64 room, .int .i64 res, .int .i64 lex, .int .i64 hh, .int .i64 flag, .int .i64 pending, .int .i64 ask, .int .i64 count, .int .i64 sense, .int .i64 deques, .int .i64 size, .int .i64 1, .int .i64 0, .int .i64 0, .int .i64 0, .int .i64 0, .bool false, .bool false]) (by simp [Value.oneCell'])) ?_; simp only [hW4]) | fail)
          clear hth hW4 hzn
          obtain ⟨mb, hmb⟩ : ∃ mb, w3.heap.size = mb := ⟨_, rfl⟩
          rw [hmb] at PB0 HMB ⊢
          have HMS := Lib.hid hmb
          clear hmb
          have HAL := Lib.hid (pop_none HRW.out.1 false)
          go_wp2_with fail
          refine (alone_pop HG1.out PB0.out D3.out.b (by have := HMB.out; omega) HAL.out (by omega)).mono ?_
          rintro e W5 ⟨rfl, hK⟩
          have D5 := Lib.hid (D3.out.mach hK HMB.out.1)
          have KU : Upd (fun i => i = g ∨ i = mb) w3 W5 := (KW.out.wide (fun _ _ f => f.elim)).trans hK.2.2
          have O5 := Lib.hid (O2.out.upd KU (fun q h1 h2 e => by have n := D3.out.nz; have := HMS.out; have := HMB.out; omega))
          have PB5 := Lib.hid hK.1
          clear hK KU D3 O2 X2 PB0 KW HAL
          go_wp2_with fail
          refine (pop_got PB5.out).mono ?_
          rintro e w6 ⟨rfl, rfl⟩
          simp only [took, Bool.and_true, Bool.and_self, Bool.and_false, if_true, if_false, Bool.false_eq_true]
          clear PB5 HMS HMB
          have hra := Blk.range D5.out.l
          go_wp2_with (first | (refine wpList_load_mid rfl _ _ rfl lb 0 rfl [.int .i64 verts, .int .i64 arcs, .int .i64 workers, .int .i64 room, .int .i64 res, .int .i64 lex, .int .i64 hh, .int .i64 flag, .int .i64 pending, .int .i64 ask, .int .i64 count, .int .i64 sense, .int .i64 deques, .int .i64 size] _ hra Try.underlying24 rfl HZ14.out ?_) | fail)
          refine (HH1 _ _ _ _ _ _ 0 D5.out.b HRW.out.1 (by have := O5.out.1; omega)).out.mono ?_
          rintro e w11 ⟨ha, hc, rfl, hR, hk⟩
          have DB := Lib.hid (D5.out.kept hk)
          have OB := Lib.hid (O5.out.kept hk)
          have HR := Lib.hid hR
          clear hR hk hra D5 O5
          go_wp2_with fail
          refine (same_at _ _ _ _ _ _ _ HR.out OB.out.rd (by have := OB.out.1; omega) (by have h1 := HRW.out.1.big; have h2 := HRW.out.1.t0; have := OB.out.1; omega)).mono ?_
          rintro e w12 ⟨rfl, hk⟩
          have DC := Lib.hid (DB.out.kept hk)
          have OC := Lib.hid (OB.out.kept hk)
          clear hk DB OB HR
          have cl := DC.out.l.cell
          go_wp2_with fail
          refine (HH0 _ _ _ _ _ _ 0 DC.out.b HRW.out.2 rfl).out.mono ?_
          rintro e w13 ⟨ha2, hc2, rfl, -, hk⟩
          have DD := Lib.hid (DC.out.kept hk)
          have OD := Lib.hid (OC.out.kept hk)
          clear hk DC OC cl
          go_wp2_with fail
          go_roundw
          case rel => exact ⟨j + 1, _, _, _, _, _, T, rfl, by go_num, by omega, OD, DD, HRW, Lib.hid (by have h1 := HBD.out; simp at h1 ⊢; omega)⟩
          case measure => simp [intOf]; omega
        · by_cases h1 : L.length = 1
          · have HZR := Lib.hid h1
            clear h1
            as_aux_lemma =>
            have e0 : (wh % 4 == 0) = false := by simp; omega
            have e1 : (wh % 4 == 1) = false := by simp; omega
            have e2 : (wh % 4 == 2) = true := by simp; omega
            obtain ⟨x, rfl⟩ : ∃ x, L = [x] := List.length_eq_one_iff.1 HZR.out
            obtain rfl : n = 1 := by have := O1.out.1; simpa using this.symm
            obtain ⟨ys, RW5, AH5, AL5⟩ := pop1_to HRW.out.1 false
            have HRW5 : Hid (Row tp r ys (T + 1) [] ∧ Row tq r ys 0 []) := Lib.hid ⟨RW5, HRW.out.2.ahead AH5 HTQ.out⟩
            have hra := Blk.range D1.out.l
            have xl := X1.out.cell
            go_wp2_with (first | (refine wpList_load_mid rfl _ _ rfl lb 0 rfl [.int .i64 verts, .int .i64 arcs, .int .i64 workers, .int .i64 room, .int .i64 res, .int .i64 lex, .int .i64 hh, .int .i64 flag, .int .i64 pending, .int .i64 ask, .int .i64 count, .int .i64 sense, .int .i64 deques, .int .i64 size] _ hra Try.underlying24 rfl HZ14.out ?_) | fail)
            refine (HNP _).out.mono ?_
            rintro e w3 ⟨rfl, hk⟩
            have D2 := Lib.hid (D1.out.kept hk)
            have O2 := Lib.hid (O1.out.kept hk)
            have X2 := Lib.hid (X1.out.kept hk)
            clear hk D1 O1 X1 hra xl
            have hZ := Blk.new w3 #[.int .i64 0, .int .i64 0, .int .i64 0, .int .i64 0, .int .i64 0, .int .i64 0, .int .i64 0, .int .i64 0, .int .i64 0, .int .i64 0, .int .i64 0, .int .i64 0, .int .i64 0, .int .i64 0, .int .i64 0, .int .i64 0, .int .i64 0, .int .i64 0, .int .i64 0, .bool false, .bool false] 51
            have hth := Blk.there hZ 21 rfl
            obtain ⟨W4, hW4⟩ : ∃ W4, (w3.alloc (.cells #[.int .i64 0, .int .i64 0, .int .i64 0, .int .i64 0, .int .i64 0, .int .i64 0, .int .i64 0, .int .i64 0, .int .i64 0, .int .i64 0, .int .i64 0, .int .i64 0, .int .i64 0, .int .i64 0, .int .i64 0, .int .i64 0, .int .i64 0, .int .i64 0, .int .i64 0, .bool false, .bool false] 51)).setCells w3.heap.size 0 [.int .i64 verts, .int .i64 arcs, .int .i64 workers, .int .i64 room, .int .i64 res, .int .i64 lex, .int .i64 hh, .int .i64 flag, .int .i64 pending, .int .i64 ask, .int .i64 count, .int .i64 sense, .int .i64 deques, .int .i64 size, .int .i64 1, .int .i64 0, .int .i64 0, .int .i64 0, .int .i64 0, .bool false, .bool false] = W4 := ⟨_, rfl⟩
            have hB4 : Blk W4 w3.heap.size #[.int .i64 verts, .int .i64 arcs, .int .i64 workers, .int .i64 room, .int .i64 res, .int .i64 lex, .int .i64 hh, .int .i64 flag, .int .i64 pending, .int .i64 ask, .int .i64 count, .int .i64 sense, .int .i64 deques, .int .i64 size, .int .i64 1, .int .i64 0, .int .i64 0, .int .i64 0, .int .i64 0, .bool false, .bool false] 51 ∧ Upd (fun k => k = w3.heap.size) (w3.alloc (.cells #[.int .i64 0, .int .i64 0, .int .i64 0, .int .i64 0, .int .i64 0, .int .i64 0, .int .i64 0, .int .i64 0, .int .i64 0, .int .i64 0, .int .i64 0, .int .i64 0, .int .i64 0, .int .i64 0, .int .i64 0, .int .i64 0, .int .i64 0, .int .i64 0, .int .i64 0, .bool false, .bool false] 51)) W4 := by rw [← hW4]; exact Blk.alls hZ [.int .i64 verts, .int .i64 arcs, .int .i64 workers, .int .i64 room, .int .i64 res, .int .i64 lex, .int .i64 hh, .int .i64 flag, .int .i64 pending, .int .i64 ask, .int .i64 count, .int .i64 sense, .int .i64 deques, .int .i64 size, .int .i64 1, .int .i64 0, .int .i64 0, .int .i64 0, .int .i64 0, .bool false, .bool false] rfl
            have PB0 : Hid (PB W4 w3.heap.size 51 (⟨verts, arcs, workers, room, res, lex, hh, flag, pending, ask, count, sense, deques, size⟩ : Lay) 1 ⟨0, 0, 0, 0, false, false⟩ []) := Lib.hid hB4.1
            have KW : Hid (Kept w3 W4) := Lib.hid (((Upd.refl (fun _ => False) w3).alloc _).then hB4.2 (fun i hi e => by omega))
            have D3 := Lib.hid (D2.out.kept KW.out)
            have HMB : Hid (B ≤ w3.heap.size ∧ ¬ w3.heap.size = g ∧ ¬ w3.heap.size = bb ∧ ob < w3.heap.size) := Lib.hid (by have n := D2.out.nz; have := D2.out.b.head.lt; have := D2.out.b.row.lt; have := X2.out.lt; omega)
            have hzn := (show (Try.prog.info? 51).map (·.size) = some 21 from HZo.out)
            clear hB4 D2 hZ
            go_upto_region 27 with (first | (refine wpList_store_mid rfl _ _ _ rfl w3.heap.size 0 #[.int .i64 verts, .int .i64 arcs, .int .i64 workers, .int .i64 room, .int .i64 res, .int .i64 lex, .int .i64 hh, .int .i64 flag, .int .i64 pending, .int .i64 ask, .int .i64 count, .int .i64 sense, .int .i64 deques, .int .i64 size, .int .i64 1, .int .i64 0, .int .i64 0, .int .i64 0, .int .i64 0, .bool false, .bool false] rfl rfl hth hzn (all_oneCell_toArray (cs := [.int .i64 verts, .int .i64 arcs, .int .i64 workers, .int .i64 room, .int .i64 res, .int .i64 lex, .int .i64 hh, .int .i64 flag, .int .i64 pending, .int .i64 ask, .int .i64 count, .int .i64 sense, .int .i64 deques, .int .i64 size, .int .i64 1, .int .i64 0, .int .i64 0, .int .i64 0, .int .i64 0, .bool false, .bool false]) (by simp [Value.oneCell'])) ?_; simp only [hW4]) | fail)
            clear hth hW4 hzn
            obtain ⟨mb, hmb⟩ : ∃ mb, w3.heap.size = mb := ⟨_, rfl⟩
            rw [hmb] at PB0 HMB ⊢
            have HMS := Lib.hid hmb
            clear hmb
            have HAL := Lib.hid AL5
            clear AL5
            go_wp2_with fail
            refine (alone_pop HG1.out PB0.out D3.out.b (by have := HMB.out; omega) HAL.out (by omega)).mono ?_
            rintro e W5 ⟨rfl, hK⟩
            have D5 := Lib.hid (D3.out.mach hK HMB.out.1)
            have KU : Upd (fun i => i = g ∨ i = mb) w3 W5 := (KW.out.wide (fun _ _ f => f.elim)).trans hK.2.2
            have O5 := Lib.hid (O2.out.upd KU (fun q h1 h2 e => by have n := D3.out.nz; have := HMS.out; have := HMB.out; omega))
            have PB5 := Lib.hid hK.1
            clear hK KU D3 O2 X2 PB0 KW HAL
            go_wp2_with fail
            refine (pop_got PB5.out).mono ?_
            rintro e w6 ⟨rfl, rfl⟩
            simp only [took, Bool.and_true, Bool.and_self, Bool.and_false, if_true, if_false, Bool.false_eq_true]
            obtain ⟨qb, qo, ea, fc⟩ := O5.out.rd.at 0 (by simp)
            subst ea
            simp only [List.map_cons, List.map_nil, List.getElem?_cons_zero, Nat.add_zero] at fc
            clear PB5 HMS HMB
            have hsl := fun w => run_take (P := Try.prog) Try.underlying29 (size := 1) (by kernel_rfl) (some ⟨qb, qo, none⟩) 1 c 0 (by omega) w
            have O6 := Lib.hid (O5.out.take 0 (by omega))
            simp only [List.take_zero] at O6
            clear O5
            have hra := Blk.range D5.out.l
            go_wp2_with (first | (refine wpList_load_mid rfl _ _ rfl lb 0 rfl [.int .i64 verts, .int .i64 arcs, .int .i64 workers, .int .i64 room, .int .i64 res, .int .i64 lex, .int .i64 hh, .int .i64 flag, .int .i64 pending, .int .i64 ask, .int .i64 count, .int .i64 sense, .int .i64 deques, .int .i64 size] _ hra Try.underlying24 rfl HZ14.out ?_) | fail)
            refine (HH1 _ _ _ _ _ _ 0 D5.out.b HRW5.out.1 (by have := O6.out.1; omega)).out.mono ?_
            rintro e w11 ⟨ha, hc, rfl, hR, hk⟩
            have DB := Lib.hid (D5.out.kept hk)
            have OB := Lib.hid (O6.out.kept hk)
            have HR := Lib.hid hR
            clear hR hk hra D5 O6
            go_wp2_with fail
            refine (same_at _ _ _ _ _ _ _ HR.out OB.out.rd (by have := OB.out.1; omega) (by have h1 := HRW5.out.1.big; have h2 := HRW5.out.1.t0; have := OB.out.1; omega)).mono ?_
            rintro e w12 ⟨rfl, hk⟩
            have DC := Lib.hid (DB.out.kept hk)
            have OC := Lib.hid (OB.out.kept hk)
            clear hk DB OB HR
            have cl := DC.out.l.cell
            go_wp2_with fail
            refine (HH0 _ _ _ _ _ _ 0 DC.out.b HRW5.out.2 rfl).out.mono ?_
            rintro e w13 ⟨ha2, hc2, rfl, -, hk⟩
            have DD := Lib.hid (DC.out.kept hk)
            have OD := Lib.hid (OC.out.kept hk)
            clear hk DC OC cl
            go_wp2_with fail
            go_roundw
            case rel => exact ⟨j + 1, _, _, _, _, _, (T + 1), rfl, by go_num, by omega, OD, DD, HRW5, Lib.hid (by have h1 := HBD.out; simp at h1 ⊢; omega)⟩
            case measure => simp [intOf]; omega
          · have HZR : Hid (2 ≤ L.length) := Lib.hid (by omega)
            clear h1
            as_aux_lemma =>
            have e0 : (wh % 4 == 0) = false := by simp; omega
            have e1 : (wh % 4 == 1) = false := by simp; omega
            have e2 : (wh % 4 == 2) = true := by simp; omega
            have hnl := O1.out.1
            obtain ⟨p, rfl⟩ : ∃ p, n = p + 1 := ⟨n - 1, by omega⟩
            obtain ⟨ys, RW5, AH5, AL5⟩ := pop_to HRW.out.1 (by have := HZR.out; omega) false
            rw [show L.length - 1 = p by omega] at AL5
            have HRW5 : Hid (Row tp r ys T (L.take p) ∧ Row tq r ys 0 []) := Lib.hid ⟨by rw [List.dropLast_eq_take, show L.length - 1 = p by omega] at RW5; exact RW5, HRW.out.2.ahead AH5 HTQ.out⟩
            clear hnl
            have hra := Blk.range D1.out.l
            have xl := X1.out.cell
            go_wp2_with (first | (refine wpList_load_mid rfl _ _ rfl lb 0 rfl [.int .i64 verts, .int .i64 arcs, .int .i64 workers, .int .i64 room, .int .i64 res, .int .i64 lex, .int .i64 hh, .int .i64 flag, .int .i64 pending, .int .i64 ask, .int .i64 count, .int .i64 sense, .int .i64 deques, .int .i64 size] _ hra Try.underlying24 rfl HZ14.out ?_) | fail)
            refine (HNP _).out.mono ?_
            rintro e w3 ⟨rfl, hk⟩
            have D2 := Lib.hid (D1.out.kept hk)
            have O2 := Lib.hid (O1.out.kept hk)
            have X2 := Lib.hid (X1.out.kept hk)
            clear hk D1 O1 X1 hra xl
            have hZ := Blk.new w3 #[.int .i64 0, .int .i64 0, .int .i64 0, .int .i64 0, .int .i64 0, .int .i64 0, .int .i64 0, .int .i64 0, .int .i64 0, .int .i64 0, .int .i64 0, .int .i64 0, .int .i64 0, .int .i64 0, .int .i64 0, .int .i64 0, .int .i64 0, .int .i64 0, .int .i64 0, .bool false, .bool false] 51
            have hth := Blk.there hZ 21 rfl
            obtain ⟨W4, hW4⟩ : ∃ W4, (w3.alloc (.cells #[.int .i64 0, .int .i64 0, .int .i64 0, .int .i64 0, .int .i64 0, .int .i64 0, .int .i64 0, .int .i64 0, .int .i64 0, .int .i64 0, .int .i64 0, .int .i64 0, .int .i64 0, .int .i64 0, .int .i64 0, .int .i64 0, .int .i64 0, .int .i64 0, .int .i64 0, .bool false, .bool false] 51)).setCells w3.heap.size 0 [.int .i64 verts, .int .i64 arcs, .int .i64 workers, .int .i64 room, .int .i64 res, .int .i64 lex, .int .i64 hh, .int .i64 flag, .int .i64 pending, .int .i64 ask, .int .i64 count, .int .i64 sense, .int .i64 deques, .int .i64 size, .int .i64 1, .int .i64 0, .int .i64 0, .int .i64 0, .int .i64 0, .bool false, .bool false] = W4 := ⟨_, rfl⟩
            have hB4 : Blk W4 w3.heap.size #[.int .i64 verts, .int .i64 arcs, .int .i64 workers, .int .i64 room, .int .i64 res, .int .i64 lex, .int .i64 hh, .int .i64 flag, .int .i64 pending, .int .i64 ask, .int .i64 count, .int .i64 sense, .int .i64 deques, .int .i64 size, .int .i64 1, .int .i64 0, .int .i64 0, .int .i64 0, .int .i64 0, .bool false, .bool false] 51 ∧ Upd (fun k => k = w3.heap.size) (w3.alloc (.cells #[.int .i64 0, .int .i64 0, .int .i64 0, .int .i64 0, .int .i64 0, .int .i64 0, .int .i64 0, .int .i64 0, .int .i64 0, .int .i64 0, .int .i64 0, .int .i64 0, .int .i64 0, .int .i64 0, .int .i64 0, .int .i64 0, .int .i64 0, .int .i64 0, .int .i64 0, .bool false, .bool false] 51)) W4 := by rw [← hW4]; exact Blk.alls hZ [.int .i64 verts, .int .i64 arcs, .int .i64 workers, .int .i64 room, .int .i64 res, .int .i64 lex, .int .i64 hh, .int .i64 flag, .int .i64 pending, .int .i64 ask, .int .i64 count, .int .i64 sense, .int .i64 deques, .int .i64 size, .int .i64 1, .int .i64 0, .int .i64 0, .int .i64 0, .int .i64 0, .bool false, .bool false] rfl
            have PB0 : Hid (PB W4 w3.heap.size 51 (⟨verts, arcs, workers, room, res, lex, hh, flag, pending, ask, count, sense, deques, size⟩ : Lay) 1 ⟨0, 0, 0, 0, false, false⟩ []) := Lib.hid hB4.1
            have KW : Hid (Kept w3 W4) := Lib.hid (((Upd.refl (fun _ => False) w3).alloc _).then hB4.2 (fun i hi e => by omega))
            have D3 := Lib.hid (D2.out.kept KW.out)
            have HMB : Hid (B ≤ w3.heap.size ∧ ¬ w3.heap.size = g ∧ ¬ w3.heap.size = bb ∧ ob < w3.heap.size) := Lib.hid (by have n := D2.out.nz; have := D2.out.b.head.lt; have := D2.out.b.row.lt; have := X2.out.lt; omega)
            have hzn := (show (Try.prog.info? 51).map (·.size) = some 21 from HZo.out)
            clear hB4 D2 hZ
            go_upto_region 27 with (first | (refine wpList_store_mid rfl _ _ _ rfl w3.heap.size 0 #[.int .i64 verts, .int .i64 arcs, .int .i64 workers, .int .i64 room, .int .i64 res, .int .i64 lex, .int .i64 hh, .int .i64 flag, .int .i64 pending, .int .i64 ask, .int .i64 count, .int .i64 sense, .int .i64 deques, .int .i64 size, .int .i64 1, .int .i64 0, .int .i64 0, .int .i64 0, .int .i64 0, .bool false, .bool false] rfl rfl hth hzn (all_oneCell_toArray (cs := [.int .i64 verts, .int .i64 arcs, .int .i64 workers, .int .i64 room, .int .i64 res, .int .i64 lex, .int .i64 hh, .int .i64 flag, .int .i64 pending, .int .i64 ask, .int .i64 count, .int .i64 sense, .int .i64 deques, .int .i64 size, .int .i64 1, .int .i64 0, .int .i64 0, .int .i64 0, .int .i64 0, .bool false, .bool false]) (by simp [Value.oneCell'])) ?_; simp only [hW4]) | fail)
            clear hth hW4 hzn
            obtain ⟨mb, hmb⟩ : ∃ mb, w3.heap.size = mb := ⟨_, rfl⟩
            rw [hmb] at PB0 HMB ⊢
            have HMS := Lib.hid hmb
            clear hmb
            have HAL := Lib.hid AL5
            clear AL5
            go_wp2_with fail
            refine (alone_pop HG1.out PB0.out D3.out.b (by have := HMB.out; omega) HAL.out (by omega)).mono ?_
            rintro e W5 ⟨rfl, hK⟩
            have D5 := Lib.hid (D3.out.mach hK HMB.out.1)
            have KU : Upd (fun i => i = g ∨ i = mb) w3 W5 := (KW.out.wide (fun _ _ f => f.elim)).trans hK.2.2
            have O5 := Lib.hid (O2.out.upd KU (fun q h1 h2 e => by have n := D3.out.nz; have := HMS.out; have := HMB.out; omega))
            have PB5 := Lib.hid hK.1
            clear hK KU D3 O2 X2 PB0 KW HAL
            go_wp2_with fail
            refine (pop_got PB5.out).mono ?_
            rintro e w6 ⟨rfl, rfl⟩
            simp only [took, Bool.and_true, Bool.and_self, Bool.and_false, if_true, if_false, Bool.false_eq_true]
            obtain ⟨qb, qo, ea, fc⟩ := O5.out.rd.at p (by rw [List.length_map, O5.out.1]; omega)
            subst ea
            rw [show (L.map (Value.int .i64))[p]? = some (.int .i64 (L.getD p 0)) by have := O5.out.1; simp [List.getD, show p < L.length from by omega]] at fc
            have hd : decide ((0 : Int) < ((p + 1 : Nat) : Int)) = true := decide_eq_true (by omega)
            have hd2 : (0 : Int) < ((p + 1 : Nat) : Int) := by omega
            have hd3 : decide (0 < p + 1) = true := by simp
            have hw2 : ((p + 1 : Nat) : Int) - 1 = (p : Int) := by omega
            have hw3 : ((p : Int) + 1) - 1 = (p : Int) := by omega
            have i1 : (0 : Int) ≤ (p : Int) := by omega
            have i2 : (p : Int) < ((p + 1 : Nat) : Int) := by omega
            have i3 : (p : Int) < (p : Int) + 1 := by omega
            have hpc : p ≤ c := by have := O5.out.le; omega
            have hp9 : p ≤ 1000 := by have := HBD.out; have := O5.out.1; omega
            have O6 := Lib.hid (O5.out.take p (by omega))
            obtain ⟨hw, hw4⟩ := wrap_pred p hp9
            generalize L.getD p 0 = x at fc
            clear PB5 HMS HMB
            have hsl := fun w => run_take (P := Try.prog) Try.underlying29 (size := 1) (by kernel_rfl) (some ⟨qb, qo, none⟩) (p + 1) c p hpc w
            clear O5 hp9 hpc
            go_upto_region 35 with (fail)
            clear hw hw4 hw2 hw3 hd hd2 hd3 i1 i2 i3 fc hsl
            have hra := Blk.range D5.out.l
            go_wp2_with (first | (refine wpList_load_mid rfl _ _ rfl lb 0 rfl [.int .i64 verts, .int .i64 arcs, .int .i64 workers, .int .i64 room, .int .i64 res, .int .i64 lex, .int .i64 hh, .int .i64 flag, .int .i64 pending, .int .i64 ask, .int .i64 count, .int .i64 sense, .int .i64 deques, .int .i64 size] _ hra Try.underlying24 rfl HZ14.out ?_) | fail)
            refine (HH1 _ _ _ _ _ _ p D5.out.b HRW5.out.1 (by have := O6.out.1; omega)).out.mono ?_
            rintro e w11 ⟨ha, hc, rfl, hR, hk⟩
            have DB := Lib.hid (D5.out.kept hk)
            have OB := Lib.hid (O6.out.kept hk)
            have HR := Lib.hid hR
            clear hR hk hra D5 O6
            go_wp2_with fail
            refine (same_at _ _ _ _ _ _ _ HR.out OB.out.rd (by have := OB.out.1; omega) (by have h1 := HRW5.out.1.big; have h2 := HRW5.out.1.t0; have := OB.out.1; omega)).mono ?_
            rintro e w12 ⟨rfl, hk⟩
            have DC := Lib.hid (DB.out.kept hk)
            have OC := Lib.hid (OB.out.kept hk)
            clear hk DB OB HR
            have cl := DC.out.l.cell
            go_wp2_with fail
            refine (HH0 _ _ _ _ _ _ 0 DC.out.b HRW5.out.2 rfl).out.mono ?_
            rintro e w13 ⟨ha2, hc2, rfl, -, hk⟩
            have DD := Lib.hid (DC.out.kept hk)
            have OD := Lib.hid (OC.out.kept hk)
            clear hk DC OC cl
            go_wp2_with fail
            go_roundw
            case rel => exact ⟨j + 1, _, _, _, _, _, T, rfl, by go_num, by omega, OD, DD, HRW5, Lib.hid (by have h1 := HBD.out; simp; omega)⟩
            case measure => simp [intOf]; omega
      · skip
        by_cases h0 : L.length = 0
        · as_aux_lemma =>
          have e0 : (wh % 4 == 0) = false := by simp; omega
          have e1 : (wh % 4 == 1) = false := by simp; omega
          have e2 : (wh % 4 == 2) = false := by simp; omega
          obtain rfl : L = [] := List.eq_nil_of_length_eq_zero (by omega)
          obtain rfl : n = 0 := by have := O1.out.1; simpa using this.symm
          have hra := Blk.range D1.out.l
          have xl := X1.out.cell
          go_wp2_with (first | (refine wpList_load_mid rfl _ _ rfl lb 0 rfl [.int .i64 verts, .int .i64 arcs, .int .i64 workers, .int .i64 room, .int .i64 res, .int .i64 lex, .int .i64 hh, .int .i64 flag, .int .i64 pending, .int .i64 ask, .int .i64 count, .int .i64 sense, .int .i64 deques, .int .i64 size] _ hra Try.underlying24 rfl HZ14.out ?_) | fail)
          refine (HNS _).out.mono ?_
          rintro e w3 ⟨rfl, hk⟩
          have D2 := Lib.hid (D1.out.kept hk)
          have O2 := Lib.hid (O1.out.kept hk)
          have X2 := Lib.hid (X1.out.kept hk)
          clear hk D1 O1 X1 hra xl
          have hZ := Blk.new w3 #[.int .i64 0, .int .i64 0, .int .i64 0, .int .i64 0, .int .i64 0, .int .i64 0, .int .i64 0, .int .i64 0, .int .i64 0, .int .i64 0, .int .i64 0, .int .i64 0, .int .i64 0, .int .i64 0, .int .i64 0, .int .i64 0, .int .i64 0, .int .i64 0, .int .i64 0, .bool false, .bool false, .bool false] 45
          have hth := Blk.there hZ 22 rfl
          obtain ⟨W4, hW4⟩ : ∃ W4, (w3.alloc (.cells #[.int .i64 0, .int .i64 0, .int .i64 0, .int .i64 0, .int .i64 0, .int .i64 0, .int .i64 0, .int .i64 0, .int .i64 0, .int .i64 0, .int .i64 0, .int .i64 0, .int .i64 0, .int .i64 0, .int .i64 0, .int .i64 0, .int .i64 0, .int .i64 0, .int .i64 0, .bool false, .bool false, .bool false] 45)).setCells w3.heap.size 0 [.int .i64 verts, .int .i64 arcs, .int .i64 workers, .int .i64 room, .int .i64 res, .int .i64 lex, .int .i64 hh, .int .i64 flag, .int .i64 pending, .int .i64 ask, .int .i64 count, .int .i64 sense, .int .i64 deques, .int .i64 size, .int .i64 1, .int .i64 0, .int .i64 0, .int .i64 0, .int .i64 0, .bool false, .bool false, .bool false] = W4 := ⟨_, rfl⟩
          have hB4 : Blk W4 w3.heap.size #[.int .i64 verts, .int .i64 arcs, .int .i64 workers, .int .i64 room, .int .i64 res, .int .i64 lex, .int .i64 hh, .int .i64 flag, .int .i64 pending, .int .i64 ask, .int .i64 count, .int .i64 sense, .int .i64 deques, .int .i64 size, .int .i64 1, .int .i64 0, .int .i64 0, .int .i64 0, .int .i64 0, .bool false, .bool false, .bool false] 45 ∧ Upd (fun k => k = w3.heap.size) (w3.alloc (.cells #[.int .i64 0, .int .i64 0, .int .i64 0, .int .i64 0, .int .i64 0, .int .i64 0, .int .i64 0, .int .i64 0, .int .i64 0, .int .i64 0, .int .i64 0, .int .i64 0, .int .i64 0, .int .i64 0, .int .i64 0, .int .i64 0, .int .i64 0, .int .i64 0, .int .i64 0, .bool false, .bool false, .bool false] 45)) W4 := by rw [← hW4]; exact Blk.alls hZ [.int .i64 verts, .int .i64 arcs, .int .i64 workers, .int .i64 room, .int .i64 res, .int .i64 lex, .int .i64 hh, .int .i64 flag, .int .i64 pending, .int .i64 ask, .int .i64 count, .int .i64 sense, .int .i64 deques, .int .i64 size, .int .i64 1, .int .i64 0, .int .i64 0, .int .i64 0, .int .i64 0, .bool false, .bool false, .bool false] rfl
          have PB0 : Hid (PB W4 w3.heap.size 45 (⟨verts, arcs, workers, room, res, lex, hh, flag, pending, ask, count, sense, deques, size⟩ : Lay) 1 ⟨0, 0, 0, 0, false, false⟩ [.bool false]) := Lib.hid hB4.1
          have KW : Hid (Kept w3 W4) := Lib.hid (((Upd.refl (fun _ => False) w3).alloc _).then hB4.2 (fun i hi e => by omega))
          have D3 := Lib.hid (D2.out.kept KW.out)
          have HMB : Hid (B ≤ w3.heap.size ∧ ¬ w3.heap.size = g ∧ ¬ w3.heap.size = bb ∧ ob < w3.heap.size) := Lib.hid (by have n := D2.out.nz; have := D2.out.b.head.lt; have := D2.out.b.row.lt; have := X2.out.lt; omega)
          have hzn := (show (Try.prog.info? 45).map (·.size) = some 22 from HZt.out)
          clear hB4 D2 hZ
          go_upto_region 10 with (first | (refine wpList_store_mid rfl _ _ _ rfl w3.heap.size 0 #[.int .i64 verts, .int .i64 arcs, .int .i64 workers, .int .i64 room, .int .i64 res, .int .i64 lex, .int .i64 hh, .int .i64 flag, .int .i64 pending, .int .i64 ask, .int .i64 count, .int .i64 sense, .int .i64 deques, .int .i64 size, .int .i64 1, .int .i64 0, .int .i64 0, .int .i64 0, .int .i64 0, .bool false, .bool false, .bool false] rfl rfl hth hzn (all_oneCell_toArray (cs := [.int .i64 verts, .int .i64 arcs, .int .i64 workers, .int .i64 room, .int .i64 res, .int .i64 lex, .int .i64 hh, .int .i64 flag, .int .i64 pending, .int .i64 ask, .int .i64 count, .int .i64 sense, .int .i64 deques, .int .i64 size, .int .i64 1, .int .i64 0, .int .i64 0, .int .i64 0, .int .i64 0, .bool false, .bool false, .bool false]) (by simp [Value.oneCell'])) ?_; simp only [hW4]) | fail)
          clear hth hW4 hzn
          obtain ⟨mb, hmb⟩ : ∃ mb, w3.heap.size = mb := ⟨_, rfl⟩
          rw [hmb] at PB0 HMB ⊢
          have HMS := Lib.hid hmb
          clear hmb
          have HAL := Lib.hid (steal_none HRW.out.1)
          go_wp2_with fail
          refine (alone_steal HG1.out PB0.out D3.out.b (by have := HMB.out; omega) HAL.out (by omega)).mono ?_
          rintro e W5 ⟨rfl, hK⟩
          have D5 := Lib.hid (D3.out.mach hK HMB.out.1)
          have KU : Upd (fun i => i = g ∨ i = mb) w3 W5 := (KW.out.wide (fun _ _ f => f.elim)).trans hK.2.2
          have O5 := Lib.hid (O2.out.upd KU (fun q h1 h2 e => by have n := D3.out.nz; have := HMS.out; have := HMB.out; omega))
          have PB5 := Lib.hid hK.1
          clear hK KU D3 O2 X2 PB0 KW HAL
          go_wp2_with fail
          refine (steal_got PB5.out).mono ?_
          rintro e w6 ⟨rfl, rfl⟩
          simp only [took, Bool.and_true, Bool.and_self, Bool.and_false, if_true, if_false, Bool.false_eq_true]
          go_wp2_with fail
          refine (steal_lost PB5.out).mono ?_
          rintro e w9 ⟨rfl, rfl⟩
          clear PB5 HMS HMB
          have hra := Blk.range D5.out.l
          go_wp2_with (first | (refine wpList_load_mid rfl _ _ rfl lb 0 rfl [.int .i64 verts, .int .i64 arcs, .int .i64 workers, .int .i64 room, .int .i64 res, .int .i64 lex, .int .i64 hh, .int .i64 flag, .int .i64 pending, .int .i64 ask, .int .i64 count, .int .i64 sense, .int .i64 deques, .int .i64 size] _ hra Try.underlying24 rfl HZ14.out ?_) | fail)
          refine (HH1 _ _ _ _ _ _ 0 D5.out.b HRW.out.1 (by have := O5.out.1; omega)).out.mono ?_
          rintro e w11 ⟨ha, hc, rfl, hR, hk⟩
          have DB := Lib.hid (D5.out.kept hk)
          have OB := Lib.hid (O5.out.kept hk)
          have HR := Lib.hid hR
          clear hR hk hra D5 O5
          go_wp2_with fail
          refine (same_at _ _ _ _ _ _ _ HR.out OB.out.rd (by have := OB.out.1; omega) (by have h1 := HRW.out.1.big; have h2 := HRW.out.1.t0; have := OB.out.1; omega)).mono ?_
          rintro e w12 ⟨rfl, hk⟩
          have DC := Lib.hid (DB.out.kept hk)
          have OC := Lib.hid (OB.out.kept hk)
          clear hk DB OB HR
          have cl := DC.out.l.cell
          go_wp2_with fail
          refine (HH0 _ _ _ _ _ _ 0 DC.out.b HRW.out.2 rfl).out.mono ?_
          rintro e w13 ⟨ha2, hc2, rfl, -, hk⟩
          have DD := Lib.hid (DC.out.kept hk)
          have OD := Lib.hid (OC.out.kept hk)
          clear hk DC OC cl
          go_wp2_with fail
          go_roundw
          case rel => exact ⟨j + 1, _, _, _, _, _, T, rfl, by go_num, by omega, OD, DD, HRW, Lib.hid (by have h1 := HBD.out; simp at h1 ⊢; omega)⟩
          case measure => simp [intOf]; omega
        · as_aux_lemma =>
          have e0 : (wh % 4 == 0) = false := by simp; omega
          have e1 : (wh % 4 == 1) = false := by simp; omega
          have e2 : (wh % 4 == 2) = false := by simp; omega
          have hnl := O1.out.1
          obtain ⟨p, rfl⟩ : ∃ p, n = p + 1 := ⟨n - 1, by omega⟩
          obtain ⟨ys, RW5, AH5, AL5⟩ := steal_to HRW.out.1 (by omega)
          have HRW5 : Hid (Row tp r ys (T + 1) L.tail ∧ Row tq r ys 0 []) := Lib.hid ⟨RW5, HRW.out.2.ahead AH5 HTQ.out⟩
          clear hnl
          have hra := Blk.range D1.out.l
          have xl := X1.out.cell
          go_wp2_with (first | (refine wpList_load_mid rfl _ _ rfl lb 0 rfl [.int .i64 verts, .int .i64 arcs, .int .i64 workers, .int .i64 room, .int .i64 res, .int .i64 lex, .int .i64 hh, .int .i64 flag, .int .i64 pending, .int .i64 ask, .int .i64 count, .int .i64 sense, .int .i64 deques, .int .i64 size] _ hra Try.underlying24 rfl HZ14.out ?_) | fail)
          refine (HNS _).out.mono ?_
          rintro e w3 ⟨rfl, hk⟩
          have D2 := Lib.hid (D1.out.kept hk)
          have O2 := Lib.hid (O1.out.kept hk)
          have X2 := Lib.hid (X1.out.kept hk)
          clear hk D1 O1 X1 hra xl
          have hZ := Blk.new w3 #[.int .i64 0, .int .i64 0, .int .i64 0, .int .i64 0, .int .i64 0, .int .i64 0, .int .i64 0, .int .i64 0, .int .i64 0, .int .i64 0, .int .i64 0, .int .i64 0, .int .i64 0, .int .i64 0, .int .i64 0, .int .i64 0, .int .i64 0, .int .i64 0, .int .i64 0, .bool false, .bool false, .bool false] 45
          have hth := Blk.there hZ 22 rfl
          obtain ⟨W4, hW4⟩ : ∃ W4, (w3.alloc (.cells #[.int .i64 0, .int .i64 0, .int .i64 0, .int .i64 0, .int .i64 0, .int .i64 0, .int .i64 0, .int .i64 0, .int .i64 0, .int .i64 0, .int .i64 0, .int .i64 0, .int .i64 0, .int .i64 0, .int .i64 0, .int .i64 0, .int .i64 0, .int .i64 0, .int .i64 0, .bool false, .bool false, .bool false] 45)).setCells w3.heap.size 0 [.int .i64 verts, .int .i64 arcs, .int .i64 workers, .int .i64 room, .int .i64 res, .int .i64 lex, .int .i64 hh, .int .i64 flag, .int .i64 pending, .int .i64 ask, .int .i64 count, .int .i64 sense, .int .i64 deques, .int .i64 size, .int .i64 1, .int .i64 0, .int .i64 0, .int .i64 0, .int .i64 0, .bool false, .bool false, .bool false] = W4 := ⟨_, rfl⟩
          have hB4 : Blk W4 w3.heap.size #[.int .i64 verts, .int .i64 arcs, .int .i64 workers, .int .i64 room, .int .i64 res, .int .i64 lex, .int .i64 hh, .int .i64 flag, .int .i64 pending, .int .i64 ask, .int .i64 count, .int .i64 sense, .int .i64 deques, .int .i64 size, .int .i64 1, .int .i64 0, .int .i64 0, .int .i64 0, .int .i64 0, .bool false, .bool false, .bool false] 45 ∧ Upd (fun k => k = w3.heap.size) (w3.alloc (.cells #[.int .i64 0, .int .i64 0, .int .i64 0, .int .i64 0, .int .i64 0, .int .i64 0, .int .i64 0, .int .i64 0, .int .i64 0, .int .i64 0, .int .i64 0, .int .i64 0, .int .i64 0, .int .i64 0, .int .i64 0, .int .i64 0, .int .i64 0, .int .i64 0, .int .i64 0, .bool false, .bool false, .bool false] 45)) W4 := by rw [← hW4]; exact Blk.alls hZ [.int .i64 verts, .int .i64 arcs, .int .i64 workers, .int .i64 room, .int .i64 res, .int .i64 lex, .int .i64 hh, .int .i64 flag, .int .i64 pending, .int .i64 ask, .int .i64 count, .int .i64 sense, .int .i64 deques, .int .i64 size, .int .i64 1, .int .i64 0, .int .i64 0, .int .i64 0, .int .i64 0, .bool false, .bool false, .bool false] rfl
          have PB0 : Hid (PB W4 w3.heap.size 45 (⟨verts, arcs, workers, room, res, lex, hh, flag, pending, ask, count, sense, deques, size⟩ : Lay) 1 ⟨0, 0, 0, 0, false, false⟩ [.bool false]) := Lib.hid hB4.1
          have KW : Hid (Kept w3 W4) := Lib.hid (((Upd.refl (fun _ => False) w3).alloc _).then hB4.2 (fun i hi e => by omega))
          have D3 := Lib.hid (D2.out.kept KW.out)
          have HMB : Hid (B ≤ w3.heap.size ∧ ¬ w3.heap.size = g ∧ ¬ w3.heap.size = bb ∧ ob < w3.heap.size) := Lib.hid (by have n := D2.out.nz; have := D2.out.b.head.lt; have := D2.out.b.row.lt; have := X2.out.lt; omega)
          have hzn := (show (Try.prog.info? 45).map (·.size) = some 22 from HZt.out)
          clear hB4 D2 hZ
          go_upto_region 10 with (first | (refine wpList_store_mid rfl _ _ _ rfl w3.heap.size 0 #[.int .i64 verts, .int .i64 arcs, .int .i64 workers, .int .i64 room, .int .i64 res, .int .i64 lex, .int .i64 hh, .int .i64 flag, .int .i64 pending, .int .i64 ask, .int .i64 count, .int .i64 sense, .int .i64 deques, .int .i64 size, .int .i64 1, .int .i64 0, .int .i64 0, .int .i64 0, .int .i64 0, .bool false, .bool false, .bool false] rfl rfl hth hzn (all_oneCell_toArray (cs := [.int .i64 verts, .int .i64 arcs, .int .i64 workers, .int .i64 room, .int .i64 res, .int .i64 lex, .int .i64 hh, .int .i64 flag, .int .i64 pending, .int .i64 ask, .int .i64 count, .int .i64 sense, .int .i64 deques, .int .i64 size, .int .i64 1, .int .i64 0, .int .i64 0, .int .i64 0, .int .i64 0, .bool false, .bool false, .bool false]) (by simp [Value.oneCell'])) ?_; simp only [hW4]) | fail)
          clear hth hW4 hzn
          obtain ⟨mb, hmb⟩ : ∃ mb, w3.heap.size = mb := ⟨_, rfl⟩
          rw [hmb] at PB0 HMB ⊢
          have HMS := Lib.hid hmb
          clear hmb
          have HAL := Lib.hid AL5
          clear AL5
          go_wp2_with fail
          refine (alone_steal HG1.out PB0.out D3.out.b (by have := HMB.out; omega) HAL.out (by omega)).mono ?_
          rintro e W5 ⟨rfl, hK⟩
          have D5 := Lib.hid (D3.out.mach hK HMB.out.1)
          have KU : Upd (fun i => i = g ∨ i = mb) w3 W5 := (KW.out.wide (fun _ _ f => f.elim)).trans hK.2.2
          have O5 := Lib.hid (O2.out.upd KU (fun q h1 h2 e => by have n := D3.out.nz; have := HMS.out; have := HMB.out; omega))
          have PB5 := Lib.hid hK.1
          clear hK KU D3 O2 X2 PB0 KW HAL
          go_wp2_with fail
          refine (steal_got PB5.out).mono ?_
          rintro e w6 ⟨rfl, rfl⟩
          simp only [took, Bool.and_true, Bool.and_self, Bool.and_false, if_true, if_false, Bool.false_eq_true]
          obtain ⟨qb, qo, ea, fc⟩ := O5.out.rd.at 0 (by rw [List.length_map, O5.out.1]; omega)
          subst ea
          rw [show (L.map (Value.int .i64))[0]? = some (.int .i64 (L.getD 0 0)) by have := O5.out.1; simp [List.getD, show 0 < L.length from by omega]] at fc
          rw [Nat.add_zero] at fc
          generalize L.getD 0 0 = x at fc
          have hd : decide ((0 : Int) < ((p + 1 : Nat) : Int)) = true := decide_eq_true (by omega)
          have hd2 : (0 : Int) < ((p + 1 : Nat) : Int) := by omega
          have hd3 : decide (0 < p + 1) = true := by simp
          go_wp2_with fail
          refine (steal_lost PB5.out).mono ?_
          rintro e w9 ⟨rfl, rfl⟩
          clear PB5 HMS HMB
          obtain ⟨a6, hO6, hsl⟩ := run_tail (P := Try.prog) Try.underlying29 (by kernel_rfl) O5.out (by omega)
          have O6 := Lib.hid hO6
          clear O5 hO6
          have hra := Blk.range D5.out.l
          go_wp2_with (first | (refine wpList_load_mid rfl _ _ rfl lb 0 rfl [.int .i64 verts, .int .i64 arcs, .int .i64 workers, .int .i64 room, .int .i64 res, .int .i64 lex, .int .i64 hh, .int .i64 flag, .int .i64 pending, .int .i64 ask, .int .i64 count, .int .i64 sense, .int .i64 deques, .int .i64 size] _ hra Try.underlying24 rfl HZ14.out ?_) | fail)
          refine (HH1 _ _ _ _ _ _ (p + 1 - 1) D5.out.b HRW5.out.1 (by have := O6.out.1; omega)).out.mono ?_
          rintro e w11 ⟨ha, hc, rfl, hR, hk⟩
          have DB := Lib.hid (D5.out.kept hk)
          have OB := Lib.hid (O6.out.kept hk)
          have HR := Lib.hid hR
          clear hR hk hra D5 O6
          go_wp2_with fail
          refine (same_at _ _ _ _ _ _ _ HR.out OB.out.rd (by have := OB.out.1; omega) (by have h1 := HRW5.out.1.big; have h2 := HRW5.out.1.t0; have := OB.out.1; omega)).mono ?_
          rintro e w12 ⟨rfl, hk⟩
          have DC := Lib.hid (DB.out.kept hk)
          have OC := Lib.hid (OB.out.kept hk)
          clear hk DB OB HR
          have cl := DC.out.l.cell
          go_wp2_with fail
          refine (HH0 _ _ _ _ _ _ 0 DC.out.b HRW5.out.2 rfl).out.mono ?_
          rintro e w13 ⟨ha2, hc2, rfl, -, hk⟩
          have DD := Lib.hid (DC.out.kept hk)
          have OD := Lib.hid (OC.out.kept hk)
          clear hk DC OC cl
          go_wp2_with fail
          go_roundw
          case rel => exact ⟨j + 1, _, _, _, _, _, (T + 1), rfl, by go_num, by omega, OD, DD, HRW5, Lib.hid (by have h1 := HBD.out; simp; omega)⟩
          case measure => simp [intOf]; omega
    · go_wp2_with fail
      refine (awake11_any _).mono ?_
      rintro e w5 ⟨rfl, hk5⟩
      have H9 := Lib.hid (D0.out.kp.trans hk5)
      clear hk5
      go_wp2_with fail
      go_ret
      exact ⟨rfl, H9.out⟩
theorem dequeAlone_walk (verts : Int) (a : Option Addr) (cap : Nat) (els : List (List Value)) (w : World) (wv : (Lit.int .u8 verts).wf = true) (h : FlatRow [some .u8, some .u8, some .i64] w a cap els) (_hf : ∀ x ∈ els, fits [some .u8, some .u8, some .i64] x) :
    Calls Try.prog 4 #[.int .u8 verts, .slice a els.length cap] w fun e w' => e = .returned (.bool true) ∧ Kept w w' :=
  dequeAlone_core verts a cap els w (bounds_u8 wv).1 (bounds_u8 wv).2 h.le h.most h.cells h.fit
end Go.Proofs.Ytdgkemadhooogaa
