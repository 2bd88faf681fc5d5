/- The law DequeTells (printed by gen_deq.py). -/
import Derived.Test.YtdgkemadhooogaaDeqLaw
import Derived.Test.YtdgkemadhooogaaDeqDuo
import Derived.Test.YtdgkemadhooogaaTellS
import Derived.Deep.RegionHeld3
import Derived.Deep.CutRange
import Derived.StillTailTactics
import Derived.Deep.MidRow
import Derived.Deep.MidRow
namespace Go.Proofs.Ytdgkemadhooogaa
set_option linter.unusedVariables false
set_option linter.unusedSimpArgs false
open Go.RowKit
attribute [local go_sem] cell?_ext

theorem op_of2 {e : List Value} (hf : fits [some .u8, some .u8, some .i64] e) : ∃ a b c, e = [.int .u8 a, .int .u8 b, .int .i64 c] ∧ 0 ≤ a ∧ a ≤ 255 ∧ 0 ≤ b ∧ b ≤ 255 := by
  obtain ⟨x1, u1, e1, h1, f1⟩ := fits_int hf
  obtain ⟨x2, u2, e2, h2, f2⟩ := fits_int f1
  obtain ⟨x3, u3, e3, h3, f3⟩ := fits_int f2
  exact ⟨x1, x2, x3, by rw [e1, e2, e3, fits_nil f3], (bounds_u8 h1).1, (bounds_u8 h1).2, (bounds_u8 h2).1, (bounds_u8 h2).2⟩
theorem held_at {w : World} {l : Lay} {k : Int} {bb g n : Nat} {xs : List Int} {tp r : Nat} (hG : Geo l k tp r) (hb : Bnk w bb g xs) (hT : 0 ≤ bget xs (tp : Int) ∧ bget xs (tp : Int) ≤ 1000000) (hn : (heldL tp r xs).length = n) :
    Calls Try.prog 18 #[l.val, .int .i64 k, .pointer (some ⟨bb, 0, none⟩)] w fun e w' => ∃ a c, e = .returned (.slice a n c) ∧ Rd w' a ((heldL tp r xs).map (Value.int .i64)) ∧ Kept w w' := by
  subst hn
  exact Held_any hG hb hT
theorem refheld_at {w : World} {l : Lay} {k : Int} {g cap N n : Nat} {xs : List Int} {tp r : Nat} (hG : Geo l k tp r) (hb : RB w g cap xs) (hN : xs.length = N) (hm : N ≤ 1000000) (hT : 0 ≤ bget xs (tp : Int) ∧ bget xs (tp : Int) ≤ 1000000) (hn : (heldL tp r xs).length = n) :
    Calls Try.prog 28 #[l.val, .int .i64 k, .slice (some ⟨g, 0, none⟩) N cap] w fun e w' => ∃ a c, e = .returned (.slice a n c) ∧ Rd w' a ((heldL tp r xs).map (Value.int .i64)) ∧ Kept w w' := by
  subst hn
  exact refHeld_any hG hb hN hm hT
theorem Rd.owns' {w : World} {g cap : Nat} {xs : List Int} (h : RB w g cap xs) : Rd w (some ⟨g, 0, none⟩) (xs.map (Value.int .i64)) := by
  obtain ⟨a, c, e, hr⟩ := Rd.owns h
  cases e
  exact hr
set_option maxRecDepth 100000 in
set_option maxHeartbeats 16000000 in
theorem dequeTells_core (vts wks wi : Int) (sa : Option Addr) (cap0 : Nat) (els : List (List Value)) (w : World) (hv0 : 0 ≤ vts) (hv1 : vts ≤ 255) (hks0 : 0 ≤ wks) (hks1 : wks ≤ 255) (hwi0 : 0 ≤ wi) (hwi1 : wi ≤ 255) (hlen : els.length ≤ cap0) (hmost : cap0 ≤ maxLen)
    (hcells : els.length = 0 ∨ ∃ b off, sa = some ⟨b, off, none⟩ ∧ ∀ i (h : i < els.length) j v, els[i][j]? = some v → w.cell? ⟨b, off + i * 3 + j, none⟩ = some v) (hfit : ∀ e ∈ els, fits [some .u8, some .u8, some .i64] e) :
    Calls Try.prog 7 #[.int .u8 vts, .int .u8 wks, .int .u8 wi, .slice sa els.length cap0] w fun e w' => e = .returned (.bool true) ∧ Kept w w' := by
  have HZ14 : Hid ((Try.prog.info? 24).map (·.size) = some 14) := Lib.hid (by kernel_rfl)
  have HZ27 : Hid ((Try.prog.info? 75).map (·.size) = some 27) := Lib.hid (by kernel_rfl)
  have hk0 : 0 ≤ wks % 3 := Int.emod_nonneg _ (by omega)
  have hk1 : wks % 3 < 3 := Int.emod_lt_of_pos _ (by omega)
  have hq0 : 0 ≤ vts % 10 := Int.emod_nonneg _ (by omega)
  have hq1 : vts % 10 < 10 := Int.emod_lt_of_pos _ (by omega)
  have hwv : wrap64 (1 + wks % 3) = 1 + wks % 3 := by unfold wrap64; omega
  have hkz : ¬ (1 + wks % 3 : Int) = 0 := by omega
  obtain ⟨r, S, hS, hS2, hrm, hr13, hvr, hr8, htp⟩ := plan_geo (vts % 10) (1 + wks % 3) (by omega) (by omega)
  obtain ⟨kx, hkx⟩ : ∃ q : Int, wi % (1 + wks % 3) = q := ⟨_, rfl⟩
  have hkx0 : 0 ≤ kx := by rw [← hkx]; exact Int.emod_nonneg _ hkz
  have hkx1 : kx < 1 + wks % 3 := by rw [← hkx]; exact Int.emod_lt_of_pos _ (by omega)
  have htm : wi.tmod (1 + wks % 3) = kx := by rw [Int.tmod_eq_emod_of_nonneg hwi0]; exact hkx
  obtain ⟨tp, hG0, htp0, hfp⟩ := htp kx hkx0 hkx1
  obtain ⟨l, hl⟩ : ∃ l, planOf (vts % 10) 0 (1 + wks % 3) = l := ⟨_, rfl⟩
  have hSl : l.size = (S : Int) := by rw [← hl]; exact hS
  have HB := fun w => Lib.hid (bank_any (vts % 10) (1 + wks % 3) w (by unfold May; omega) l hl S hSl hS2)
  rw [hl] at hG0
  have HI0 : Hid (TI ((0 : Nat) : Int) tp r (List.replicate S 0) (List.replicate 5 none)) := Lib.hid (TI.start hfp)
  have HSZ : Hid (S ≤ 524288) := Lib.hid hS2
  have HG := Lib.hid hG0
  have HHW : Hid (∀ ys, (heldL tp r ys).length ≤ 8192) := Lib.hid (fun ys => by unfold heldL; rw [heldTo_len]; unfold heldN; omega)
  have HH := fun W bb g xs n (hb : Bnk W bb g xs) hT hn => Lib.hid (held_at (n := n) hG0 hb hT hn)
  have HRH := fun W g cap xs n (hb : RB W g cap xs) (hN : xs.length = S) hm hT hn => Lib.hid (refheld_at (n := n) hG0 hb hN hm hT hn)
  have HBG := fun who what v W h0 h1 ow => Lib.hid (begin_any l kx who what v W h0 h1 ow)
  have hmk := fun w => make_one (P := Try.prog) (t := 70) (e := 2) (z := .int .i64 0) (v := .int .i64 0) (bytes := 8) Try.underlying70 (by kernel_rfl) rfl .i64 S (by omega) (by omega) w
  clear hS hS2 hrm hr13 hvr hr8 htp hG0 htp0 hfp hl hkx hkx0 hkx1
  obtain ⟨verts, arcs, workers, room, res, lex, hh, flag, pending, ask, count, sense, deques, size⟩ := l
  simp only at hSl
  subst hSl
  simp only [Lay.val, Lay.vals] at HB HH HRH HBG
  obtain ⟨M, hM⟩ : ∃ M, M = min els.length 250 := ⟨_, rfl⟩
  have hM1 : M ≤ els.length := by omega
  have hM2 : M ≤ 250 := by omega
  have hsl := fun w => run_take (P := Try.prog) Try.underlying22 (size := 3) (by kernel_rfl) sa els.length cap0 M (by omega) w
  have hif1 : (if (250 : Int) < (els.length : Int) then (250 : Int) else (els.length : Int)) = (M : Int) := by split <;> omega
  have hif2 : (if 250 < els.length then (250 : Int) else (els.length : Int)) = (M : Int) := by split <;> omega
  unfold maxLen at hmost
  have HC := Lib.hid hcells
  have HF := Lib.hid hfit
  have hms := mk_sides
  clear hcells hfit hM
  go_enter Try.func7, Try.ntmps7
  go_wp2_with fail
  refine (HB _).out.mono ?_
  rintro e w0 ⟨bb, g, rfl, hb, h1, h2, hk⟩
  have hA := (Upd.refl (fun _ => False) w0).alloc (.cells #[.int .i64 verts, .int .i64 arcs, .int .i64 workers, .int .i64 room, .int .i64 res, .int .i64 lex, .int .i64 hh, .int .i64 flag, .int .i64 pending, .int .i64 ask, .int .i64 count, .int .i64 sense, .int .i64 deques, .int .i64 (S : Int)] 24)
  have D0 : Hid (DA w (w0.alloc (.cells #[.int .i64 verts, .int .i64 arcs, .int .i64 workers, .int .i64 room, .int .i64 res, .int .i64 lex, .int .i64 hh, .int .i64 flag, .int .i64 pending, .int .i64 ask, .int .i64 count, .int .i64 sense, .int .i64 deques, .int .i64 (S : Int)] 24)).heap.size w0.heap.size bb g #[.int .i64 verts, .int .i64 arcs, .int .i64 workers, .int .i64 room, .int .i64 res, .int .i64 lex, .int .i64 hh, .int .i64 flag, .int .i64 pending, .int .i64 ask, .int .i64 count, .int .i64 sense, .int .i64 deques, .int .i64 (S : Int)] (List.replicate S 0) (w0.alloc (.cells #[.int .i64 verts, .int .i64 arcs, .int .i64 workers, .int .i64 room, .int .i64 res, .int .i64 lex, .int .i64 hh, .int .i64 flag, .int .i64 pending, .int .i64 ask, .int .i64 count, .int .i64 sense, .int .i64 deques, .int .i64 (S : Int)] 24))) := Lib.hid (by
    have h3 := hb.head.lt
    have h4 := hb.row.lt
    have h5 := hk.size
    have h6 : (w0.alloc (.cells #[.int .i64 verts, .int .i64 arcs, .int .i64 workers, .int .i64 room, .int .i64 res, .int .i64 lex, .int .i64 hh, .int .i64 flag, .int .i64 pending, .int .i64 ask, .int .i64 count, .int .i64 sense, .int .i64 deques, .int .i64 (S : Int)] 24)).heap.size = w0.heap.size + 1 := World.size_alloc _ _
    exact ⟨hk.trans hA, Blk.new _ _ _, hb.kept hA, by omega⟩)
  clear hb h1 h2 hk hA HB
  simp only [Lay.val, Lay.vals]
  go_upto_region 2 with (fail)
  generalize (w0.alloc (.cells #[.int .i64 verts, .int .i64 arcs, .int .i64 workers, .int .i64 room, .int .i64 res, .int .i64 lex, .int .i64 hh, .int .i64 flag, .int .i64 pending, .int .i64 ask, .int .i64 count, .int .i64 sense, .int .i64 deques, .int .i64 (S : Int)] 24)) = W1 at D0 ⊢
  generalize w0.heap.size = lb at D0 ⊢
  generalize W1.heap.size = B0 at D0
  have c13 : W1.cell? ⟨lb, 13, none⟩ = some (.int .i64 (S : Int)) := D0.out.l.cell 13
  go_upto_region 7 with (fail)
  clear c13 hmk hms htm hkz hwv
  have hz1 := Blk.new (W1.alloc (.cells (zeros S (.int .i64 0)) 2)) zsides 75
  have HT0 : Hid (TS w ((W1.alloc (.cells (zeros S (.int .i64 0)) 2)).alloc (.cells zsides 75)).heap.size lb bb g (W1.heap.size + 1) #[.int .i64 verts, .int .i64 arcs, .int .i64 workers, .int .i64 room, .int .i64 res, .int .i64 lex, .int .i64 hh, .int .i64 flag, .int .i64 pending, .int .i64 ask, .int .i64 count, .int .i64 sense, .int .i64 deques, .int .i64 (S : Int)] (⟨verts, arcs, workers, room, res, lex, hh, flag, pending, ask, count, sense, deques, (S : Int)⟩ : Lay) kx W1.heap.size S S (List.replicate 5 none) (List.replicate S 0) ((W1.alloc (.cells (zeros S (.int .i64 0)) 2)).alloc (.cells zsides 75))) := Lib.hid (by
    have n := D0.out.nz
    have q1 := (Upd.refl (fun _ => False) W1).alloc (.cells (zeros S (.int .i64 0)) 2)
    have q2 := (Upd.refl (fun _ => False) (W1.alloc (.cells (zeros S (.int .i64 0)) 2))).alloc (.cells zsides 75)
    have q3 := q1.trans q2
    have s1 := World.size_alloc W1 (.cells (zeros S (.int .i64 0)) 2)
    have s2 := World.size_alloc (W1.alloc (.cells (zeros S (.int .i64 0)) 2)) (.cells zsides 75)
    have k1 := D0.out.l.lt
    have k2 := D0.out.b.head.lt
    have k3 := D0.out.b.row.lt
    have hz2 := hz1
    rw [s1] at hz2
    exact ⟨D0.out.kp.trans q3, D0.out.l.kept q3, D0.out.b.kept q3, side_rows hz2 _ _, (rb_made W1 S HSZ.out).kept q2, by simp, fun i d hd => by have := List.mem_replicate.1 (List.mem_of_getElem? hd); exact absurd this.2 (by simp), fun i j d d' hd => by have := List.mem_replicate.1 (List.mem_of_getElem? hd); exact absurd this.2 (by simp), by have := D0.out.kp.size; omega, by omega, by omega⟩)
  clear D0 hz1
  generalize ((W1.alloc (.cells (zeros S (.int .i64 0)) 2)).alloc (.cells zsides 75)) = W3 at HT0 ⊢
  generalize W1.heap.size + 1 = sg at HT0 ⊢
  generalize W1.heap.size = gm0 at HT0 ⊢
  generalize W3.heap.size = B at HT0
  clear hq0 hq1 hk0 hk1
  go_wp2_with fail
  clear hsl hif1 hif2
  go_loopw [13, 50] (fun rx jx wr => ∃ (j gm cap : Nat) (sides : List (Option Sd)) (xs : List Int), rx = .slice (some ⟨gm, 0, none⟩) S cap ∧ jx = .int .i64 j ∧ j ≤ M ∧ Hid (TS w B lb bb g sg #[.int .i64 verts, .int .i64 arcs, .int .i64 workers, .int .i64 room, .int .i64 res, .int .i64 lex, .int .i64 hh, .int .i64 flag, .int .i64 pending, .int .i64 ask, .int .i64 count, .int .i64 sense, .int .i64 deques, .int .i64 (S : Int)] (⟨verts, arcs, workers, room, res, lex, hh, flag, pending, ask, count, sense, deques, (S : Int)⟩ : Lay) kx gm cap S sides xs wr) ∧ Hid (TI j tp r xs sides)) (fun _ jx _ => M - (intOf jx).toNat)
  case atStart => exact ⟨0, _, _, _, _, rfl, rfl, by omega, HT0, HI0⟩
  case round =>
    clear HT0 HI0
    obtain ⟨j, gm, cap, sides, xs, rfl, rfl, hj, HT, HI⟩ := hrel
    by_cases hjm : j < M
    · obtain ⟨sb0, so, rfl, hcs⟩ := HC.out.resolve_left (by omega)
      obtain ⟨who, wh, v, hel, hu0, hu1, hw0, hw1⟩ := op_of2 (HF.out (els[j]'(by omega)) (List.getElem_mem _))
      have hc := fun k v (h : (els[j]'(by omega))[k]? = some v) => (HT.out.kp.cells _ (by rw [hcs j (by omega) k v h]; rfl) (fun f => f)).trans (hcs j (by omega) k v h)
      rw [hel] at hc
      have c0 : wr.cell? ⟨sb0, so + j * 3, none⟩ = some (.int .u8 who) := hc 0 _ rfl
      have c1 : wr.cell? ⟨sb0, so + j * 3 + 1, none⟩ = some (.int .u8 wh) := hc 1 _ rfl
      have c2 : wr.cell? ⟨sb0, so + j * 3 + 2, none⟩ = some (.int .i64 v) := hc 2 _ rfl
      have hA := (Upd.refl (fun _ => False) wr).alloc (.cells #[.int .u8 who, .int .u8 wh, .int .i64 v] 34)
      have T1 := Lib.hid (HT.out.kept hA)
      have X1 := Lib.hid (Blk.new wr #[.int .u8 who, .int .u8 wh, .int .i64 v] 34)
      obtain ⟨i, hi⟩ : ∃ i : Nat, who % 5 = (i : Int) := ⟨(who % 5).toNat, by have := Int.emod_nonneg who (show (5 : Int) ≠ 0 by omega); omega⟩
      have hi5 : i < 5 := by have := Int.emod_lt_of_pos who (show (0 : Int) < 5 by omega); omega
      obtain ⟨x, hx⟩ : ∃ x, sides[i]? = some x := ⟨_, List.getElem?_eq_getElem (by rw [HI.out.len]; exact hi5)⟩
      have HX := Lib.hid hx
      have i1 : (0 : Int) ≤ (j : Int) := by omega
      have i2 : (j : Int) < (M : Int) := by omega
      clear hc hel hcs hA HT hx
      as_aux_lemma =>
      go_upto_region 11 with (fail)
      clear c0 c1 c2 i1 i2 hi
      generalize (wr.alloc (.cells #[.int .u8 who, .int .u8 wh, .int .i64 v] 34)) = Wa at T1 X1 ⊢
      generalize wr.heap.size = ob at X1 ⊢
      have hra0 : Wa.rangeAt sg (i * 27) (cellsOf (⟨verts, arcs, workers, room, res, lex, hh, flag, pending, ask, count, sense, deques, (S : Int)⟩ : Lay) kx x) := T1.out.rows.range (side_cells T1.out.rows (o := 0) HX.out) 0 (by omega) rfl
      have hz27 : (Try.prog.info? 75).map (·.size) = some (cellsOf (⟨verts, arcs, workers, room, res, lex, hh, flag, pending, ask, count, sense, deques, (S : Int)⟩ : Lay) kx x).length := by rw [cellsOf_len]; exact HZ27.out
      have hz27' : (Try.prog.info? 75).map (·.size) = some (cellsOf (⟨verts, arcs, workers, room, res, lex, hh, flag, pending, ask, count, sense, deques, (S : Int)⟩ : Lay) kx x).toArray.size := hz27
      have hZ := Blk.new Wa #[.pointer none, .pointer none, .pointer none, .int .i64 0, .int .i64 0, .int .i64 0, .int .i64 0, .int .i64 0, .int .i64 0, .int .i64 0, .int .i64 0, .int .i64 0, .int .i64 0, .int .i64 0, .int .i64 0, .int .i64 0, .int .i64 0, .int .i64 0, .int .i64 0, .int .i64 0, .int .i64 0, .int .i64 0, .int .i64 0, .int .i64 0, .bool false, .bool false, .bool false] 75
      have hth := Blk.there hZ (cellsOf (⟨verts, arcs, workers, room, res, lex, hh, flag, pending, ask, count, sense, deques, (S : Int)⟩ : Lay) kx x).toArray.size (by rw [List.size_toArray, cellsOf_len]; rfl)
      obtain ⟨Wb, hWb⟩ : ∃ W', (Wa.alloc (.cells #[.pointer none, .pointer none, .pointer none, .int .i64 0, .int .i64 0, .int .i64 0, .int .i64 0, .int .i64 0, .int .i64 0, .int .i64 0, .int .i64 0, .int .i64 0, .int .i64 0, .int .i64 0, .int .i64 0, .int .i64 0, .int .i64 0, .int .i64 0, .int .i64 0, .int .i64 0, .int .i64 0, .int .i64 0, .int .i64 0, .int .i64 0, .bool false, .bool false, .bool false] 75)).setCells Wa.heap.size 0 (cellsOf (⟨verts, arcs, workers, room, res, lex, hh, flag, pending, ask, count, sense, deques, (S : Int)⟩ : Lay) kx x) = W' := ⟨_, rfl⟩
      have hB : Blk Wb Wa.heap.size (cellsOf (⟨verts, arcs, workers, room, res, lex, hh, flag, pending, ask, count, sense, deques, (S : Int)⟩ : Lay) kx x).toArray 75 ∧ Upd (fun k => k = Wa.heap.size) (Wa.alloc (.cells #[.pointer none, .pointer none, .pointer none, .int .i64 0, .int .i64 0, .int .i64 0, .int .i64 0, .int .i64 0, .int .i64 0, .int .i64 0, .int .i64 0, .int .i64 0, .int .i64 0, .int .i64 0, .int .i64 0, .int .i64 0, .int .i64 0, .int .i64 0, .int .i64 0, .int .i64 0, .int .i64 0, .int .i64 0, .int .i64 0, .int .i64 0, .bool false, .bool false, .bool false] 75)) Wb := by rw [← hWb]; exact Blk.alls hZ (cellsOf (⟨verts, arcs, workers, room, res, lex, hh, flag, pending, ask, count, sense, deques, (S : Int)⟩ : Lay) kx x) (by rw [cellsOf_len]; rfl)
      have hK : Kept Wa Wb := ((Upd.refl (fun _ => False) Wa).alloc _).then hB.2 (fun q hq e => by omega)
      have T2 := Lib.hid (T1.out.kept hK)
      have X2 := Lib.hid (X1.out.kept hK)
      have Y2 := Lib.hid hB.1
      have hi50 : (i : Int) < 5 := by omega
      clear hZ hB hK T1 X1
      go_upto_region 12 with (first | (refine wpList_load_mid rfl _ _ rfl sg (i * 27) rfl (cellsOf (⟨verts, arcs, workers, room, res, lex, hh, flag, pending, ask, count, sense, deques, (S : Int)⟩ : Lay) kx x) _ hra0 Try.underlying75 rfl hz27 ?_) | (refine wpList_store_mid rfl _ _ _ rfl Wa.heap.size 0 (cellsOf (⟨verts, arcs, workers, room, res, lex, hh, flag, pending, ask, count, sense, deques, (S : Int)⟩ : Lay) kx x).toArray rfl rfl hth hz27' (all_oneCell_toArray (cellsOf_one _ _ _)) ?_; simp only [hWb]) | fail)
      simp only [Act.put]
      clear hra0 hz27 hz27' hth hWb hi50
      generalize Wa.heap.size = sb at Y2 ⊢
      obtain ⟨z, hz⟩ : ∃ z, idle x = z := ⟨_, rfl⟩
      have HZI := Lib.hid hz
      clear hz
      go_cut [79] from 62 to 78 (fun y wx => y = .bool z ∧ Wb = wx)
      case first =>
        cases x with
        | none =>
          have k0 : Wb.cell? ⟨sb, 0, none⟩ = some (.pointer none) := Y2.out.cell 0
          have k1 : Wb.cell? ⟨sb, 1, none⟩ = some (.pointer none) := Y2.out.cell 1
          have k2 : Wb.cell? ⟨sb, 2, none⟩ = some (.pointer none) := Y2.out.cell 2
          obtain rfl : true = z := HZI.out
          go_wp2_with fail
          go_meet
          case rel => exact ⟨rfl, rfl⟩
        | some d =>
          obtain ⟨kd, mb, dm, lo⟩ := d
          obtain rfl : dm.done = z := HZI.out
          cases kd with
          | push v1 =>
            have k0 : Wb.cell? ⟨sb, 0, none⟩ = some (.pointer (some ⟨mb, 0, none⟩)) := Y2.out.cell 0
            have k24 : Wb.cell? ⟨sb, 24, none⟩ = some (.bool dm.done) := Y2.out.cell 24
            go_wp2_with fail
            go_meet
            case rel => exact ⟨rfl, rfl⟩
          | pop =>
            have k0 : Wb.cell? ⟨sb, 0, none⟩ = some (.pointer none) := Y2.out.cell 0
            have k1 : Wb.cell? ⟨sb, 1, none⟩ = some (.pointer (some ⟨mb, 0, none⟩)) := Y2.out.cell 1
            have k24 : Wb.cell? ⟨sb, 24, none⟩ = some (.bool dm.done) := Y2.out.cell 24
            go_wp2_with fail
            go_meet
            case rel => exact ⟨rfl, rfl⟩
          | steal =>
            have k0 : Wb.cell? ⟨sb, 0, none⟩ = some (.pointer none) := Y2.out.cell 0
            have k1 : Wb.cell? ⟨sb, 1, none⟩ = some (.pointer none) := Y2.out.cell 1
            have k2 : Wb.cell? ⟨sb, 2, none⟩ = some (.pointer (some ⟨mb, 0, none⟩)) := Y2.out.cell 2
            have k24 : Wb.cell? ⟨sb, 24, none⟩ = some (.bool dm.done) := Y2.out.cell 24
            go_wp2_with fail
            go_meet
            case rel => exact ⟨rfl, rfl⟩
      case rest =>
        obtain ⟨rfl, rfl⟩ := hcut
        clear Y2
        go_upto_if 79 with (fail)
        go_cut [17] from 79 to 88 (fun y wx => y = .int .i64 (i : Int) ∧ ∃ (sd : List (Option Sd)) (d : Sd), Hid (TS w B lb bb g sg #[.int .i64 verts, .int .i64 arcs, .int .i64 workers, .int .i64 room, .int .i64 res, .int .i64 lex, .int .i64 hh, .int .i64 flag, .int .i64 pending, .int .i64 ask, .int .i64 count, .int .i64 sense, .int .i64 deques, .int .i64 (S : Int)] (⟨verts, arcs, workers, room, res, lex, hh, flag, pending, ask, count, sense, deques, (S : Int)⟩ : Lay) kx gm cap S sd xs wx) ∧ Hid (TI j tp r xs sd) ∧ Hid (sd[i]? = some (some d) ∧ d.m.done = false))
        case first =>
          cases z with
          | false =>
            cases x with
            | none => exact absurd HZI.out (by simp [idle])
            | some d =>
              have hdn : d.m.done = false := HZI.out
              have hpx := HX.out
              have Q1 := Lib.hid (And.intro hpx hdn)
              clear hdn hpx
              go_wp2_with fail
              go_meet
              case rel => exact ⟨rfl, sides, d, T2, HI, Q1⟩
          | true =>
            obtain ⟨ow, how⟩ : ∃ ow, ((i : Int) == 0) = ow := ⟨_, rfl⟩
            have HOW := Lib.hid how
            have hra : Wb.rangeAt lb 0 [.int .i64 verts, .int .i64 arcs, .int .i64 workers, .int .i64 room, .int .i64 res, .int .i64 lex, .int .i64 hh, .int .i64 flag, .int .i64 pending, .int .i64 ask, .int .i64 count, .int .i64 sense, .int .i64 deques, .int .i64 (S : Int)] := Blk.range T2.out.lay
            have x2 : ∀ q : Nat, Wb.cell? ⟨ob, q, none⟩ = (#[.int .u8 who, .int .u8 wh, .int .i64 v] : Array Value)[q]? := X2.out.cell
            go_wp2_with (first | (refine wpList_load_mid rfl _ _ rfl lb 0 rfl [.int .i64 verts, .int .i64 arcs, .int .i64 workers, .int .i64 room, .int .i64 res, .int .i64 lex, .int .i64 hh, .int .i64 flag, .int .i64 pending, .int .i64 ask, .int .i64 count, .int .i64 sense, .int .i64 deques, .int .i64 (S : Int)] _ hra Try.underlying24 rfl HZ14.out ?_) | fail)
            refine (HBG who wh v Wb hw0 hw1 ow).out.mono ?_
            rintro e Wc ⟨kd, mb, rfl, hP, hmb, hkc, ho1, ho2⟩
            have HT3 := Lib.hid (T2.out.kept hkc)
            have HP3 := Lib.hid hP
            have HMB := Lib.hid (And.intro hmb hkc)
            have HO12 := Lib.hid (And.intro ho1 ho2)
            clear hra x2 hP hmb hkc ho1 ho2 how
            have hi50 : (i : Int) < 5 := by omega
            have hil : i < (sides.map (cellsOf (⟨verts, arcs, workers, room, res, lex, hh, flag, pending, ask, count, sense, deques, (S : Int)⟩ : Lay) kx)).length := by rw [List.length_map, HI.out.len]; exact hi5
            have hz27 : (Try.prog.info? 75).map (·.size) = some (SC kd mb (⟨verts, arcs, workers, room, res, lex, hh, flag, pending, ask, count, sense, deques, (S : Int)⟩ : Lay) kx (newKS [])).toArray.size := by rw [List.size_toArray, SC_len]; exact HZ27.out
            have hth : Wc.there sg (i * 27) (SC kd mb (⟨verts, arcs, workers, room, res, lex, hh, flag, pending, ask, count, sense, deques, (S : Int)⟩ : Lay) kx (newKS [])).toArray.size := by rw [List.size_toArray, SC_len]; exact HT3.out.rows.there hil 0 (by omega) (by omega)
            obtain ⟨Wd, hWd⟩ : ∃ W', Wc.setCells sg (i * 27) (SC kd mb (⟨verts, arcs, workers, room, res, lex, hh, flag, pending, ask, count, sense, deques, (S : Int)⟩ : Lay) kx (newKS [])) = W' := ⟨_, rfl⟩
            have hR : Rows Wd sg 27 75 ((sides.map (cellsOf (⟨verts, arcs, workers, room, res, lex, hh, flag, pending, ask, count, sense, deques, (S : Int)⟩ : Lay) kx)).set i (SC kd mb (⟨verts, arcs, workers, room, res, lex, hh, flag, pending, ask, count, sense, deques, (S : Int)⟩ : Lay) kx (newKS []))) ∧ Upd (fun q => q = sg) Wc Wd := by
              rw [← hWd]
              have h := HT3.out.rows.tail (vs := SC kd mb (⟨verts, arcs, workers, room, res, lex, hh, flag, pending, ask, count, sense, deques, (S : Int)⟩ : Lay) kx (newKS [])) (side_cells HT3.out.rows (o := 0) HX.out) 0 (o := i * 27) (by omega) (by rw [SC_len])
              exact h
            have T4 := Lib.hid (T2.out.begun HMB.out.2 HP3.out HMB.out.1 hR.1 hR.2)
            have I4 := Lib.hid (HI.out.begin (by omega) HX.out (fun d e => by subst e; exact HZI.out) kd mb (fun e => HO12.out.1 (by rw [← HOW.out, e]; rfl)) (fun e => HO12.out.2 (by rw [← HOW.out]; simp; omega)))
            clear hR HT3 HP3 HMB HO12
            go_wp2_with (first | (refine wpList_store_mid rfl _ _ _ rfl sg (i * 27) (SC kd mb (⟨verts, arcs, workers, room, res, lex, hh, flag, pending, ask, count, sense, deques, (S : Int)⟩ : Lay) kx (newKS [])).toArray rfl rfl hth hz27 (all_oneCell_toArray (cellsOf_one (⟨verts, arcs, workers, room, res, lex, hh, flag, pending, ask, count, sense, deques, (S : Int)⟩ : Lay) kx (some ⟨kd, mb, ⟨0, 0, 0, 0, false, false⟩, false⟩))) ?_; simp only [hWd]) | fail)
            go_meet
            case rel => exact ⟨rfl, _, ⟨kd, mb, ⟨0, 0, 0, 0, false, false⟩, false⟩, T4, I4, Lib.hid ⟨List.getElem?_set_self (by rw [HI.out.len]; exact hi5), rfl⟩⟩
        case rest =>
          obtain ⟨rfl, sd, d, T3, I3, Q3⟩ := hcut
          clear T2 X2 HI HX HZI
          have hin := I3.out.step (by omega) Q3.out.1 Q3.out.2
          have hne := T3.out.ne Q3.out.1
          have hrow : (sd.map (cellsOf (⟨verts, arcs, workers, room, res, lex, hh, flag, pending, ask, count, sense, deques, (S : Int)⟩ : Lay) kx))[i]? = some (SC d.kd d.mb (⟨verts, arcs, workers, room, res, lex, hh, flag, pending, ask, count, sense, deques, (S : Int)⟩ : Lay) kx ⟨d.m, d.lo, xs⟩) := by rw [side_cells T3.out.rows (o := 0) Q3.out.1]; exact congrArg some (SC_xs _ _ _ _ _ _ _ _)
          have HSS := Lib.hid (sstep_any (o := i * 27) d.kd ⟨d.m, d.lo, xs⟩ HG.out T3.out.rows hrow rfl (T3.out.mach i d Q3.out.1).1 T3.out.bank T3.out.mem T3.out.hN (by have := HSZ.out; omega) hin.1 hne)
          have I4 := Lib.hid hin.2
          have hlen : (kstep tp r d.kd ⟨d.m, d.lo, xs⟩).xs.length = S := by rw [kstep_len]; exact T3.out.hN
          obtain ⟨s1, hs1⟩ : ∃ s1, kstep tp r d.kd ⟨d.m, d.lo, xs⟩ = s1 := ⟨_, rfl⟩
          rw [hs1] at HSS I4 hlen
          have HLN := Lib.hid hlen
          clear hin hne hrow I3 hs1 hlen
          have hi50 : (i : Int) < 5 := by omega
          go_wp2_with fail
          refine HSS.out.mono ?_
          rintro e w5 ⟨g2, cap2, rfl, hR, hP, hb, hm, hU, -⟩
          have T4 := Lib.hid (T3.out.step Q3.out.1 HLN.out hR hP hb hm hU)
          clear hR hP hb hm hU HSS T3 Q3 hi50
          generalize (sd.set i (some ⟨d.kd, d.mb, s1.m, s1.lo⟩)) = sd2 at T4 I4
          generalize s1.xs = ys at T4 I4 HLN
          go_upto_region 15 with (fail)
          obtain ⟨H, hH⟩ : ∃ H, (heldL tp r ys).length = H := ⟨_, rfl⟩
          have HHL := Lib.hid hH
          have HM1 : Hid (H ≤ 1000000000 ∧ S ≤ 1000000000) := Lib.hid (by have := HSZ.out; have h2 := HHW.out ys; omega)
          clear hH
          have HSM : Hid (S ≤ 1000000) := Lib.hid (by have := HSZ.out; omega)
          have HTT : Hid (0 ≤ bget ys (tp : Int) ∧ bget ys (tp : Int) ≤ 1000000) := Lib.hid (by have := I4.out.b.top; omega)
          have D0 := Lib.hid (T4.out.kept (Upd.refl _ _).drew)
          have C0 : ∀ q : Nat, w5.drew.cell? ⟨lb, q, none⟩ = (#[.int .i64 verts, .int .i64 arcs, .int .i64 workers, .int .i64 room, .int .i64 res, .int .i64 lex, .int .i64 hh, .int .i64 flag, .int .i64 pending, .int .i64 ask, .int .i64 count, .int .i64 sense, .int .i64 deques, .int .i64 (S : Int)] : Array Value)[q]? := D0.out.lay.cell
          go_region_held3 (fun w' => ∀ q : Nat, w'.cell? ⟨lb, q, none⟩ = (#[.int .i64 verts, .int .i64 arcs, .int .i64 workers, .int .i64 room, .int .i64 res, .int .i64 lex, .int .i64 hh, .int .i64 flag, .int .i64 pending, .int .i64 ask, .int .i64 count, .int .i64 sense, .int .i64 deques, .int .i64 (S : Int)] : Array Value)[q]?)
            (first | with_reducible exact C0 | with_reducible exact C1 | with_reducible exact C2 | with_reducible exact C3 | with_reducible exact C4 | with_reducible exact E3 | with_reducible exact E4 | with_reducible exact C5 | with_reducible exact E5)
            ((first
              | (go_at_call 25; with_reducible refine (all_at D0.out.bank HLN.out).mono ?_; rintro e x1 ⟨ga, rfl, hr, hk⟩; have D1 := Lib.hid (D0.out.kept hk); have A1 := Lib.hid hr; have C1 : ∀ q : Nat, x1.cell? ⟨lb, q, none⟩ = (#[.int .i64 verts, .int .i64 arcs, .int .i64 workers, .int .i64 room, .int .i64 res, .int .i64 lex, .int .i64 hh, .int .i64 flag, .int .i64 pending, .int .i64 ask, .int .i64 count, .int .i64 sense, .int .i64 deques, .int .i64 (S : Int)] : Array Value)[q]? := D1.out.lay.cell; clear hk hr)
              | (go_at_call 17; with_reducible refine (same_at _ _ _ _ ys S _ A1.out (Rd.owns' D1.out.mem) HLN.out HM1.out.2).mono ?_; rintro e x2 ⟨rfl, hk⟩; have D2 := Lib.hid (D1.out.kept hk); have C2 : ∀ q : Nat, x2.cell? ⟨lb, q, none⟩ = (#[.int .i64 verts, .int .i64 arcs, .int .i64 workers, .int .i64 room, .int .i64 res, .int .i64 lex, .int .i64 hh, .int .i64 flag, .int .i64 pending, .int .i64 ask, .int .i64 count, .int .i64 sense, .int .i64 deques, .int .i64 (S : Int)] : Array Value)[q]? := D2.out.lay.cell; clear hk)
              | (go_at_call 18; with_reducible refine (HH _ _ _ _ _ D2.out.bank HTT.out HHL.out).out.mono ?_; rintro e x3 ⟨a3, c3, rfl, hr, hk⟩; have D3 := Lib.hid (D2.out.kept hk); have A3 := Lib.hid hr; have C3 : ∀ q : Nat, x3.cell? ⟨lb, q, none⟩ = (#[.int .i64 verts, .int .i64 arcs, .int .i64 workers, .int .i64 room, .int .i64 res, .int .i64 lex, .int .i64 hh, .int .i64 flag, .int .i64 pending, .int .i64 ask, .int .i64 count, .int .i64 sense, .int .i64 deques, .int .i64 (S : Int)] : Array Value)[q]? := D3.out.lay.cell; clear hk hr)
              | (go_at_call 28; with_reducible refine (HRH _ _ _ _ _ D3.out.mem HLN.out HSM.out HTT.out HHL.out).out.mono ?_; rintro e x4 ⟨a4, c4, rfl, hr, hk⟩; have D4 := Lib.hid (D3.out.kept hk); have B4 := Lib.hid hr; have A4 := Lib.hid (A3.out.kept hk); have C4 : ∀ q : Nat, x4.cell? ⟨lb, q, none⟩ = (#[.int .i64 verts, .int .i64 arcs, .int .i64 workers, .int .i64 room, .int .i64 res, .int .i64 lex, .int .i64 hh, .int .i64 flag, .int .i64 pending, .int .i64 ask, .int .i64 count, .int .i64 sense, .int .i64 deques, .int .i64 (S : Int)] : Array Value)[q]? := D4.out.lay.cell; clear hk hr)
              | (go_at_call 28; with_reducible refine (HRH _ _ _ _ _ D2.out.mem HLN.out HSM.out HTT.out HHL.out).out.mono ?_; rintro e y3 ⟨a4, c4, rfl, hr, hk⟩; have F3 := Lib.hid (D2.out.kept hk); have B3 := Lib.hid hr; have E3 : ∀ q : Nat, y3.cell? ⟨lb, q, none⟩ = (#[.int .i64 verts, .int .i64 arcs, .int .i64 workers, .int .i64 room, .int .i64 res, .int .i64 lex, .int .i64 hh, .int .i64 flag, .int .i64 pending, .int .i64 ask, .int .i64 count, .int .i64 sense, .int .i64 deques, .int .i64 (S : Int)] : Array Value)[q]? := F3.out.lay.cell; clear hk hr)
              | (go_at_call 18; with_reducible refine (HH _ _ _ _ _ F3.out.bank HTT.out HHL.out).out.mono ?_; rintro e y4 ⟨a3, c3, rfl, hr, hk⟩; have F4 := Lib.hid (F3.out.kept hk); have A4 := Lib.hid hr; have B4 := Lib.hid (B3.out.kept hk); have E4 : ∀ q : Nat, y4.cell? ⟨lb, q, none⟩ = (#[.int .i64 verts, .int .i64 arcs, .int .i64 workers, .int .i64 room, .int .i64 res, .int .i64 lex, .int .i64 hh, .int .i64 flag, .int .i64 pending, .int .i64 ask, .int .i64 count, .int .i64 sense, .int .i64 deques, .int .i64 (S : Int)] : Array Value)[q]? := F4.out.lay.cell; clear hk hr)
              | (go_at_call 17; with_reducible refine (same_at _ _ _ _ (heldL tp r ys) H _ A4.out B4.out HHL.out HM1.out.1).mono ?_; rintro e x5 ⟨rfl, hk⟩; have D5 := Lib.hid (by first | exact D4.out.kept hk | exact F4.out.kept hk); have C5 : ∀ q : Nat, x5.cell? ⟨lb, q, none⟩ = (#[.int .i64 verts, .int .i64 arcs, .int .i64 workers, .int .i64 room, .int .i64 res, .int .i64 lex, .int .i64 hh, .int .i64 flag, .int .i64 pending, .int .i64 ask, .int .i64 count, .int .i64 sense, .int .i64 deques, .int .i64 (S : Int)] : Array Value)[q]? := D5.out.lay.cell; clear hk)))
          all_goals
            have I5 : Hid (TI ((j + 1 : Nat) : Int) tp r ys sd2) := Lib.hid (by have h := I4.out; rwa [show (j : Int) + 1 = ((j + 1 : Nat) : Int) by omega] at h)
            clear C0 C1 C2 D0 D1 D2 A1 T4 HM1 HTT HHL HLN I4
            go_wp2_with fail
            go_roundw
            case rel => exact ⟨j + 1, _, _, _, _, rfl, by go_num, by omega, D5, I5⟩
            case measure => simp [intOf]; omega
    · obtain rfl : j = M := by omega
      have i2 : ¬ (j : Int) < (j : Int) := by omega
      as_aux_lemma =>
      have HK := Lib.hid HT.out.kp
      clear HT HI HC HF HH HRH HBG
      go_upto_region 18 with (fail)
      clear i2
      go_wp2_with fail
      refine (awake11_any _).mono ?_
      rintro e w7 ⟨rfl, hk7⟩
      have HK7 := Lib.hid (HK.out.trans hk7)
      clear hk7 HK
      go_wp2_with fail
      go_ret
      exact ⟨rfl, HK7.out⟩
end Go.Proofs.Ytdgkemadhooogaa
