/- acequiaref11.pop (printed by gen_refstep11.py). -/
import Derived.Test.YtdgkemadhooogaaRefS11
import Derived.Test.YtdgkemadhooogaaRegion
import Derived.Deep.RegionHeld3
import Derived.Deep.CutRange
import Derived.StillTailTactics
import Derived.Deep.MidRow
namespace Go.Proofs.Ytdgkemadhooogaa
set_option linter.unusedVariables false
set_option linter.unusedSimpArgs false
open Go.RowKit
attribute [local go_sem] cell?_ext

/-- In the drawn region of pop: the machine, the result's box, the memory. -/
structure RP (w : World) (n0 b2 b4 : Nat) (L2 : Array Value) (g cap : Nat) (xs : List Int) (A4 : Array Value) (W : World) : Prop where
  kp : Kept w W
  m : Blk W b2 L2 73
  r : Blk W b4 A4 73
  rb : RB W g cap xs
  ne : w.heap.size ≤ b2 ∧ w.heap.size ≤ b4 ∧ ¬ b2 = b4 ∧ ¬ b4 = g
  sz : n0 ≤ W.heap.size
theorem RP.kept {w W W' : World} {n0 b2 b4 g cap : Nat} {L2 A4 : Array Value} {xs : List Int} (h : RP w n0 b2 b4 L2 g cap xs A4 W) (k : Kept W W') : RP w n0 b2 b4 L2 g cap xs A4 W' := ⟨h.kp.trans k, h.m.kept k, h.r.kept k, h.rb.kept k, h.ne, Nat.le_trans h.sz k.size⟩
theorem RP.put {w W W' : World} {n0 b2 b4 g cap : Nat} {L2 A4 A5 : Array Value} {xs : List Int} (h : RP w n0 b2 b4 L2 g cap xs A4 W) (hb : Blk W' b4 A5 73) (k : Upd (fun i => i = b4) W W') : RP w n0 b2 b4 L2 g cap xs A5 W' := by
  have n := h.ne
  exact ⟨h.kp.then k (fun i hi e => by omega), h.m.upd k (by omega), hb, h.rb.upd k (by omega), n, Nat.le_trans h.sz k.size⟩

set_option maxRecDepth 100000 in
set_option maxHeartbeats 8000000 in
theorem refQ_1 {w : World} {g cap N : Nat} {xs : List Int} {l : Lay} {k : Int} {tp r : Nat} (v : Int) (hG : Geo l k tp r) (hr : RB w g cap xs) (hN : xs.length = N) (hm : N ≤ 1000000) {t b x : Int} {gt of : Bool} (c0 : Int) (hc : bget xs ((tp : Int) + 1) = c0) (hc1 : 0 ≤ c0 ∧ c0 ≤ 1000000) :
    Calls Try.prog 88 #[.agg (RMA l k v 1 1 t b x false gt of).toArray, .slice (some ⟨g, 0, none⟩) N cap, .int .i64 (tp : Int), .int .i64 ((tp : Int) + 1)] w (RefEnd N l k v 1 1 t (c0 - 1) x false gt of xs g w) := by
  have HTo := fun w => Lib.hid (refTop_g hG w)
  have HBo := fun w => Lib.hid (refBottom_g hG w)
  have HSl := fun j h0 h9 w => Lib.hid (refSlot_g hG j h0 h9 w)
  have hW0 := RS.start (l := l) (k := k) (v := v) (kn := 1) (a := 1) (t := t) (b := b) (x := x) (dn := false) (gt := gt) (of := of) hr
  have HRO := Lib.hid hG.room
  have htp := hG.tp_le
  have HN := Lib.hid hN
  clear hG hr hN
  obtain ⟨verts, arcs, workers, room, res, lex, hh, flag, pending, ask, count, sense, deques, size⟩ := l
  simp only [Lay.val, Lay.vals] at HTo HBo HSl
  simp only [RMA] at hW0 ⊢
  have hz24 : (Try.prog.info? 73).map (·.size) = some 24 := by kernel_rfl
  have HZ := Lib.hid hz24
  clear hz24
  go_enter Try.func88, Try.ntmps88
  go_upto_region 1 with (fail)
  generalize ((w.alloc (.cells #[.int .i64 1, .int .i64 1, .int .i64 k, .int .i64 verts, .int .i64 arcs, .int .i64 workers, .int .i64 room, .int .i64 res, .int .i64 lex, .int .i64 hh, .int .i64 flag, .int .i64 pending, .int .i64 ask, .int .i64 count, .int .i64 sense, .int .i64 deques, .int .i64 size, .int .i64 v, .int .i64 t, .int .i64 b, .int .i64 x, .bool false, .bool gt, .bool of] 73)).alloc (.cells #[.int .i64 0, .int .i64 0, .int .i64 0, .int .i64 0, .int .i64 0, .int .i64 0, .int .i64 0, .int .i64 0, .int .i64 0, .int .i64 0, .int .i64 0, .int .i64 0, .int .i64 0, .int .i64 0, .int .i64 0, .int .i64 0, .int .i64 0, .int .i64 0, .int .i64 0, .int .i64 0, .int .i64 0, .bool false, .bool false, .bool false] 73)) = W0 at hW0 ⊢
  have hW0 : RS w g w.heap.size (w.heap.size + 1) (⟨verts, arcs, workers, room, res, lex, hh, flag, pending, ask, count, sense, deques, size⟩ : Lay) k v 1 1 t b x false gt of g cap xs W0 := hW0
  generalize w.heap.size + 1 = b4 at hW0 ⊢
  generalize hb2 : w.heap.size = b2 at hW0 ⊢
  clear hb2
  have S := Lib.hid hW0
  clear hW0
  have hw : wrap64 (c0 - 1) = c0 - 1 := by unfold wrap64; omega
  have hw2 : IntKind.i64.wrap (c0 - 1) = c0 - 1 := by rw [IntKind.wrap_i64]; omega
  have m2 : ∀ i : Nat, W0.cell? ⟨b2, i, none⟩ = (#[.int .i64 1, .int .i64 1, .int .i64 k, .int .i64 verts, .int .i64 arcs, .int .i64 workers, .int .i64 room, .int .i64 res, .int .i64 lex, .int .i64 hh, .int .i64 flag, .int .i64 pending, .int .i64 ask, .int .i64 count, .int .i64 sense, .int .i64 deques, .int .i64 size, .int .i64 v, .int .i64 t, .int .i64 b, .int .i64 x, .bool false, .bool gt, .bool of] : Array Value)[i]? := S.out.m.cell
  have f2 : ∀ i : Nat, W0.frozen? ⟨b2, i, none⟩ = false := S.out.m.free
  go_wp2_with fail
  refine (refLoadN S.out.rb HN.out _ c0 hc hm).mono ?_
  rintro e w5 ⟨rfl, rfl⟩
  go_upto_region 21 with (fail)
  have S1 := Lib.hid (S.out.upd (i := 19) (u := .int .i64 (c0 - 1)) rfl)
  clear m2 f2 S
  generalize World.setCell _ ⟨b2, 19, none⟩ _ = WS1 at S1 ⊢
  have hra : WS1.rangeAt b2 0 [.int .i64 1, .int .i64 1, .int .i64 k, .int .i64 verts, .int .i64 arcs, .int .i64 workers, .int .i64 room, .int .i64 res, .int .i64 lex, .int .i64 hh, .int .i64 flag, .int .i64 pending, .int .i64 ask, .int .i64 count, .int .i64 sense, .int .i64 deques, .int .i64 size, .int .i64 v, .int .i64 t, .int .i64 (c0 - 1), .int .i64 x, .bool false, .bool gt, .bool of] := Blk.range S1.out.m
  have hth := Blk.there S1.out.r 24 rfl
  obtain ⟨W9, hW9⟩ : ∃ W9, WS1.setCells b4 0 [.int .i64 1, .int .i64 1, .int .i64 k, .int .i64 verts, .int .i64 arcs, .int .i64 workers, .int .i64 room, .int .i64 res, .int .i64 lex, .int .i64 hh, .int .i64 flag, .int .i64 pending, .int .i64 ask, .int .i64 count, .int .i64 sense, .int .i64 deques, .int .i64 size, .int .i64 v, .int .i64 t, .int .i64 (c0 - 1), .int .i64 x, .bool false, .bool gt, .bool of] = W9 := ⟨_, rfl⟩
  have hB9 : Blk W9 b4 #[.int .i64 1, .int .i64 1, .int .i64 k, .int .i64 verts, .int .i64 arcs, .int .i64 workers, .int .i64 room, .int .i64 res, .int .i64 lex, .int .i64 hh, .int .i64 flag, .int .i64 pending, .int .i64 ask, .int .i64 count, .int .i64 sense, .int .i64 deques, .int .i64 size, .int .i64 v, .int .i64 t, .int .i64 (c0 - 1), .int .i64 x, .bool false, .bool gt, .bool of] 73 ∧ Upd (fun k => k = b4) WS1 W9 := by rw [← hW9]; exact Blk.alls S1.out.r [.int .i64 1, .int .i64 1, .int .i64 k, .int .i64 verts, .int .i64 arcs, .int .i64 workers, .int .i64 room, .int .i64 res, .int .i64 lex, .int .i64 hh, .int .i64 flag, .int .i64 pending, .int .i64 ask, .int .i64 count, .int .i64 sense, .int .i64 deques, .int .i64 size, .int .i64 v, .int .i64 t, .int .i64 (c0 - 1), .int .i64 x, .bool false, .bool gt, .bool of] rfl
  have hr9 : W9.rangeAt b4 0 [.int .i64 1, .int .i64 1, .int .i64 k, .int .i64 verts, .int .i64 arcs, .int .i64 workers, .int .i64 room, .int .i64 res, .int .i64 lex, .int .i64 hh, .int .i64 flag, .int .i64 pending, .int .i64 ask, .int .i64 count, .int .i64 sense, .int .i64 deques, .int .i64 size, .int .i64 v, .int .i64 t, .int .i64 (c0 - 1), .int .i64 x, .bool false, .bool gt, .bool of] := Blk.range hB9.1
  have hz24 := HZ.out
  have hlv := run_loadVar_mid (P := Try.prog) W9 b4 0 73 [.int .i64 1, .int .i64 1, .int .i64 k, .int .i64 verts, .int .i64 arcs, .int .i64 workers, .int .i64 room, .int .i64 res, .int .i64 lex, .int .i64 hh, .int .i64 flag, .int .i64 pending, .int .i64 ask, .int .i64 count, .int .i64 sense, .int .i64 deques, .int .i64 size, .int .i64 v, .int .i64 t, .int .i64 (c0 - 1), .int .i64 x, .bool false, .bool gt, .bool of] _ hr9 Try.underlying73 rfl hz24
  have HF := Lib.hid (S1.out.end9 N hB9.2)
  clear hB9 hr9 S1
  go_wp2_with (first | (refine wpList_load_mid rfl _ _ rfl b2 0 rfl [.int .i64 1, .int .i64 1, .int .i64 k, .int .i64 verts, .int .i64 arcs, .int .i64 workers, .int .i64 room, .int .i64 res, .int .i64 lex, .int .i64 hh, .int .i64 flag, .int .i64 pending, .int .i64 ask, .int .i64 count, .int .i64 sense, .int .i64 deques, .int .i64 size, .int .i64 v, .int .i64 t, .int .i64 (c0 - 1), .int .i64 x, .bool false, .bool gt, .bool of] _ hra Try.underlying73 rfl hz24 ?_) | (refine wpList_store_mid rfl _ _ _ rfl b4 0 #[.int .i64 1, .int .i64 1, .int .i64 k, .int .i64 verts, .int .i64 arcs, .int .i64 workers, .int .i64 room, .int .i64 res, .int .i64 lex, .int .i64 hh, .int .i64 flag, .int .i64 pending, .int .i64 ask, .int .i64 count, .int .i64 sense, .int .i64 deques, .int .i64 size, .int .i64 v, .int .i64 t, .int .i64 (c0 - 1), .int .i64 x, .bool false, .bool gt, .bool of] rfl rfl hth hz24 (all_oneCell_toArray (cs := [.int .i64 1, .int .i64 1, .int .i64 k, .int .i64 verts, .int .i64 arcs, .int .i64 workers, .int .i64 room, .int .i64 res, .int .i64 lex, .int .i64 hh, .int .i64 flag, .int .i64 pending, .int .i64 ask, .int .i64 count, .int .i64 sense, .int .i64 deques, .int .i64 size, .int .i64 v, .int .i64 t, .int .i64 (c0 - 1), .int .i64 x, .bool false, .bool gt, .bool of]) (by simp [Value.oneCell'])) ?_; simp only [hW9]) | fail)
  clear hth hra hW9
  exact bodyPost_ret (v := .tuple #[.agg #[.int .i64 1, .int .i64 1, .int .i64 k, .int .i64 verts, .int .i64 arcs, .int .i64 workers, .int .i64 room, .int .i64 res, .int .i64 lex, .int .i64 hh, .int .i64 flag, .int .i64 pending, .int .i64 ask, .int .i64 count, .int .i64 sense, .int .i64 deques, .int .i64 size, .int .i64 v, .int .i64 t, .int .i64 (c0 - 1), .int .i64 x, .bool false, .bool gt, .bool of], .slice (some ⟨g, 0, none⟩) N cap]) (by simp [results, Try.results88, hlv, asAddr, Act.put]) rfl HF.out

set_option maxRecDepth 100000 in
set_option maxHeartbeats 8000000 in
theorem refQ_2 {w : World} {g cap N : Nat} {xs : List Int} {l : Lay} {k : Int} {tp r : Nat} (v : Int) (hG : Geo l k tp r) (hr : RB w g cap xs) (hN : xs.length = N) (hm : N ≤ 1000000) {t b x : Int} {gt of : Bool} (ys : List Int) (hy : bput xs ((tp : Int) + 1) b = ys) :
    Calls Try.prog 88 #[.agg (RMA l k v 1 2 t b x false gt of).toArray, .slice (some ⟨g, 0, none⟩) N cap, .int .i64 (tp : Int), .int .i64 ((tp : Int) + 1)] w (RefEnd N l k v 1 2 t b x false gt of ys g w) := by
  have HTo := fun w => Lib.hid (refTop_g hG w)
  have HBo := fun w => Lib.hid (refBottom_g hG w)
  have HSl := fun j h0 h9 w => Lib.hid (refSlot_g hG j h0 h9 w)
  have hW0 := RS.start (l := l) (k := k) (v := v) (kn := 1) (a := 2) (t := t) (b := b) (x := x) (dn := false) (gt := gt) (of := of) hr
  have HRO := Lib.hid hG.room
  have htp := hG.tp_le
  have HN := Lib.hid hN
  clear hG hr hN
  obtain ⟨verts, arcs, workers, room, res, lex, hh, flag, pending, ask, count, sense, deques, size⟩ := l
  simp only [Lay.val, Lay.vals] at HTo HBo HSl
  simp only [RMA] at hW0 ⊢
  have hz24 : (Try.prog.info? 73).map (·.size) = some 24 := by kernel_rfl
  have HZ := Lib.hid hz24
  clear hz24
  go_enter Try.func88, Try.ntmps88
  go_upto_region 1 with (fail)
  generalize ((w.alloc (.cells #[.int .i64 1, .int .i64 2, .int .i64 k, .int .i64 verts, .int .i64 arcs, .int .i64 workers, .int .i64 room, .int .i64 res, .int .i64 lex, .int .i64 hh, .int .i64 flag, .int .i64 pending, .int .i64 ask, .int .i64 count, .int .i64 sense, .int .i64 deques, .int .i64 size, .int .i64 v, .int .i64 t, .int .i64 b, .int .i64 x, .bool false, .bool gt, .bool of] 73)).alloc (.cells #[.int .i64 0, .int .i64 0, .int .i64 0, .int .i64 0, .int .i64 0, .int .i64 0, .int .i64 0, .int .i64 0, .int .i64 0, .int .i64 0, .int .i64 0, .int .i64 0, .int .i64 0, .int .i64 0, .int .i64 0, .int .i64 0, .int .i64 0, .int .i64 0, .int .i64 0, .int .i64 0, .int .i64 0, .bool false, .bool false, .bool false] 73)) = W0 at hW0 ⊢
  have hW0 : RS w g w.heap.size (w.heap.size + 1) (⟨verts, arcs, workers, room, res, lex, hh, flag, pending, ask, count, sense, deques, size⟩ : Lay) k v 1 2 t b x false gt of g cap xs W0 := hW0
  generalize w.heap.size + 1 = b4 at hW0 ⊢
  generalize hb2 : w.heap.size = b2 at hW0 ⊢
  clear hb2
  have S := Lib.hid hW0
  clear hW0
  have m2 : ∀ i : Nat, W0.cell? ⟨b2, i, none⟩ = (#[.int .i64 1, .int .i64 2, .int .i64 k, .int .i64 verts, .int .i64 arcs, .int .i64 workers, .int .i64 room, .int .i64 res, .int .i64 lex, .int .i64 hh, .int .i64 flag, .int .i64 pending, .int .i64 ask, .int .i64 count, .int .i64 sense, .int .i64 deques, .int .i64 size, .int .i64 v, .int .i64 t, .int .i64 b, .int .i64 x, .bool false, .bool gt, .bool of] : Array Value)[i]? := S.out.m.cell
  have f2 : ∀ i : Nat, W0.frozen? ⟨b2, i, none⟩ = false := S.out.m.free
  go_wp2_with fail
  refine (refPutN S.out.rb HN.out _ _ hy hm).mono ?_
  rintro e w3 ⟨g3, cap3, rfl, hR3, hg3, hk3⟩
  have S1 := Lib.hid (S.out.mem hk3 hR3 hg3)
  clear hR3 hg3 hk3 S m2 f2
  have hra : w3.rangeAt b2 0 [.int .i64 1, .int .i64 2, .int .i64 k, .int .i64 verts, .int .i64 arcs, .int .i64 workers, .int .i64 room, .int .i64 res, .int .i64 lex, .int .i64 hh, .int .i64 flag, .int .i64 pending, .int .i64 ask, .int .i64 count, .int .i64 sense, .int .i64 deques, .int .i64 size, .int .i64 v, .int .i64 t, .int .i64 b, .int .i64 x, .bool false, .bool gt, .bool of] := Blk.range S1.out.m
  have hth := Blk.there S1.out.r 24 rfl
  obtain ⟨W9, hW9⟩ : ∃ W9, w3.setCells b4 0 [.int .i64 1, .int .i64 2, .int .i64 k, .int .i64 verts, .int .i64 arcs, .int .i64 workers, .int .i64 room, .int .i64 res, .int .i64 lex, .int .i64 hh, .int .i64 flag, .int .i64 pending, .int .i64 ask, .int .i64 count, .int .i64 sense, .int .i64 deques, .int .i64 size, .int .i64 v, .int .i64 t, .int .i64 b, .int .i64 x, .bool false, .bool gt, .bool of] = W9 := ⟨_, rfl⟩
  have hB9 : Blk W9 b4 #[.int .i64 1, .int .i64 2, .int .i64 k, .int .i64 verts, .int .i64 arcs, .int .i64 workers, .int .i64 room, .int .i64 res, .int .i64 lex, .int .i64 hh, .int .i64 flag, .int .i64 pending, .int .i64 ask, .int .i64 count, .int .i64 sense, .int .i64 deques, .int .i64 size, .int .i64 v, .int .i64 t, .int .i64 b, .int .i64 x, .bool false, .bool gt, .bool of] 73 ∧ Upd (fun k => k = b4) w3 W9 := by rw [← hW9]; exact Blk.alls S1.out.r [.int .i64 1, .int .i64 2, .int .i64 k, .int .i64 verts, .int .i64 arcs, .int .i64 workers, .int .i64 room, .int .i64 res, .int .i64 lex, .int .i64 hh, .int .i64 flag, .int .i64 pending, .int .i64 ask, .int .i64 count, .int .i64 sense, .int .i64 deques, .int .i64 size, .int .i64 v, .int .i64 t, .int .i64 b, .int .i64 x, .bool false, .bool gt, .bool of] rfl
  have hr9 : W9.rangeAt b4 0 [.int .i64 1, .int .i64 2, .int .i64 k, .int .i64 verts, .int .i64 arcs, .int .i64 workers, .int .i64 room, .int .i64 res, .int .i64 lex, .int .i64 hh, .int .i64 flag, .int .i64 pending, .int .i64 ask, .int .i64 count, .int .i64 sense, .int .i64 deques, .int .i64 size, .int .i64 v, .int .i64 t, .int .i64 b, .int .i64 x, .bool false, .bool gt, .bool of] := Blk.range hB9.1
  have hz24 := HZ.out
  have hlv := run_loadVar_mid (P := Try.prog) W9 b4 0 73 [.int .i64 1, .int .i64 2, .int .i64 k, .int .i64 verts, .int .i64 arcs, .int .i64 workers, .int .i64 room, .int .i64 res, .int .i64 lex, .int .i64 hh, .int .i64 flag, .int .i64 pending, .int .i64 ask, .int .i64 count, .int .i64 sense, .int .i64 deques, .int .i64 size, .int .i64 v, .int .i64 t, .int .i64 b, .int .i64 x, .bool false, .bool gt, .bool of] _ hr9 Try.underlying73 rfl hz24
  have HF := Lib.hid (S1.out.end9 N hB9.2)
  clear hB9 hr9 S1
  go_wp2_with (first | (refine wpList_load_mid rfl _ _ rfl b2 0 rfl [.int .i64 1, .int .i64 2, .int .i64 k, .int .i64 verts, .int .i64 arcs, .int .i64 workers, .int .i64 room, .int .i64 res, .int .i64 lex, .int .i64 hh, .int .i64 flag, .int .i64 pending, .int .i64 ask, .int .i64 count, .int .i64 sense, .int .i64 deques, .int .i64 size, .int .i64 v, .int .i64 t, .int .i64 b, .int .i64 x, .bool false, .bool gt, .bool of] _ hra Try.underlying73 rfl hz24 ?_) | (refine wpList_store_mid rfl _ _ _ rfl b4 0 #[.int .i64 1, .int .i64 2, .int .i64 k, .int .i64 verts, .int .i64 arcs, .int .i64 workers, .int .i64 room, .int .i64 res, .int .i64 lex, .int .i64 hh, .int .i64 flag, .int .i64 pending, .int .i64 ask, .int .i64 count, .int .i64 sense, .int .i64 deques, .int .i64 size, .int .i64 v, .int .i64 t, .int .i64 b, .int .i64 x, .bool false, .bool gt, .bool of] rfl rfl hth hz24 (all_oneCell_toArray (cs := [.int .i64 1, .int .i64 2, .int .i64 k, .int .i64 verts, .int .i64 arcs, .int .i64 workers, .int .i64 room, .int .i64 res, .int .i64 lex, .int .i64 hh, .int .i64 flag, .int .i64 pending, .int .i64 ask, .int .i64 count, .int .i64 sense, .int .i64 deques, .int .i64 size, .int .i64 v, .int .i64 t, .int .i64 b, .int .i64 x, .bool false, .bool gt, .bool of]) (by simp [Value.oneCell'])) ?_; simp only [hW9]) | fail)
  clear hth hra hW9
  exact bodyPost_ret (v := .tuple #[.agg #[.int .i64 1, .int .i64 2, .int .i64 k, .int .i64 verts, .int .i64 arcs, .int .i64 workers, .int .i64 room, .int .i64 res, .int .i64 lex, .int .i64 hh, .int .i64 flag, .int .i64 pending, .int .i64 ask, .int .i64 count, .int .i64 sense, .int .i64 deques, .int .i64 size, .int .i64 v, .int .i64 t, .int .i64 b, .int .i64 x, .bool false, .bool gt, .bool of], .slice (some ⟨g3, 0, none⟩) N cap3]) (by simp [results, Try.results88, hlv, asAddr, Act.put]) rfl HF.out

set_option maxRecDepth 100000 in
set_option maxHeartbeats 8000000 in
theorem refQ_3 {w : World} {g cap N : Nat} {xs : List Int} {l : Lay} {k : Int} {tp r : Nat} (v : Int) (hG : Geo l k tp r) (hr : RB w g cap xs) (hN : xs.length = N) (hm : N ≤ 1000000) {t b x : Int} {gt of : Bool} (t' : Int) (ht' : bget xs (tp : Int) = t') :
    Calls Try.prog 88 #[.agg (RMA l k v 1 3 t b x false gt of).toArray, .slice (some ⟨g, 0, none⟩) N cap, .int .i64 (tp : Int), .int .i64 ((tp : Int) + 1)] w (RefEnd N l k v 1 3 t' b x false gt of xs g w) := by
  have HTo := fun w => Lib.hid (refTop_g hG w)
  have HBo := fun w => Lib.hid (refBottom_g hG w)
  have HSl := fun j h0 h9 w => Lib.hid (refSlot_g hG j h0 h9 w)
  have hW0 := RS.start (l := l) (k := k) (v := v) (kn := 1) (a := 3) (t := t) (b := b) (x := x) (dn := false) (gt := gt) (of := of) hr
  have HRO := Lib.hid hG.room
  have htp := hG.tp_le
  have HN := Lib.hid hN
  clear hG hr hN
  obtain ⟨verts, arcs, workers, room, res, lex, hh, flag, pending, ask, count, sense, deques, size⟩ := l
  simp only [Lay.val, Lay.vals] at HTo HBo HSl
  simp only [RMA] at hW0 ⊢
  have hz24 : (Try.prog.info? 73).map (·.size) = some 24 := by kernel_rfl
  have HZ := Lib.hid hz24
  clear hz24
  go_enter Try.func88, Try.ntmps88
  go_upto_region 1 with (fail)
  generalize ((w.alloc (.cells #[.int .i64 1, .int .i64 3, .int .i64 k, .int .i64 verts, .int .i64 arcs, .int .i64 workers, .int .i64 room, .int .i64 res, .int .i64 lex, .int .i64 hh, .int .i64 flag, .int .i64 pending, .int .i64 ask, .int .i64 count, .int .i64 sense, .int .i64 deques, .int .i64 size, .int .i64 v, .int .i64 t, .int .i64 b, .int .i64 x, .bool false, .bool gt, .bool of] 73)).alloc (.cells #[.int .i64 0, .int .i64 0, .int .i64 0, .int .i64 0, .int .i64 0, .int .i64 0, .int .i64 0, .int .i64 0, .int .i64 0, .int .i64 0, .int .i64 0, .int .i64 0, .int .i64 0, .int .i64 0, .int .i64 0, .int .i64 0, .int .i64 0, .int .i64 0, .int .i64 0, .int .i64 0, .int .i64 0, .bool false, .bool false, .bool false] 73)) = W0 at hW0 ⊢
  have hW0 : RS w g w.heap.size (w.heap.size + 1) (⟨verts, arcs, workers, room, res, lex, hh, flag, pending, ask, count, sense, deques, size⟩ : Lay) k v 1 3 t b x false gt of g cap xs W0 := hW0
  generalize w.heap.size + 1 = b4 at hW0 ⊢
  generalize hb2 : w.heap.size = b2 at hW0 ⊢
  clear hb2
  have S := Lib.hid hW0
  clear hW0
  have m2 : ∀ i : Nat, W0.cell? ⟨b2, i, none⟩ = (#[.int .i64 1, .int .i64 3, .int .i64 k, .int .i64 verts, .int .i64 arcs, .int .i64 workers, .int .i64 room, .int .i64 res, .int .i64 lex, .int .i64 hh, .int .i64 flag, .int .i64 pending, .int .i64 ask, .int .i64 count, .int .i64 sense, .int .i64 deques, .int .i64 size, .int .i64 v, .int .i64 t, .int .i64 b, .int .i64 x, .bool false, .bool gt, .bool of] : Array Value)[i]? := S.out.m.cell
  have f2 : ∀ i : Nat, W0.frozen? ⟨b2, i, none⟩ = false := S.out.m.free
  go_wp2_with fail
  refine (refLoadN S.out.rb HN.out _ t' ht' hm).mono ?_
  rintro e w5 ⟨rfl, rfl⟩
  go_upto_region 21 with (fail)
  have S1 := Lib.hid (S.out.upd (i := 18) (u := .int .i64 t') rfl)
  clear m2 f2 S
  generalize World.setCell _ ⟨b2, 18, none⟩ _ = WS1 at S1 ⊢
  have hra : WS1.rangeAt b2 0 [.int .i64 1, .int .i64 3, .int .i64 k, .int .i64 verts, .int .i64 arcs, .int .i64 workers, .int .i64 room, .int .i64 res, .int .i64 lex, .int .i64 hh, .int .i64 flag, .int .i64 pending, .int .i64 ask, .int .i64 count, .int .i64 sense, .int .i64 deques, .int .i64 size, .int .i64 v, .int .i64 t', .int .i64 b, .int .i64 x, .bool false, .bool gt, .bool of] := Blk.range S1.out.m
  have hth := Blk.there S1.out.r 24 rfl
  obtain ⟨W9, hW9⟩ : ∃ W9, WS1.setCells b4 0 [.int .i64 1, .int .i64 3, .int .i64 k, .int .i64 verts, .int .i64 arcs, .int .i64 workers, .int .i64 room, .int .i64 res, .int .i64 lex, .int .i64 hh, .int .i64 flag, .int .i64 pending, .int .i64 ask, .int .i64 count, .int .i64 sense, .int .i64 deques, .int .i64 size, .int .i64 v, .int .i64 t', .int .i64 b, .int .i64 x, .bool false, .bool gt, .bool of] = W9 := ⟨_, rfl⟩
  have hB9 : Blk W9 b4 #[.int .i64 1, .int .i64 3, .int .i64 k, .int .i64 verts, .int .i64 arcs, .int .i64 workers, .int .i64 room, .int .i64 res, .int .i64 lex, .int .i64 hh, .int .i64 flag, .int .i64 pending, .int .i64 ask, .int .i64 count, .int .i64 sense, .int .i64 deques, .int .i64 size, .int .i64 v, .int .i64 t', .int .i64 b, .int .i64 x, .bool false, .bool gt, .bool of] 73 ∧ Upd (fun k => k = b4) WS1 W9 := by rw [← hW9]; exact Blk.alls S1.out.r [.int .i64 1, .int .i64 3, .int .i64 k, .int .i64 verts, .int .i64 arcs, .int .i64 workers, .int .i64 room, .int .i64 res, .int .i64 lex, .int .i64 hh, .int .i64 flag, .int .i64 pending, .int .i64 ask, .int .i64 count, .int .i64 sense, .int .i64 deques, .int .i64 size, .int .i64 v, .int .i64 t', .int .i64 b, .int .i64 x, .bool false, .bool gt, .bool of] rfl
  have hr9 : W9.rangeAt b4 0 [.int .i64 1, .int .i64 3, .int .i64 k, .int .i64 verts, .int .i64 arcs, .int .i64 workers, .int .i64 room, .int .i64 res, .int .i64 lex, .int .i64 hh, .int .i64 flag, .int .i64 pending, .int .i64 ask, .int .i64 count, .int .i64 sense, .int .i64 deques, .int .i64 size, .int .i64 v, .int .i64 t', .int .i64 b, .int .i64 x, .bool false, .bool gt, .bool of] := Blk.range hB9.1
  have hz24 := HZ.out
  have hlv := run_loadVar_mid (P := Try.prog) W9 b4 0 73 [.int .i64 1, .int .i64 3, .int .i64 k, .int .i64 verts, .int .i64 arcs, .int .i64 workers, .int .i64 room, .int .i64 res, .int .i64 lex, .int .i64 hh, .int .i64 flag, .int .i64 pending, .int .i64 ask, .int .i64 count, .int .i64 sense, .int .i64 deques, .int .i64 size, .int .i64 v, .int .i64 t', .int .i64 b, .int .i64 x, .bool false, .bool gt, .bool of] _ hr9 Try.underlying73 rfl hz24
  have HF := Lib.hid (S1.out.end9 N hB9.2)
  clear hB9 hr9 S1
  go_wp2_with (first | (refine wpList_load_mid rfl _ _ rfl b2 0 rfl [.int .i64 1, .int .i64 3, .int .i64 k, .int .i64 verts, .int .i64 arcs, .int .i64 workers, .int .i64 room, .int .i64 res, .int .i64 lex, .int .i64 hh, .int .i64 flag, .int .i64 pending, .int .i64 ask, .int .i64 count, .int .i64 sense, .int .i64 deques, .int .i64 size, .int .i64 v, .int .i64 t', .int .i64 b, .int .i64 x, .bool false, .bool gt, .bool of] _ hra Try.underlying73 rfl hz24 ?_) | (refine wpList_store_mid rfl _ _ _ rfl b4 0 #[.int .i64 1, .int .i64 3, .int .i64 k, .int .i64 verts, .int .i64 arcs, .int .i64 workers, .int .i64 room, .int .i64 res, .int .i64 lex, .int .i64 hh, .int .i64 flag, .int .i64 pending, .int .i64 ask, .int .i64 count, .int .i64 sense, .int .i64 deques, .int .i64 size, .int .i64 v, .int .i64 t', .int .i64 b, .int .i64 x, .bool false, .bool gt, .bool of] rfl rfl hth hz24 (all_oneCell_toArray (cs := [.int .i64 1, .int .i64 3, .int .i64 k, .int .i64 verts, .int .i64 arcs, .int .i64 workers, .int .i64 room, .int .i64 res, .int .i64 lex, .int .i64 hh, .int .i64 flag, .int .i64 pending, .int .i64 ask, .int .i64 count, .int .i64 sense, .int .i64 deques, .int .i64 size, .int .i64 v, .int .i64 t', .int .i64 b, .int .i64 x, .bool false, .bool gt, .bool of]) (by simp [Value.oneCell'])) ?_; simp only [hW9]) | fail)
  clear hth hra hW9
  exact bodyPost_ret (v := .tuple #[.agg #[.int .i64 1, .int .i64 3, .int .i64 k, .int .i64 verts, .int .i64 arcs, .int .i64 workers, .int .i64 room, .int .i64 res, .int .i64 lex, .int .i64 hh, .int .i64 flag, .int .i64 pending, .int .i64 ask, .int .i64 count, .int .i64 sense, .int .i64 deques, .int .i64 size, .int .i64 v, .int .i64 t', .int .i64 b, .int .i64 x, .bool false, .bool gt, .bool of], .slice (some ⟨g, 0, none⟩) N cap]) (by simp [results, Try.results88, hlv, asAddr, Act.put]) rfl HF.out

set_option maxRecDepth 100000 in
set_option maxHeartbeats 8000000 in
theorem refQ_4n {w : World} {g cap N : Nat} {xs : List Int} {l : Lay} {k : Int} {tp r : Nat} (v : Int) (hG : Geo l k tp r) (hr : RB w g cap xs) (hN : xs.length = N) (hm : N ≤ 1000000) {t b x : Int} {gt of : Bool} (ys : List Int) (hy : bput xs ((tp : Int) + 1) (b + 1) = ys) (h1 : b < t) (hb1 : -1 ≤ b ∧ b ≤ 1000000) :
    Calls Try.prog 88 #[.agg (RMA l k v 1 4 t b x false gt of).toArray, .slice (some ⟨g, 0, none⟩) N cap, .int .i64 (tp : Int), .int .i64 ((tp : Int) + 1)] w (RefEnd N l k v 1 4 t b x true gt of ys g w) := by
  have HTo := fun w => Lib.hid (refTop_g hG w)
  have HBo := fun w => Lib.hid (refBottom_g hG w)
  have HSl := fun j h0 h9 w => Lib.hid (refSlot_g hG j h0 h9 w)
  have hW0 := RS.start (l := l) (k := k) (v := v) (kn := 1) (a := 4) (t := t) (b := b) (x := x) (dn := false) (gt := gt) (of := of) hr
  have HRO := Lib.hid hG.room
  have htp := hG.tp_le
  have HN := Lib.hid hN
  clear hG hr hN
  obtain ⟨verts, arcs, workers, room, res, lex, hh, flag, pending, ask, count, sense, deques, size⟩ := l
  simp only [Lay.val, Lay.vals] at HTo HBo HSl
  simp only [RMA] at hW0 ⊢
  have hz24 : (Try.prog.info? 73).map (·.size) = some 24 := by kernel_rfl
  have HZ := Lib.hid hz24
  clear hz24
  go_enter Try.func88, Try.ntmps88
  go_upto_region 1 with (fail)
  generalize ((w.alloc (.cells #[.int .i64 1, .int .i64 4, .int .i64 k, .int .i64 verts, .int .i64 arcs, .int .i64 workers, .int .i64 room, .int .i64 res, .int .i64 lex, .int .i64 hh, .int .i64 flag, .int .i64 pending, .int .i64 ask, .int .i64 count, .int .i64 sense, .int .i64 deques, .int .i64 size, .int .i64 v, .int .i64 t, .int .i64 b, .int .i64 x, .bool false, .bool gt, .bool of] 73)).alloc (.cells #[.int .i64 0, .int .i64 0, .int .i64 0, .int .i64 0, .int .i64 0, .int .i64 0, .int .i64 0, .int .i64 0, .int .i64 0, .int .i64 0, .int .i64 0, .int .i64 0, .int .i64 0, .int .i64 0, .int .i64 0, .int .i64 0, .int .i64 0, .int .i64 0, .int .i64 0, .int .i64 0, .int .i64 0, .bool false, .bool false, .bool false] 73)) = W0 at hW0 ⊢
  have hW0 : RS w g w.heap.size (w.heap.size + 1) (⟨verts, arcs, workers, room, res, lex, hh, flag, pending, ask, count, sense, deques, size⟩ : Lay) k v 1 4 t b x false gt of g cap xs W0 := hW0
  generalize w.heap.size + 1 = b4 at hW0 ⊢
  generalize hb2 : w.heap.size = b2 at hW0 ⊢
  clear hb2
  have S := Lib.hid hW0
  clear hW0
  have hw : wrap64 (b + 1) = b + 1 := by unfold wrap64; omega
  have hw2 : IntKind.i64.wrap (b + 1) = b + 1 := by rw [IntKind.wrap_i64]; omega
  have hd1 : decide (b < t) = true := by simpa using h1
  have m2 : ∀ i : Nat, W0.cell? ⟨b2, i, none⟩ = (#[.int .i64 1, .int .i64 4, .int .i64 k, .int .i64 verts, .int .i64 arcs, .int .i64 workers, .int .i64 room, .int .i64 res, .int .i64 lex, .int .i64 hh, .int .i64 flag, .int .i64 pending, .int .i64 ask, .int .i64 count, .int .i64 sense, .int .i64 deques, .int .i64 size, .int .i64 v, .int .i64 t, .int .i64 b, .int .i64 x, .bool false, .bool gt, .bool of] : Array Value)[i]? := S.out.m.cell
  have f2 : ∀ i : Nat, W0.frozen? ⟨b2, i, none⟩ = false := S.out.m.free
  go_upto_region 13 with (fail)
  have S1 := Lib.hid (S.out.upd (i := 21) (u := .bool true) rfl)
  clear m2 f2 S
  generalize World.setCell _ ⟨b2, 21, none⟩ _ = WS1 at S1 ⊢
  generalize b2 = mb at S1 ⊢
  generalize b4 = rb at S1 ⊢
  obtain ⟨n0, hn0⟩ : ∃ n0, WS1.heap.size = n0 := ⟨_, rfl⟩
  have HRB : Hid (rb < n0 ∧ w.heap.size ≤ n0) := Lib.hid (by have q := S1.out.r.lt; have q2 := S1.out.kp.size; omega)
  have S2 : Hid (RP w n0 mb rb #[.int .i64 1, .int .i64 4, .int .i64 k, .int .i64 verts, .int .i64 arcs, .int .i64 workers, .int .i64 room, .int .i64 res, .int .i64 lex, .int .i64 hh, .int .i64 flag, .int .i64 pending, .int .i64 ask, .int .i64 count, .int .i64 sense, .int .i64 deques, .int .i64 size, .int .i64 v, .int .i64 t, .int .i64 b, .int .i64 x, .bool true, .bool gt, .bool of] g cap xs #[.int .i64 0, .int .i64 0, .int .i64 0, .int .i64 0, .int .i64 0, .int .i64 0, .int .i64 0, .int .i64 0, .int .i64 0, .int .i64 0, .int .i64 0, .int .i64 0, .int .i64 0, .int .i64 0, .int .i64 0, .int .i64 0, .int .i64 0, .int .i64 0, .int .i64 0, .int .i64 0, .int .i64 0, .bool false, .bool false, .bool false] WS1.drew) := Lib.hid ⟨S1.out.kp.trans (Upd.refl _ _).drew, S1.out.m, S1.out.r, S1.out.rb.kept (Upd.refl _ _).drew, by have q := S1.out.ne; omega, Nat.le_of_eq hn0.symm⟩
  clear S1 hn0 h1 hd1
  obtain ⟨JI, HJI⟩ : ∃ JI : Bool → Bool → Bool → Bool → Bool → Bool → Bool → Bool → Bool → Value → Value → Value → Value → Value → Value → Value → Value → Nat → Nat → World → Prop, Hid (∀ (b0 b1 b2 b3 b4 b5 b6 b7 b8 : Bool) (v47 v48 v49 v50 v51 v52 v53 v9 : Value) (g53 c53 : Nat) (W : World), JI b0 b1 b2 b3 b4 b5 b6 b7 b8 v47 v48 v49 v50 v51 v52 v53 v9 g53 c53 W ↔ (Hid (RP w n0 mb rb #[.int .i64 1, .int .i64 4, .int .i64 k, .int .i64 verts, .int .i64 arcs, .int .i64 workers, .int .i64 room, .int .i64 res, .int .i64 lex, .int .i64 hh, .int .i64 flag, .int .i64 pending, .int .i64 ask, .int .i64 count, .int .i64 sense, .int .i64 deques, .int .i64 size, .int .i64 v, .int .i64 t, .int .i64 b, .int .i64 x, .bool true, .bool gt, .bool of] g cap xs (if b7 = true then #[.int .i64 1, .int .i64 4, .int .i64 k, .int .i64 verts, .int .i64 arcs, .int .i64 workers, .int .i64 room, .int .i64 res, .int .i64 lex, .int .i64 hh, .int .i64 flag, .int .i64 pending, .int .i64 ask, .int .i64 count, .int .i64 sense, .int .i64 deques, .int .i64 size, .int .i64 v, .int .i64 t, .int .i64 b, .int .i64 x, .bool true, .bool gt, .bool of] else #[.int .i64 0, .int .i64 0, .int .i64 0, .int .i64 0, .int .i64 0, .int .i64 0, .int .i64 0, .int .i64 0, .int .i64 0, .int .i64 0, .int .i64 0, .int .i64 0, .int .i64 0, .int .i64 0, .int .i64 0, .int .i64 0, .int .i64 0, .int .i64 0, .int .i64 0, .int .i64 0, .int .i64 0, .bool false, .bool false, .bool false]) W) ∧
    Hid (b0 = true → v47 = .agg #[.int .i64 1, .int .i64 4, .int .i64 k, .int .i64 verts, .int .i64 arcs, .int .i64 workers, .int .i64 room, .int .i64 res, .int .i64 lex, .int .i64 hh, .int .i64 flag, .int .i64 pending, .int .i64 ask, .int .i64 count, .int .i64 sense, .int .i64 deques, .int .i64 size, .int .i64 v, .int .i64 t, .int .i64 b, .int .i64 x, .bool true, .bool gt, .bool of]) ∧
    Hid (b1 = true → v48 = .slice (some ⟨g, 0, none⟩) N cap) ∧
    Hid (b2 = true → v49 = .int .i64 ((tp : Int) + 1)) ∧
    Hid (b3 = true → v50 = .pointer (some ⟨mb, 19, none⟩)) ∧
    Hid (b4 = true → v51 = .int .i64 b) ∧
    Hid (b5 = true → v52 = .int .i64 (b + 1)) ∧
    Hid (b6 = true → v53 = .slice (some ⟨g53, 0, none⟩) N c53 ∧ RB W g53 c53 ys ∧ n0 ≤ g53) ∧
    Hid (b8 = true → v9 = .slice (some ⟨g53, 0, none⟩) N c53 ∧ b6 = true))) := ⟨fun b0 b1 b2 b3 b4 b5 b6 b7 b8 v47 v48 v49 v50 v51 v52 v53 v9 g53 c53 W => (Hid (RP w n0 mb rb #[.int .i64 1, .int .i64 4, .int .i64 k, .int .i64 verts, .int .i64 arcs, .int .i64 workers, .int .i64 room, .int .i64 res, .int .i64 lex, .int .i64 hh, .int .i64 flag, .int .i64 pending, .int .i64 ask, .int .i64 count, .int .i64 sense, .int .i64 deques, .int .i64 size, .int .i64 v, .int .i64 t, .int .i64 b, .int .i64 x, .bool true, .bool gt, .bool of] g cap xs (if b7 = true then #[.int .i64 1, .int .i64 4, .int .i64 k, .int .i64 verts, .int .i64 arcs, .int .i64 workers, .int .i64 room, .int .i64 res, .int .i64 lex, .int .i64 hh, .int .i64 flag, .int .i64 pending, .int .i64 ask, .int .i64 count, .int .i64 sense, .int .i64 deques, .int .i64 size, .int .i64 v, .int .i64 t, .int .i64 b, .int .i64 x, .bool true, .bool gt, .bool of] else #[.int .i64 0, .int .i64 0, .int .i64 0, .int .i64 0, .int .i64 0, .int .i64 0, .int .i64 0, .int .i64 0, .int .i64 0, .int .i64 0, .int .i64 0, .int .i64 0, .int .i64 0, .int .i64 0, .int .i64 0, .int .i64 0, .int .i64 0, .int .i64 0, .int .i64 0, .int .i64 0, .int .i64 0, .bool false, .bool false, .bool false]) W) ∧
    Hid (b0 = true → v47 = .agg #[.int .i64 1, .int .i64 4, .int .i64 k, .int .i64 verts, .int .i64 arcs, .int .i64 workers, .int .i64 room, .int .i64 res, .int .i64 lex, .int .i64 hh, .int .i64 flag, .int .i64 pending, .int .i64 ask, .int .i64 count, .int .i64 sense, .int .i64 deques, .int .i64 size, .int .i64 v, .int .i64 t, .int .i64 b, .int .i64 x, .bool true, .bool gt, .bool of]) ∧
    Hid (b1 = true → v48 = .slice (some ⟨g, 0, none⟩) N cap) ∧
    Hid (b2 = true → v49 = .int .i64 ((tp : Int) + 1)) ∧
    Hid (b3 = true → v50 = .pointer (some ⟨mb, 19, none⟩)) ∧
    Hid (b4 = true → v51 = .int .i64 b) ∧
    Hid (b5 = true → v52 = .int .i64 (b + 1)) ∧
    Hid (b6 = true → v53 = .slice (some ⟨g53, 0, none⟩) N c53 ∧ RB W g53 c53 ys ∧ n0 ≤ g53) ∧
    Hid (b8 = true → v9 = .slice (some ⟨g53, 0, none⟩) N c53 ∧ b6 = true)), Lib.hid (fun _ _ _ _ _ _ _ _ _ _ _ _ _ _ _ _ _ _ _ _ => Iff.rfl)⟩
  refine wp_region_inv (fun l us W => ∃ (b0 b1 b2 b3 b4 b5 b6 b7 b8 : Bool) (v47 v48 v49 v50 v51 v52 v53 v9 : Value) (g53 c53 : Nat), l = #[b0, b1, b2, b3, b4, b5, b6, b7, b8] ∧ us = [v47, v48, v49, v50, v51, v52, v53, v9] ∧ JI b0 b1 b2 b3 b4 b5 b6 b7 b8 v47 v48 v49 v50 v51 v52 v53 v9 g53 c53 W) [47, 48, 49, 50, 51, 52, 53, 9] [undef, undef, undef, undef, undef, undef, undef, .slice none 0 0] (by kernel_rfl) (by kernel_rfl) (by simp only [putAll, Act.put, List.setIfInBounds_toArray, List.set_cons_zero, List.set_cons_succ]) ?_ ?_ ?_
  · exact ⟨false, false, false, false, false, false, false, false, false, _, _, _, _, _, _, _, _, 0, 0, rfl, rfl, (HJI.out _ _ _ _ _ _ _ _ _ _ _ _ _ _ _ _ _ _ _ _ ).2 ⟨Lib.hid (S2.out), Lib.hid (by simp), Lib.hid (by simp), Lib.hid (by simp), Lib.hid (by simp), Lib.hid (by simp), Lib.hid (by simp), Lib.hid (by simp), Lib.hid (by simp)⟩⟩
  · rintro i l us W ⟨b0, b1, b2, b3, b4, b5, b6, b7, b8, v47, v48, v49, v50, v51, v52, v53, v9, g53, c53, rfl, rfl, hJI⟩ hr
    have hi : i = 0 ∨ i = 1 ∨ i = 2 ∨ i = 3 ∨ i = 4 ∨ i = 5 ∨ i = 6 ∨ i = 7 ∨ i = 8 := by
      have := ready_lt hr
      simp at this
      omega
    rcases hi with rfl | rfl | rfl | rfl | rfl | rfl | rfl | rfl | rfl
    · as_aux_lemma =>
      obtain ⟨hI, h0, h1, h2, h3, h4, h5, h6, h8⟩ := (HJI.out _ _ _ _ _ _ _ _ _ _ _ _ _ _ _ _ _ _ _ _ ).1 hJI
      obtain ⟨hn, hd⟩ := ready_at hr rfl
      simp [Region.binds] at hn hd
      refine wpOp_step (o := ⟨some 47, .load 73 (.tmp 4), 73, _, _, none⟩) rfl (fun K' hK => ?_)
      simp only [putAll, Act.put, List.setIfInBounds_toArray, List.set_cons_zero, List.set_cons_succ]
      refine wp_load_mid 73 (.tmp 4) rfl mb 0 rfl [.int .i64 1, .int .i64 4, .int .i64 k, .int .i64 verts, .int .i64 arcs, .int .i64 workers, .int .i64 room, .int .i64 res, .int .i64 lex, .int .i64 hh, .int .i64 flag, .int .i64 pending, .int .i64 ask, .int .i64 count, .int .i64 sense, .int .i64 deques, .int .i64 size, .int .i64 v, .int .i64 t, .int .i64 b, .int .i64 x, .bool true, .bool gt, .bool of] _ (Blk.range hI.out.m) Try.underlying73 rfl HZ.out ?_
      exact hK _ _ ⟨_, by simp only [putAll, Act.put, List.setIfInBounds_toArray, List.set_cons_zero, List.set_cons_succ], true, b1, b2, b3, b4, b5, b6, b7, b8, _, _, _, _, _, _, _, _, g53, c53, rfl, rfl, (HJI.out _ _ _ _ _ _ _ _ _ _ _ _ _ _ _ _ _ _ _ _ ).2 ⟨hI, Lib.hid (fun _ => rfl), h1, h2, h3, h4, h5, h6, h8⟩⟩
    · as_aux_lemma =>
      obtain ⟨hI, h0, h1, h2, h3, h4, h5, h6, h8⟩ := (HJI.out _ _ _ _ _ _ _ _ _ _ _ _ _ _ _ _ _ _ _ _ ).1 hJI
      obtain ⟨hn, hd⟩ := ready_at hr rfl
      simp [Region.binds] at hn hd
      refine wpOp_step rfl (fun K' hK => ?_)
      simp only [putAll, Act.put, List.setIfInBounds_toArray, List.set_cons_zero, List.set_cons_succ]
      go_simp
      exact hK _ _ ⟨_, by simp only [putAll, Act.put, List.setIfInBounds_toArray, List.set_cons_zero, List.set_cons_succ], b0, true, b2, b3, b4, b5, b6, b7, b8, _, _, _, _, _, _, _, _, g53, c53, rfl, rfl, (HJI.out _ _ _ _ _ _ _ _ _ _ _ _ _ _ _ _ _ _ _ _ ).2 ⟨hI, h0, Lib.hid (fun _ => rfl), h2, h3, h4, h5, h6, h8⟩⟩
    · as_aux_lemma =>
      obtain ⟨hI, h0, h1, h2, h3, h4, h5, h6, h8⟩ := (HJI.out _ _ _ _ _ _ _ _ _ _ _ _ _ _ _ _ _ _ _ _ ).1 hJI
      obtain ⟨hn, hd⟩ := ready_at hr rfl
      simp [Region.binds] at hn hd
      refine wpOp_step rfl (fun K' hK => ?_)
      simp only [putAll, Act.put, List.setIfInBounds_toArray, List.set_cons_zero, List.set_cons_succ]
      go_simp
      exact hK _ _ ⟨_, by simp only [putAll, Act.put, List.setIfInBounds_toArray, List.set_cons_zero, List.set_cons_succ], b0, b1, true, b3, b4, b5, b6, b7, b8, _, _, _, _, _, _, _, _, g53, c53, rfl, rfl, (HJI.out _ _ _ _ _ _ _ _ _ _ _ _ _ _ _ _ _ _ _ _ ).2 ⟨hI, h0, h1, Lib.hid (fun _ => rfl), h3, h4, h5, h6, h8⟩⟩
    · as_aux_lemma =>
      obtain ⟨hI, h0, h1, h2, h3, h4, h5, h6, h8⟩ := (HJI.out _ _ _ _ _ _ _ _ _ _ _ _ _ _ _ _ _ _ _ _ ).1 hJI
      obtain ⟨hn, hd⟩ := ready_at hr rfl
      simp [Region.binds] at hn hd
      refine wpOp_step rfl (fun K' hK => ?_)
      simp only [putAll, Act.put, List.setIfInBounds_toArray, List.set_cons_zero, List.set_cons_succ]
      go_simp
      exact hK _ _ ⟨_, by simp only [putAll, Act.put, List.setIfInBounds_toArray, List.set_cons_zero, List.set_cons_succ], b0, b1, b2, true, b4, b5, b6, b7, b8, _, _, _, _, _, _, _, _, g53, c53, rfl, rfl, (HJI.out _ _ _ _ _ _ _ _ _ _ _ _ _ _ _ _ _ _ _ _ ).2 ⟨hI, h0, h1, h2, Lib.hid (fun _ => rfl), h4, h5, h6, h8⟩⟩
    · as_aux_lemma =>
      obtain ⟨hI, h0, h1, h2, h3, h4, h5, h6, h8⟩ := (HJI.out _ _ _ _ _ _ _ _ _ _ _ _ _ _ _ _ _ _ _ _ ).1 hJI
      obtain ⟨hn, hd⟩ := ready_at hr rfl
      simp [Region.binds] at hn hd
      obtain rfl := h3.out (by simp [hd])
      have c19 : W.cell? ⟨mb, 19, none⟩ = some (.int .i64 b) := hI.out.m.cell 19
      refine wpOp_step rfl (fun K' hK => ?_)
      simp only [putAll, Act.put, List.setIfInBounds_toArray, List.set_cons_zero, List.set_cons_succ]
      go_simp
      exact hK _ _ ⟨_, by simp only [putAll, Act.put, List.setIfInBounds_toArray, List.set_cons_zero, List.set_cons_succ], b0, b1, b2, b3, true, b5, b6, b7, b8, _, _, _, _, _, _, _, _, g53, c53, rfl, rfl, (HJI.out _ _ _ _ _ _ _ _ _ _ _ _ _ _ _ _ _ _ _ _ ).2 ⟨hI, h0, h1, h2, h3, Lib.hid (fun _ => rfl), h5, h6, h8⟩⟩
    · as_aux_lemma =>
      obtain ⟨hI, h0, h1, h2, h3, h4, h5, h6, h8⟩ := (HJI.out _ _ _ _ _ _ _ _ _ _ _ _ _ _ _ _ _ _ _ _ ).1 hJI
      obtain ⟨hn, hd⟩ := ready_at hr rfl
      simp [Region.binds] at hn hd
      obtain rfl := h4.out (by simp [hd])
      refine wpOp_step rfl (fun K' hK => ?_)
      simp only [putAll, Act.put, List.setIfInBounds_toArray, List.set_cons_zero, List.set_cons_succ]
      go_simp
      exact hK _ _ ⟨_, by simp only [putAll, Act.put, List.setIfInBounds_toArray, List.set_cons_zero, List.set_cons_succ], b0, b1, b2, b3, b4, true, b6, b7, b8, _, _, _, _, _, _, _, _, g53, c53, rfl, rfl, (HJI.out _ _ _ _ _ _ _ _ _ _ _ _ _ _ _ _ _ _ _ _ ).2 ⟨hI, h0, h1, h2, h3, h4, Lib.hid (fun _ => rfl), h6, h8⟩⟩
    · as_aux_lemma =>
      obtain ⟨hI, h0, h1, h2, h3, h4, h5, h6, h8⟩ := (HJI.out _ _ _ _ _ _ _ _ _ _ _ _ _ _ _ _ _ _ _ _ ).1 hJI
      obtain ⟨hn, hd⟩ := ready_at hr rfl
      simp [Region.binds] at hn hd
      obtain rfl := h1.out (by simp [hd])
      obtain rfl := h2.out (by simp [hd])
      obtain rfl := h5.out (by simp [hd])
      refine wpOp_step rfl (fun K' hK => ?_)
      simp only [putAll, Act.put, List.setIfInBounds_toArray, List.set_cons_zero, List.set_cons_succ]
      go_simp
      refine (refPutN hI.out.rb HN.out _ _ hy hm).mono ?_
      rintro e w' ⟨gn, cn, rfl, hRn, hgn, hk⟩
      exact hK _ _ ⟨_, by simp only [putAll, Act.put, List.setIfInBounds_toArray, List.set_cons_zero, List.set_cons_succ], b0, b1, b2, b3, b4, b5, true, b7, b8, _, _, _, _, _, _, _, v9, gn, cn, rfl, rfl, (HJI.out _ _ _ _ _ _ _ _ _ _ _ _ _ _ _ _ _ _ _ _ ).2 ⟨(Lib.hid (hI.out.kept hk)), h0, h1, h2, h3, h4, h5, Lib.hid (fun _ => ⟨rfl, ⟨hRn, Nat.le_trans hI.out.sz hgn⟩⟩), Lib.hid (fun hb => (by have := (h8.out hb).2; rw [hn] at this; cases this))⟩⟩
    · as_aux_lemma =>
      obtain ⟨hI, h0, h1, h2, h3, h4, h5, h6, h8⟩ := (HJI.out _ _ _ _ _ _ _ _ _ _ _ _ _ _ _ _ _ _ _ _ ).1 hJI
      obtain ⟨hn, hd⟩ := ready_at hr rfl
      simp [Region.binds] at hn hd
      obtain rfl := h0.out (by simp [hd])
      subst hn
      refine wpOp_step (o := ⟨none, .store 73 (.tmp 8) (.tmp 47), 0, _, _, none⟩) rfl (fun K' hK => ?_)
      simp only [putAll, Act.put, List.setIfInBounds_toArray, List.set_cons_zero, List.set_cons_succ]
      refine wp_store_mid 73 (.tmp 8) (.tmp 47) rfl rb 0 #[.int .i64 1, .int .i64 4, .int .i64 k, .int .i64 verts, .int .i64 arcs, .int .i64 workers, .int .i64 room, .int .i64 res, .int .i64 lex, .int .i64 hh, .int .i64 flag, .int .i64 pending, .int .i64 ask, .int .i64 count, .int .i64 sense, .int .i64 deques, .int .i64 size, .int .i64 v, .int .i64 t, .int .i64 b, .int .i64 x, .bool true, .bool gt, .bool of] rfl rfl (Blk.there (show Blk W rb #[.int .i64 0, .int .i64 0, .int .i64 0, .int .i64 0, .int .i64 0, .int .i64 0, .int .i64 0, .int .i64 0, .int .i64 0, .int .i64 0, .int .i64 0, .int .i64 0, .int .i64 0, .int .i64 0, .int .i64 0, .int .i64 0, .int .i64 0, .int .i64 0, .int .i64 0, .int .i64 0, .int .i64 0, .bool false, .bool false, .bool false] 73 from hI.out.r) 24 rfl) HZ.out (all_oneCell_toArray (cs := [.int .i64 1, .int .i64 4, .int .i64 k, .int .i64 verts, .int .i64 arcs, .int .i64 workers, .int .i64 room, .int .i64 res, .int .i64 lex, .int .i64 hh, .int .i64 flag, .int .i64 pending, .int .i64 ask, .int .i64 count, .int .i64 sense, .int .i64 deques, .int .i64 size, .int .i64 v, .int .i64 t, .int .i64 b, .int .i64 x, .bool true, .bool gt, .bool of]) (by simp [Value.oneCell'])) ?_
      have hs := Blk.alls (show Blk W rb #[.int .i64 0, .int .i64 0, .int .i64 0, .int .i64 0, .int .i64 0, .int .i64 0, .int .i64 0, .int .i64 0, .int .i64 0, .int .i64 0, .int .i64 0, .int .i64 0, .int .i64 0, .int .i64 0, .int .i64 0, .int .i64 0, .int .i64 0, .int .i64 0, .int .i64 0, .int .i64 0, .int .i64 0, .bool false, .bool false, .bool false] 73 from hI.out.r) [.int .i64 1, .int .i64 4, .int .i64 k, .int .i64 verts, .int .i64 arcs, .int .i64 workers, .int .i64 room, .int .i64 res, .int .i64 lex, .int .i64 hh, .int .i64 flag, .int .i64 pending, .int .i64 ask, .int .i64 count, .int .i64 sense, .int .i64 deques, .int .i64 size, .int .i64 v, .int .i64 t, .int .i64 b, .int .i64 x, .bool true, .bool gt, .bool of] rfl
      exact hK _ _ ⟨_, by simp only [putAll, Act.put, List.setIfInBounds_toArray, List.set_cons_zero, List.set_cons_succ], b0, b1, b2, b3, b4, b5, b6, true, b8, _, _, _, _, _, _, _, _, g53, c53, rfl, rfl, (HJI.out _ _ _ _ _ _ _ _ _ _ _ _ _ _ _ _ _ _ _ _ ).2 ⟨(Lib.hid (hI.out.put hs.1 hs.2)), h0, h1, h2, h3, h4, h5, Lib.hid (fun hb => ⟨(h6.out hb).1, (h6.out hb).2.1.upd hs.2 (by have q := (h6.out hb).2.2; have q2 := HRB.out; omega), (h6.out hb).2.2⟩), h8⟩⟩
    · as_aux_lemma =>
      obtain ⟨hI, h0, h1, h2, h3, h4, h5, h6, h8⟩ := (HJI.out _ _ _ _ _ _ _ _ _ _ _ _ _ _ _ _ _ _ _ _ ).1 hJI
      obtain ⟨hn, hd⟩ := ready_at hr rfl
      simp [Region.binds] at hn hd
      obtain ⟨rfl, hR6⟩ := h6.out (by simp [hd])
      refine wpOp_step rfl (fun K' hK => ?_)
      simp only [putAll, Act.put, List.setIfInBounds_toArray, List.set_cons_zero, List.set_cons_succ]
      go_simp
      exact hK _ _ ⟨_, by simp only [putAll, Act.put, List.setIfInBounds_toArray, List.set_cons_zero, List.set_cons_succ], b0, b1, b2, b3, b4, b5, b6, b7, true, _, _, _, _, _, _, _, _, g53, c53, rfl, rfl, (HJI.out _ _ _ _ _ _ _ _ _ _ _ _ _ _ _ _ _ _ _ _ ).2 ⟨hI, h0, h1, h2, h3, h4, h5, h6, Lib.hid (fun _ => ⟨rfl, (by first  | simp [hd])⟩)⟩⟩
  · rintro l us W ⟨b0, b1, b2, b3, b4, b5, b6, b7, b8, v47, v48, v49, v50, v51, v52, v53, v9, g53, c53, rfl, rfl, hJI⟩ hall
    as_aux_lemma =>
    obtain ⟨hI, h0, h1, h2, h3, h4, h5, h6, h8⟩ := (HJI.out _ _ _ _ _ _ _ _ _ _ _ _ _ _ _ _ _ _ _ _ ).1 hJI
    clear hJI
    obtain rfl : b0 = true := by simpa using hall 0
    obtain rfl : b1 = true := by simpa using hall 1
    obtain rfl : b2 = true := by simpa using hall 2
    obtain rfl : b3 = true := by simpa using hall 3
    obtain rfl : b4 = true := by simpa using hall 4
    obtain rfl : b5 = true := by simpa using hall 5
    obtain rfl : b6 = true := by simpa using hall 6
    obtain rfl : b7 = true := by simpa using hall 7
    obtain rfl : b8 = true := by simpa using hall 8
    obtain rfl := h0.out rfl
    obtain rfl := h1.out rfl
    obtain rfl := h2.out rfl
    obtain rfl := h3.out rfl
    obtain rfl := h4.out rfl
    obtain rfl := h5.out rfl
    obtain ⟨rfl, hG6⟩ := h6.out rfl
    obtain ⟨rfl, _⟩ := h8.out rfl
    simp only [putAll, Act.put, List.setIfInBounds_toArray, List.set_cons_zero, List.set_cons_succ]
    clear HJI JI
    obtain ⟨hR6, hn6⟩ := hG6
    have hI2 : RP w n0 mb rb #[.int .i64 1, .int .i64 4, .int .i64 k, .int .i64 verts, .int .i64 arcs, .int .i64 workers, .int .i64 room, .int .i64 res, .int .i64 lex, .int .i64 hh, .int .i64 flag, .int .i64 pending, .int .i64 ask, .int .i64 count, .int .i64 sense, .int .i64 deques, .int .i64 size, .int .i64 v, .int .i64 t, .int .i64 b, .int .i64 x, .bool true, .bool gt, .bool of] g cap xs #[.int .i64 1, .int .i64 4, .int .i64 k, .int .i64 verts, .int .i64 arcs, .int .i64 workers, .int .i64 room, .int .i64 res, .int .i64 lex, .int .i64 hh, .int .i64 flag, .int .i64 pending, .int .i64 ask, .int .i64 count, .int .i64 sense, .int .i64 deques, .int .i64 size, .int .i64 v, .int .i64 t, .int .i64 b, .int .i64 x, .bool true, .bool gt, .bool of] W := hI.out
    have hr9 : W.rangeAt rb 0 [.int .i64 1, .int .i64 4, .int .i64 k, .int .i64 verts, .int .i64 arcs, .int .i64 workers, .int .i64 room, .int .i64 res, .int .i64 lex, .int .i64 hh, .int .i64 flag, .int .i64 pending, .int .i64 ask, .int .i64 count, .int .i64 sense, .int .i64 deques, .int .i64 size, .int .i64 v, .int .i64 t, .int .i64 b, .int .i64 x, .bool true, .bool gt, .bool of] := Blk.range hI2.r
    have hz24 := HZ.out
    have hlv := run_loadVar_mid (P := Try.prog) W rb 0 73 [.int .i64 1, .int .i64 4, .int .i64 k, .int .i64 verts, .int .i64 arcs, .int .i64 workers, .int .i64 room, .int .i64 res, .int .i64 lex, .int .i64 hh, .int .i64 flag, .int .i64 pending, .int .i64 ask, .int .i64 count, .int .i64 sense, .int .i64 deques, .int .i64 size, .int .i64 v, .int .i64 t, .int .i64 b, .int .i64 x, .bool true, .bool gt, .bool of] _ hr9 Try.underlying73 rfl hz24
    have HF : Hid (RefEnd N (⟨verts, arcs, workers, room, res, lex, hh, flag, pending, ask, count, sense, deques, size⟩ : Lay) k v 1 4 t b x true gt of ys g w (.returned (.tuple #[.agg #[.int .i64 1, .int .i64 4, .int .i64 k, .int .i64 verts, .int .i64 arcs, .int .i64 workers, .int .i64 room, .int .i64 res, .int .i64 lex, .int .i64 hh, .int .i64 flag, .int .i64 pending, .int .i64 ask, .int .i64 count, .int .i64 sense, .int .i64 deques, .int .i64 size, .int .i64 v, .int .i64 t, .int .i64 b, .int .i64 x, .bool true, .bool gt, .bool of], .slice (some ⟨g53, 0, none⟩) N c53])) W) := Lib.hid ⟨g53, c53, rfl, hR6, hI2.kp, .inr (by have q2 := HRB.out; have q3 := hI2.ne; omega)⟩
    clear hR6 hn6 hI2 hI hr9 hall
    go_wp2_with fail
    exact bodyPost_ret (v := .tuple #[.agg #[.int .i64 1, .int .i64 4, .int .i64 k, .int .i64 verts, .int .i64 arcs, .int .i64 workers, .int .i64 room, .int .i64 res, .int .i64 lex, .int .i64 hh, .int .i64 flag, .int .i64 pending, .int .i64 ask, .int .i64 count, .int .i64 sense, .int .i64 deques, .int .i64 size, .int .i64 v, .int .i64 t, .int .i64 b, .int .i64 x, .bool true, .bool gt, .bool of], .slice (some ⟨g53, 0, none⟩) N c53]) (by simp [results, Try.results88, hlv, asAddr, Act.put]) rfl HF.out

set_option maxRecDepth 100000 in
set_option maxHeartbeats 8000000 in
theorem refQ_4s {w : World} {g cap N : Nat} {xs : List Int} {l : Lay} {k : Int} {tp r : Nat} (v : Int) (hG : Geo l k tp r) (hr : RB w g cap xs) (hN : xs.length = N) (hm : N ≤ 1000000) {t b x : Int} {gt of : Bool} (x' : Int) (hx' : bget xs (slot tp r b) = x') (h1 : ¬ b < t) (hb1 : 0 ≤ b ∧ b ≤ 1000000) (z : Bool) (hz : decide (t < b) = z) :
    Calls Try.prog 88 #[.agg (RMA l k v 1 4 t b x false gt of).toArray, .slice (some ⟨g, 0, none⟩) N cap, .int .i64 (tp : Int), .int .i64 ((tp : Int) + 1)] w (RefEnd N l k v 1 4 t b x' z z of xs g w) := by
  have HTo := fun w => Lib.hid (refTop_g hG w)
  have HBo := fun w => Lib.hid (refBottom_g hG w)
  have HSl := fun j h0 h9 w => Lib.hid (refSlot_g hG j h0 h9 w)
  have hW0 := RS.start (l := l) (k := k) (v := v) (kn := 1) (a := 4) (t := t) (b := b) (x := x) (dn := false) (gt := gt) (of := of) hr
  have HRO := Lib.hid hG.room
  have htp := hG.tp_le
  have HN := Lib.hid hN
  clear hG hr hN
  obtain ⟨verts, arcs, workers, room, res, lex, hh, flag, pending, ask, count, sense, deques, size⟩ := l
  simp only [Lay.val, Lay.vals] at HTo HBo HSl
  simp only [RMA] at hW0 ⊢
  have HZZ := Lib.hid hz
  clear hz
  have hz24 : (Try.prog.info? 73).map (·.size) = some 24 := by kernel_rfl
  have HZ := Lib.hid hz24
  clear hz24
  go_enter Try.func88, Try.ntmps88
  go_upto_region 1 with (fail)
  generalize ((w.alloc (.cells #[.int .i64 1, .int .i64 4, .int .i64 k, .int .i64 verts, .int .i64 arcs, .int .i64 workers, .int .i64 room, .int .i64 res, .int .i64 lex, .int .i64 hh, .int .i64 flag, .int .i64 pending, .int .i64 ask, .int .i64 count, .int .i64 sense, .int .i64 deques, .int .i64 size, .int .i64 v, .int .i64 t, .int .i64 b, .int .i64 x, .bool false, .bool gt, .bool of] 73)).alloc (.cells #[.int .i64 0, .int .i64 0, .int .i64 0, .int .i64 0, .int .i64 0, .int .i64 0, .int .i64 0, .int .i64 0, .int .i64 0, .int .i64 0, .int .i64 0, .int .i64 0, .int .i64 0, .int .i64 0, .int .i64 0, .int .i64 0, .int .i64 0, .int .i64 0, .int .i64 0, .int .i64 0, .int .i64 0, .bool false, .bool false, .bool false] 73)) = W0 at hW0 ⊢
  have hW0 : RS w g w.heap.size (w.heap.size + 1) (⟨verts, arcs, workers, room, res, lex, hh, flag, pending, ask, count, sense, deques, size⟩ : Lay) k v 1 4 t b x false gt of g cap xs W0 := hW0
  generalize w.heap.size + 1 = b4 at hW0 ⊢
  generalize hb2 : w.heap.size = b2 at hW0 ⊢
  clear hb2
  have S := Lib.hid hW0
  clear hW0
  have hd1 : decide (b < t) = false := by simpa using h1
  have HSb := fun w => HSl b hb1.1 hb1.2 w
  generalize slot tp r b = sl at hx' HSb
  clear HSl
  have m2 : ∀ i : Nat, W0.cell? ⟨b2, i, none⟩ = (#[.int .i64 1, .int .i64 4, .int .i64 k, .int .i64 verts, .int .i64 arcs, .int .i64 workers, .int .i64 room, .int .i64 res, .int .i64 lex, .int .i64 hh, .int .i64 flag, .int .i64 pending, .int .i64 ask, .int .i64 count, .int .i64 sense, .int .i64 deques, .int .i64 size, .int .i64 v, .int .i64 t, .int .i64 b, .int .i64 x, .bool false, .bool gt, .bool of] : Array Value)[i]? := S.out.m.cell
  have f2 : ∀ i : Nat, W0.frozen? ⟨b2, i, none⟩ = false := S.out.m.free
  go_wp2_with fail
  refine (HSb _).out.mono ?_
  rintro e w4 ⟨rfl, hk⟩
  have S1 := Lib.hid (S.out.kept hk)
  clear hk S m2 f2 hd1
  have m2 : ∀ i : Nat, w4.cell? ⟨b2, i, none⟩ = (#[.int .i64 1, .int .i64 4, .int .i64 k, .int .i64 verts, .int .i64 arcs, .int .i64 workers, .int .i64 room, .int .i64 res, .int .i64 lex, .int .i64 hh, .int .i64 flag, .int .i64 pending, .int .i64 ask, .int .i64 count, .int .i64 sense, .int .i64 deques, .int .i64 size, .int .i64 v, .int .i64 t, .int .i64 b, .int .i64 x, .bool false, .bool gt, .bool of] : Array Value)[i]? := S1.out.m.cell
  have f2 : ∀ i : Nat, w4.frozen? ⟨b2, i, none⟩ = false := S1.out.m.free
  go_wp2_with fail
  refine (refLoadN S1.out.rb HN.out _ x' hx' hm).mono ?_
  rintro e w5 ⟨rfl, rfl⟩
  clear m2 f2
  have m2 : ∀ i : Nat, w4.cell? ⟨b2, i, none⟩ = (#[.int .i64 1, .int .i64 4, .int .i64 k, .int .i64 verts, .int .i64 arcs, .int .i64 workers, .int .i64 room, .int .i64 res, .int .i64 lex, .int .i64 hh, .int .i64 flag, .int .i64 pending, .int .i64 ask, .int .i64 count, .int .i64 sense, .int .i64 deques, .int .i64 size, .int .i64 v, .int .i64 t, .int .i64 b, .int .i64 x, .bool false, .bool gt, .bool of] : Array Value)[i]? := S1.out.m.cell
  have f2 : ∀ i : Nat, w4.frozen? ⟨b2, i, none⟩ = false := S1.out.m.free
  go_upto_region 15 with (fail)
  have S2 := Lib.hid (S1.out.upd (i := 20) (u := .int .i64 x') rfl)
  clear m2 f2 S1
  generalize World.setCell _ ⟨b2, 20, none⟩ _ = WS2 at S2 ⊢
  have hz := HZZ.out
  have m2 : ∀ i : Nat, WS2.cell? ⟨b2, i, none⟩ = (#[.int .i64 1, .int .i64 4, .int .i64 k, .int .i64 verts, .int .i64 arcs, .int .i64 workers, .int .i64 room, .int .i64 res, .int .i64 lex, .int .i64 hh, .int .i64 flag, .int .i64 pending, .int .i64 ask, .int .i64 count, .int .i64 sense, .int .i64 deques, .int .i64 size, .int .i64 v, .int .i64 t, .int .i64 b, .int .i64 x', .bool false, .bool gt, .bool of] : Array Value)[i]? := S2.out.m.cell
  have f2 : ∀ i : Nat, WS2.frozen? ⟨b2, i, none⟩ = false := S2.out.m.free
  go_upto_region 16 with (fail)
  have S3 := Lib.hid (S2.out.upd (i := 22) (u := .bool z) rfl)
  clear m2 f2 S2
  generalize World.setCell _ ⟨b2, 22, none⟩ _ = WS3 at S3 ⊢
  clear hz
  have m2 : ∀ i : Nat, WS3.cell? ⟨b2, i, none⟩ = (#[.int .i64 1, .int .i64 4, .int .i64 k, .int .i64 verts, .int .i64 arcs, .int .i64 workers, .int .i64 room, .int .i64 res, .int .i64 lex, .int .i64 hh, .int .i64 flag, .int .i64 pending, .int .i64 ask, .int .i64 count, .int .i64 sense, .int .i64 deques, .int .i64 size, .int .i64 v, .int .i64 t, .int .i64 b, .int .i64 x', .bool false, .bool z, .bool of] : Array Value)[i]? := S3.out.m.cell
  have f2 : ∀ i : Nat, WS3.frozen? ⟨b2, i, none⟩ = false := S3.out.m.free
  go_upto_region 21 with (fail)
  have S4 := Lib.hid (S3.out.upd (i := 21) (u := .bool z) rfl)
  clear m2 f2 S3
  generalize World.setCell _ ⟨b2, 21, none⟩ _ = WS4 at S4 ⊢
  have hra : WS4.rangeAt b2 0 [.int .i64 1, .int .i64 4, .int .i64 k, .int .i64 verts, .int .i64 arcs, .int .i64 workers, .int .i64 room, .int .i64 res, .int .i64 lex, .int .i64 hh, .int .i64 flag, .int .i64 pending, .int .i64 ask, .int .i64 count, .int .i64 sense, .int .i64 deques, .int .i64 size, .int .i64 v, .int .i64 t, .int .i64 b, .int .i64 x', .bool z, .bool z, .bool of] := Blk.range S4.out.m
  have hth := Blk.there S4.out.r 24 rfl
  obtain ⟨W9, hW9⟩ : ∃ W9, WS4.setCells b4 0 [.int .i64 1, .int .i64 4, .int .i64 k, .int .i64 verts, .int .i64 arcs, .int .i64 workers, .int .i64 room, .int .i64 res, .int .i64 lex, .int .i64 hh, .int .i64 flag, .int .i64 pending, .int .i64 ask, .int .i64 count, .int .i64 sense, .int .i64 deques, .int .i64 size, .int .i64 v, .int .i64 t, .int .i64 b, .int .i64 x', .bool z, .bool z, .bool of] = W9 := ⟨_, rfl⟩
  have hB9 : Blk W9 b4 #[.int .i64 1, .int .i64 4, .int .i64 k, .int .i64 verts, .int .i64 arcs, .int .i64 workers, .int .i64 room, .int .i64 res, .int .i64 lex, .int .i64 hh, .int .i64 flag, .int .i64 pending, .int .i64 ask, .int .i64 count, .int .i64 sense, .int .i64 deques, .int .i64 size, .int .i64 v, .int .i64 t, .int .i64 b, .int .i64 x', .bool z, .bool z, .bool of] 73 ∧ Upd (fun k => k = b4) WS4 W9 := by rw [← hW9]; exact Blk.alls S4.out.r [.int .i64 1, .int .i64 4, .int .i64 k, .int .i64 verts, .int .i64 arcs, .int .i64 workers, .int .i64 room, .int .i64 res, .int .i64 lex, .int .i64 hh, .int .i64 flag, .int .i64 pending, .int .i64 ask, .int .i64 count, .int .i64 sense, .int .i64 deques, .int .i64 size, .int .i64 v, .int .i64 t, .int .i64 b, .int .i64 x', .bool z, .bool z, .bool of] rfl
  have hr9 : W9.rangeAt b4 0 [.int .i64 1, .int .i64 4, .int .i64 k, .int .i64 verts, .int .i64 arcs, .int .i64 workers, .int .i64 room, .int .i64 res, .int .i64 lex, .int .i64 hh, .int .i64 flag, .int .i64 pending, .int .i64 ask, .int .i64 count, .int .i64 sense, .int .i64 deques, .int .i64 size, .int .i64 v, .int .i64 t, .int .i64 b, .int .i64 x', .bool z, .bool z, .bool of] := Blk.range hB9.1
  have hz24 := HZ.out
  have hlv := run_loadVar_mid (P := Try.prog) W9 b4 0 73 [.int .i64 1, .int .i64 4, .int .i64 k, .int .i64 verts, .int .i64 arcs, .int .i64 workers, .int .i64 room, .int .i64 res, .int .i64 lex, .int .i64 hh, .int .i64 flag, .int .i64 pending, .int .i64 ask, .int .i64 count, .int .i64 sense, .int .i64 deques, .int .i64 size, .int .i64 v, .int .i64 t, .int .i64 b, .int .i64 x', .bool z, .bool z, .bool of] _ hr9 Try.underlying73 rfl hz24
  have HF := Lib.hid (S4.out.end9 N hB9.2)
  clear hB9 hr9 S4
  go_wp2_with (first | (refine wpList_load_mid rfl _ _ rfl b2 0 rfl [.int .i64 1, .int .i64 4, .int .i64 k, .int .i64 verts, .int .i64 arcs, .int .i64 workers, .int .i64 room, .int .i64 res, .int .i64 lex, .int .i64 hh, .int .i64 flag, .int .i64 pending, .int .i64 ask, .int .i64 count, .int .i64 sense, .int .i64 deques, .int .i64 size, .int .i64 v, .int .i64 t, .int .i64 b, .int .i64 x', .bool z, .bool z, .bool of] _ hra Try.underlying73 rfl hz24 ?_) | (refine wpList_store_mid rfl _ _ _ rfl b4 0 #[.int .i64 1, .int .i64 4, .int .i64 k, .int .i64 verts, .int .i64 arcs, .int .i64 workers, .int .i64 room, .int .i64 res, .int .i64 lex, .int .i64 hh, .int .i64 flag, .int .i64 pending, .int .i64 ask, .int .i64 count, .int .i64 sense, .int .i64 deques, .int .i64 size, .int .i64 v, .int .i64 t, .int .i64 b, .int .i64 x', .bool z, .bool z, .bool of] rfl rfl hth hz24 (all_oneCell_toArray (cs := [.int .i64 1, .int .i64 4, .int .i64 k, .int .i64 verts, .int .i64 arcs, .int .i64 workers, .int .i64 room, .int .i64 res, .int .i64 lex, .int .i64 hh, .int .i64 flag, .int .i64 pending, .int .i64 ask, .int .i64 count, .int .i64 sense, .int .i64 deques, .int .i64 size, .int .i64 v, .int .i64 t, .int .i64 b, .int .i64 x', .bool z, .bool z, .bool of]) (by simp [Value.oneCell'])) ?_; simp only [hW9]) | fail)
  clear hth hra hW9
  exact bodyPost_ret (v := .tuple #[.agg #[.int .i64 1, .int .i64 4, .int .i64 k, .int .i64 verts, .int .i64 arcs, .int .i64 workers, .int .i64 room, .int .i64 res, .int .i64 lex, .int .i64 hh, .int .i64 flag, .int .i64 pending, .int .i64 ask, .int .i64 count, .int .i64 sense, .int .i64 deques, .int .i64 size, .int .i64 v, .int .i64 t, .int .i64 b, .int .i64 x', .bool z, .bool z, .bool of], .slice (some ⟨g, 0, none⟩) N cap]) (by simp [results, Try.results88, hlv, asAddr, Act.put]) rfl HF.out

set_option maxRecDepth 100000 in
set_option maxHeartbeats 8000000 in
theorem refQ_5t {w : World} {g cap N : Nat} {xs : List Int} {l : Lay} {k : Int} {tp r : Nat} (v : Int) (hG : Geo l k tp r) (hr : RB w g cap xs) (hN : xs.length = N) (hm : N ≤ 1000000) {t b x : Int} {gt of : Bool} (t' : Int) (ht' : bget xs (tp : Int) = t') (hz : (t' == t) = true) (ys : List Int) (hy : bput xs (tp : Int) (t + 1) = ys) (ht1 : 0 ≤ t ∧ t ≤ 1000000) :
    Calls Try.prog 88 #[.agg (RMA l k v 1 5 t b x false gt of).toArray, .slice (some ⟨g, 0, none⟩) N cap, .int .i64 (tp : Int), .int .i64 ((tp : Int) + 1)] w (RefEnd N l k v 1 5 t b x false true of ys g w) := by
  have HTo := fun w => Lib.hid (refTop_g hG w)
  have HBo := fun w => Lib.hid (refBottom_g hG w)
  have HSl := fun j h0 h9 w => Lib.hid (refSlot_g hG j h0 h9 w)
  have hW0 := RS.start (l := l) (k := k) (v := v) (kn := 1) (a := 5) (t := t) (b := b) (x := x) (dn := false) (gt := gt) (of := of) hr
  have HRO := Lib.hid hG.room
  have htp := hG.tp_le
  have HN := Lib.hid hN
  clear hG hr hN
  obtain ⟨verts, arcs, workers, room, res, lex, hh, flag, pending, ask, count, sense, deques, size⟩ := l
  simp only [Lay.val, Lay.vals] at HTo HBo HSl
  simp only [RMA] at hW0 ⊢
  have hz24 : (Try.prog.info? 73).map (·.size) = some 24 := by kernel_rfl
  have HZ := Lib.hid hz24
  clear hz24
  go_enter Try.func88, Try.ntmps88
  go_upto_region 1 with (fail)
  generalize ((w.alloc (.cells #[.int .i64 1, .int .i64 5, .int .i64 k, .int .i64 verts, .int .i64 arcs, .int .i64 workers, .int .i64 room, .int .i64 res, .int .i64 lex, .int .i64 hh, .int .i64 flag, .int .i64 pending, .int .i64 ask, .int .i64 count, .int .i64 sense, .int .i64 deques, .int .i64 size, .int .i64 v, .int .i64 t, .int .i64 b, .int .i64 x, .bool false, .bool gt, .bool of] 73)).alloc (.cells #[.int .i64 0, .int .i64 0, .int .i64 0, .int .i64 0, .int .i64 0, .int .i64 0, .int .i64 0, .int .i64 0, .int .i64 0, .int .i64 0, .int .i64 0, .int .i64 0, .int .i64 0, .int .i64 0, .int .i64 0, .int .i64 0, .int .i64 0, .int .i64 0, .int .i64 0, .int .i64 0, .int .i64 0, .bool false, .bool false, .bool false] 73)) = W0 at hW0 ⊢
  have hW0 : RS w g w.heap.size (w.heap.size + 1) (⟨verts, arcs, workers, room, res, lex, hh, flag, pending, ask, count, sense, deques, size⟩ : Lay) k v 1 5 t b x false gt of g cap xs W0 := hW0
  generalize w.heap.size + 1 = b4 at hW0 ⊢
  generalize hb2 : w.heap.size = b2 at hW0 ⊢
  clear hb2
  have S := Lib.hid hW0
  clear hW0
  have m2 : ∀ i : Nat, W0.cell? ⟨b2, i, none⟩ = (#[.int .i64 1, .int .i64 5, .int .i64 k, .int .i64 verts, .int .i64 arcs, .int .i64 workers, .int .i64 room, .int .i64 res, .int .i64 lex, .int .i64 hh, .int .i64 flag, .int .i64 pending, .int .i64 ask, .int .i64 count, .int .i64 sense, .int .i64 deques, .int .i64 size, .int .i64 v, .int .i64 t, .int .i64 b, .int .i64 x, .bool false, .bool gt, .bool of] : Array Value)[i]? := S.out.m.cell
  have f2 : ∀ i : Nat, W0.frozen? ⟨b2, i, none⟩ = false := S.out.m.free
  go_upto_region 18 with (fail)
  refine wp_region_kept (by kernel_rfl) (by kernel_rfl) ?_
  repeat (go_big_quiet_step ((go_at_call 53; exact same_call (refLoadN (S.out.rb.kept (kept_ext _ _)) HN.out _ t' ht' hm))))
  refine wpQuiet_nil ?_
  intro W1 hk
  have S1 := Lib.hid (S.out.kept hk)
  clear m2 f2 hk S
  have hw : wrap64 (t + 1) = t + 1 := by unfold wrap64; omega
  have m2 : ∀ i : Nat, W1.cell? ⟨b2, i, none⟩ = (#[.int .i64 1, .int .i64 5, .int .i64 k, .int .i64 verts, .int .i64 arcs, .int .i64 workers, .int .i64 room, .int .i64 res, .int .i64 lex, .int .i64 hh, .int .i64 flag, .int .i64 pending, .int .i64 ask, .int .i64 count, .int .i64 sense, .int .i64 deques, .int .i64 size, .int .i64 v, .int .i64 t, .int .i64 b, .int .i64 x, .bool false, .bool gt, .bool of] : Array Value)[i]? := S1.out.m.cell
  have f2 : ∀ i : Nat, W1.frozen? ⟨b2, i, none⟩ = false := S1.out.m.free
  go_upto_region 20 with (fail)
  have S2 := Lib.hid (S1.out.upd (i := 22) (u := .bool true) rfl)
  clear m2 f2 S1
  generalize World.setCell _ ⟨b2, 22, none⟩ _ = WS2 at S2 ⊢
  have m2 : ∀ i : Nat, WS2.cell? ⟨b2, i, none⟩ = (#[.int .i64 1, .int .i64 5, .int .i64 k, .int .i64 verts, .int .i64 arcs, .int .i64 workers, .int .i64 room, .int .i64 res, .int .i64 lex, .int .i64 hh, .int .i64 flag, .int .i64 pending, .int .i64 ask, .int .i64 count, .int .i64 sense, .int .i64 deques, .int .i64 size, .int .i64 v, .int .i64 t, .int .i64 b, .int .i64 x, .bool false, .bool true, .bool of] : Array Value)[i]? := S2.out.m.cell
  have f2 : ∀ i : Nat, WS2.frozen? ⟨b2, i, none⟩ = false := S2.out.m.free
  go_wp2_with fail
  refine (refPutN S2.out.rb HN.out _ _ hy hm).mono ?_
  rintro e w3 ⟨g3, cap3, rfl, hR3, hg3, hk3⟩
  have S3 := Lib.hid (S2.out.mem hk3 hR3 hg3)
  clear hR3 hg3 hk3 S2 m2 f2
  have hra : w3.rangeAt b2 0 [.int .i64 1, .int .i64 5, .int .i64 k, .int .i64 verts, .int .i64 arcs, .int .i64 workers, .int .i64 room, .int .i64 res, .int .i64 lex, .int .i64 hh, .int .i64 flag, .int .i64 pending, .int .i64 ask, .int .i64 count, .int .i64 sense, .int .i64 deques, .int .i64 size, .int .i64 v, .int .i64 t, .int .i64 b, .int .i64 x, .bool false, .bool true, .bool of] := Blk.range S3.out.m
  have hth := Blk.there S3.out.r 24 rfl
  obtain ⟨W9, hW9⟩ : ∃ W9, w3.setCells b4 0 [.int .i64 1, .int .i64 5, .int .i64 k, .int .i64 verts, .int .i64 arcs, .int .i64 workers, .int .i64 room, .int .i64 res, .int .i64 lex, .int .i64 hh, .int .i64 flag, .int .i64 pending, .int .i64 ask, .int .i64 count, .int .i64 sense, .int .i64 deques, .int .i64 size, .int .i64 v, .int .i64 t, .int .i64 b, .int .i64 x, .bool false, .bool true, .bool of] = W9 := ⟨_, rfl⟩
  have hB9 : Blk W9 b4 #[.int .i64 1, .int .i64 5, .int .i64 k, .int .i64 verts, .int .i64 arcs, .int .i64 workers, .int .i64 room, .int .i64 res, .int .i64 lex, .int .i64 hh, .int .i64 flag, .int .i64 pending, .int .i64 ask, .int .i64 count, .int .i64 sense, .int .i64 deques, .int .i64 size, .int .i64 v, .int .i64 t, .int .i64 b, .int .i64 x, .bool false, .bool true, .bool of] 73 ∧ Upd (fun k => k = b4) w3 W9 := by rw [← hW9]; exact Blk.alls S3.out.r [.int .i64 1, .int .i64 5, .int .i64 k, .int .i64 verts, .int .i64 arcs, .int .i64 workers, .int .i64 room, .int .i64 res, .int .i64 lex, .int .i64 hh, .int .i64 flag, .int .i64 pending, .int .i64 ask, .int .i64 count, .int .i64 sense, .int .i64 deques, .int .i64 size, .int .i64 v, .int .i64 t, .int .i64 b, .int .i64 x, .bool false, .bool true, .bool of] rfl
  have hr9 : W9.rangeAt b4 0 [.int .i64 1, .int .i64 5, .int .i64 k, .int .i64 verts, .int .i64 arcs, .int .i64 workers, .int .i64 room, .int .i64 res, .int .i64 lex, .int .i64 hh, .int .i64 flag, .int .i64 pending, .int .i64 ask, .int .i64 count, .int .i64 sense, .int .i64 deques, .int .i64 size, .int .i64 v, .int .i64 t, .int .i64 b, .int .i64 x, .bool false, .bool true, .bool of] := Blk.range hB9.1
  have hz24 := HZ.out
  have hlv := run_loadVar_mid (P := Try.prog) W9 b4 0 73 [.int .i64 1, .int .i64 5, .int .i64 k, .int .i64 verts, .int .i64 arcs, .int .i64 workers, .int .i64 room, .int .i64 res, .int .i64 lex, .int .i64 hh, .int .i64 flag, .int .i64 pending, .int .i64 ask, .int .i64 count, .int .i64 sense, .int .i64 deques, .int .i64 size, .int .i64 v, .int .i64 t, .int .i64 b, .int .i64 x, .bool false, .bool true, .bool of] _ hr9 Try.underlying73 rfl hz24
  have HF := Lib.hid (S3.out.end9 N hB9.2)
  clear hB9 hr9 S3
  go_wp2_with (first | (refine wpList_load_mid rfl _ _ rfl b2 0 rfl [.int .i64 1, .int .i64 5, .int .i64 k, .int .i64 verts, .int .i64 arcs, .int .i64 workers, .int .i64 room, .int .i64 res, .int .i64 lex, .int .i64 hh, .int .i64 flag, .int .i64 pending, .int .i64 ask, .int .i64 count, .int .i64 sense, .int .i64 deques, .int .i64 size, .int .i64 v, .int .i64 t, .int .i64 b, .int .i64 x, .bool false, .bool true, .bool of] _ hra Try.underlying73 rfl hz24 ?_) | (refine wpList_store_mid rfl _ _ _ rfl b4 0 #[.int .i64 1, .int .i64 5, .int .i64 k, .int .i64 verts, .int .i64 arcs, .int .i64 workers, .int .i64 room, .int .i64 res, .int .i64 lex, .int .i64 hh, .int .i64 flag, .int .i64 pending, .int .i64 ask, .int .i64 count, .int .i64 sense, .int .i64 deques, .int .i64 size, .int .i64 v, .int .i64 t, .int .i64 b, .int .i64 x, .bool false, .bool true, .bool of] rfl rfl hth hz24 (all_oneCell_toArray (cs := [.int .i64 1, .int .i64 5, .int .i64 k, .int .i64 verts, .int .i64 arcs, .int .i64 workers, .int .i64 room, .int .i64 res, .int .i64 lex, .int .i64 hh, .int .i64 flag, .int .i64 pending, .int .i64 ask, .int .i64 count, .int .i64 sense, .int .i64 deques, .int .i64 size, .int .i64 v, .int .i64 t, .int .i64 b, .int .i64 x, .bool false, .bool true, .bool of]) (by simp [Value.oneCell'])) ?_; simp only [hW9]) | fail)
  clear hth hra hW9
  exact bodyPost_ret (v := .tuple #[.agg #[.int .i64 1, .int .i64 5, .int .i64 k, .int .i64 verts, .int .i64 arcs, .int .i64 workers, .int .i64 room, .int .i64 res, .int .i64 lex, .int .i64 hh, .int .i64 flag, .int .i64 pending, .int .i64 ask, .int .i64 count, .int .i64 sense, .int .i64 deques, .int .i64 size, .int .i64 v, .int .i64 t, .int .i64 b, .int .i64 x, .bool false, .bool true, .bool of], .slice (some ⟨g3, 0, none⟩) N cap3]) (by simp [results, Try.results88, hlv, asAddr, Act.put]) rfl HF.out

set_option maxRecDepth 100000 in
set_option maxHeartbeats 8000000 in
theorem refQ_5f {w : World} {g cap N : Nat} {xs : List Int} {l : Lay} {k : Int} {tp r : Nat} (v : Int) (hG : Geo l k tp r) (hr : RB w g cap xs) (hN : xs.length = N) (hm : N ≤ 1000000) {t b x : Int} {gt of : Bool} (t' : Int) (ht' : bget xs (tp : Int) = t') (hz : (t' == t) = false) :
    Calls Try.prog 88 #[.agg (RMA l k v 1 5 t b x false gt of).toArray, .slice (some ⟨g, 0, none⟩) N cap, .int .i64 (tp : Int), .int .i64 ((tp : Int) + 1)] w (RefEnd N l k v 1 5 t b x false gt of xs g w) := by
  have HTo := fun w => Lib.hid (refTop_g hG w)
  have HBo := fun w => Lib.hid (refBottom_g hG w)
  have HSl := fun j h0 h9 w => Lib.hid (refSlot_g hG j h0 h9 w)
  have hW0 := RS.start (l := l) (k := k) (v := v) (kn := 1) (a := 5) (t := t) (b := b) (x := x) (dn := false) (gt := gt) (of := of) hr
  have HRO := Lib.hid hG.room
  have htp := hG.tp_le
  have HN := Lib.hid hN
  clear hG hr hN
  obtain ⟨verts, arcs, workers, room, res, lex, hh, flag, pending, ask, count, sense, deques, size⟩ := l
  simp only [Lay.val, Lay.vals] at HTo HBo HSl
  simp only [RMA] at hW0 ⊢
  have hz24 : (Try.prog.info? 73).map (·.size) = some 24 := by kernel_rfl
  have HZ := Lib.hid hz24
  clear hz24
  go_enter Try.func88, Try.ntmps88
  go_upto_region 1 with (fail)
  generalize ((w.alloc (.cells #[.int .i64 1, .int .i64 5, .int .i64 k, .int .i64 verts, .int .i64 arcs, .int .i64 workers, .int .i64 room, .int .i64 res, .int .i64 lex, .int .i64 hh, .int .i64 flag, .int .i64 pending, .int .i64 ask, .int .i64 count, .int .i64 sense, .int .i64 deques, .int .i64 size, .int .i64 v, .int .i64 t, .int .i64 b, .int .i64 x, .bool false, .bool gt, .bool of] 73)).alloc (.cells #[.int .i64 0, .int .i64 0, .int .i64 0, .int .i64 0, .int .i64 0, .int .i64 0, .int .i64 0, .int .i64 0, .int .i64 0, .int .i64 0, .int .i64 0, .int .i64 0, .int .i64 0, .int .i64 0, .int .i64 0, .int .i64 0, .int .i64 0, .int .i64 0, .int .i64 0, .int .i64 0, .int .i64 0, .bool false, .bool false, .bool false] 73)) = W0 at hW0 ⊢
  have hW0 : RS w g w.heap.size (w.heap.size + 1) (⟨verts, arcs, workers, room, res, lex, hh, flag, pending, ask, count, sense, deques, size⟩ : Lay) k v 1 5 t b x false gt of g cap xs W0 := hW0
  generalize w.heap.size + 1 = b4 at hW0 ⊢
  generalize hb2 : w.heap.size = b2 at hW0 ⊢
  clear hb2
  have S := Lib.hid hW0
  clear hW0
  have m2 : ∀ i : Nat, W0.cell? ⟨b2, i, none⟩ = (#[.int .i64 1, .int .i64 5, .int .i64 k, .int .i64 verts, .int .i64 arcs, .int .i64 workers, .int .i64 room, .int .i64 res, .int .i64 lex, .int .i64 hh, .int .i64 flag, .int .i64 pending, .int .i64 ask, .int .i64 count, .int .i64 sense, .int .i64 deques, .int .i64 size, .int .i64 v, .int .i64 t, .int .i64 b, .int .i64 x, .bool false, .bool gt, .bool of] : Array Value)[i]? := S.out.m.cell
  have f2 : ∀ i : Nat, W0.frozen? ⟨b2, i, none⟩ = false := S.out.m.free
  go_upto_region 18 with (fail)
  refine wp_region_kept (by kernel_rfl) (by kernel_rfl) ?_
  repeat (go_big_quiet_step ((go_at_call 53; exact same_call (refLoadN (S.out.rb.kept (kept_ext _ _)) HN.out _ t' ht' hm))))
  refine wpQuiet_nil ?_
  intro W1 hk
  have S1 := Lib.hid (S.out.kept hk)
  clear m2 f2 hk S
  go_upto_region 21 with (fail)
  have hra : W1.rangeAt b2 0 [.int .i64 1, .int .i64 5, .int .i64 k, .int .i64 verts, .int .i64 arcs, .int .i64 workers, .int .i64 room, .int .i64 res, .int .i64 lex, .int .i64 hh, .int .i64 flag, .int .i64 pending, .int .i64 ask, .int .i64 count, .int .i64 sense, .int .i64 deques, .int .i64 size, .int .i64 v, .int .i64 t, .int .i64 b, .int .i64 x, .bool false, .bool gt, .bool of] := Blk.range S1.out.m
  have hth := Blk.there S1.out.r 24 rfl
  obtain ⟨W9, hW9⟩ : ∃ W9, W1.setCells b4 0 [.int .i64 1, .int .i64 5, .int .i64 k, .int .i64 verts, .int .i64 arcs, .int .i64 workers, .int .i64 room, .int .i64 res, .int .i64 lex, .int .i64 hh, .int .i64 flag, .int .i64 pending, .int .i64 ask, .int .i64 count, .int .i64 sense, .int .i64 deques, .int .i64 size, .int .i64 v, .int .i64 t, .int .i64 b, .int .i64 x, .bool false, .bool gt, .bool of] = W9 := ⟨_, rfl⟩
  have hB9 : Blk W9 b4 #[.int .i64 1, .int .i64 5, .int .i64 k, .int .i64 verts, .int .i64 arcs, .int .i64 workers, .int .i64 room, .int .i64 res, .int .i64 lex, .int .i64 hh, .int .i64 flag, .int .i64 pending, .int .i64 ask, .int .i64 count, .int .i64 sense, .int .i64 deques, .int .i64 size, .int .i64 v, .int .i64 t, .int .i64 b, .int .i64 x, .bool false, .bool gt, .bool of] 73 ∧ Upd (fun k => k = b4) W1 W9 := by rw [← hW9]; exact Blk.alls S1.out.r [.int .i64 1, .int .i64 5, .int .i64 k, .int .i64 verts, .int .i64 arcs, .int .i64 workers, .int .i64 room, .int .i64 res, .int .i64 lex, .int .i64 hh, .int .i64 flag, .int .i64 pending, .int .i64 ask, .int .i64 count, .int .i64 sense, .int .i64 deques, .int .i64 size, .int .i64 v, .int .i64 t, .int .i64 b, .int .i64 x, .bool false, .bool gt, .bool of] rfl
  have hr9 : W9.rangeAt b4 0 [.int .i64 1, .int .i64 5, .int .i64 k, .int .i64 verts, .int .i64 arcs, .int .i64 workers, .int .i64 room, .int .i64 res, .int .i64 lex, .int .i64 hh, .int .i64 flag, .int .i64 pending, .int .i64 ask, .int .i64 count, .int .i64 sense, .int .i64 deques, .int .i64 size, .int .i64 v, .int .i64 t, .int .i64 b, .int .i64 x, .bool false, .bool gt, .bool of] := Blk.range hB9.1
  have hz24 := HZ.out
  have hlv := run_loadVar_mid (P := Try.prog) W9 b4 0 73 [.int .i64 1, .int .i64 5, .int .i64 k, .int .i64 verts, .int .i64 arcs, .int .i64 workers, .int .i64 room, .int .i64 res, .int .i64 lex, .int .i64 hh, .int .i64 flag, .int .i64 pending, .int .i64 ask, .int .i64 count, .int .i64 sense, .int .i64 deques, .int .i64 size, .int .i64 v, .int .i64 t, .int .i64 b, .int .i64 x, .bool false, .bool gt, .bool of] _ hr9 Try.underlying73 rfl hz24
  have HF := Lib.hid (S1.out.end9 N hB9.2)
  clear hB9 hr9 S1
  go_wp2_with (first | (refine wpList_load_mid rfl _ _ rfl b2 0 rfl [.int .i64 1, .int .i64 5, .int .i64 k, .int .i64 verts, .int .i64 arcs, .int .i64 workers, .int .i64 room, .int .i64 res, .int .i64 lex, .int .i64 hh, .int .i64 flag, .int .i64 pending, .int .i64 ask, .int .i64 count, .int .i64 sense, .int .i64 deques, .int .i64 size, .int .i64 v, .int .i64 t, .int .i64 b, .int .i64 x, .bool false, .bool gt, .bool of] _ hra Try.underlying73 rfl hz24 ?_) | (refine wpList_store_mid rfl _ _ _ rfl b4 0 #[.int .i64 1, .int .i64 5, .int .i64 k, .int .i64 verts, .int .i64 arcs, .int .i64 workers, .int .i64 room, .int .i64 res, .int .i64 lex, .int .i64 hh, .int .i64 flag, .int .i64 pending, .int .i64 ask, .int .i64 count, .int .i64 sense, .int .i64 deques, .int .i64 size, .int .i64 v, .int .i64 t, .int .i64 b, .int .i64 x, .bool false, .bool gt, .bool of] rfl rfl hth hz24 (all_oneCell_toArray (cs := [.int .i64 1, .int .i64 5, .int .i64 k, .int .i64 verts, .int .i64 arcs, .int .i64 workers, .int .i64 room, .int .i64 res, .int .i64 lex, .int .i64 hh, .int .i64 flag, .int .i64 pending, .int .i64 ask, .int .i64 count, .int .i64 sense, .int .i64 deques, .int .i64 size, .int .i64 v, .int .i64 t, .int .i64 b, .int .i64 x, .bool false, .bool gt, .bool of]) (by simp [Value.oneCell'])) ?_; simp only [hW9]) | fail)
  clear hth hra hW9
  exact bodyPost_ret (v := .tuple #[.agg #[.int .i64 1, .int .i64 5, .int .i64 k, .int .i64 verts, .int .i64 arcs, .int .i64 workers, .int .i64 room, .int .i64 res, .int .i64 lex, .int .i64 hh, .int .i64 flag, .int .i64 pending, .int .i64 ask, .int .i64 count, .int .i64 sense, .int .i64 deques, .int .i64 size, .int .i64 v, .int .i64 t, .int .i64 b, .int .i64 x, .bool false, .bool gt, .bool of], .slice (some ⟨g, 0, none⟩) N cap]) (by simp [results, Try.results88, hlv, asAddr, Act.put]) rfl HF.out

set_option maxRecDepth 100000 in
set_option maxHeartbeats 8000000 in
theorem refQ_6 {w : World} {g cap N : Nat} {xs : List Int} {l : Lay} {k : Int} {tp r : Nat} (v : Int) (hG : Geo l k tp r) (hr : RB w g cap xs) (hN : xs.length = N) (hm : N ≤ 1000000) {t b x : Int} {gt of : Bool} (ys : List Int) (hy : bput xs ((tp : Int) + 1) (b + 1) = ys) (hb1 : -1 ≤ b ∧ b ≤ 1000000) :
    Calls Try.prog 88 #[.agg (RMA l k v 1 6 t b x false gt of).toArray, .slice (some ⟨g, 0, none⟩) N cap, .int .i64 (tp : Int), .int .i64 ((tp : Int) + 1)] w (RefEnd N l k v 1 6 t b x true gt of ys g w) := by
  have HTo := fun w => Lib.hid (refTop_g hG w)
  have HBo := fun w => Lib.hid (refBottom_g hG w)
  have HSl := fun j h0 h9 w => Lib.hid (refSlot_g hG j h0 h9 w)
  have hW0 := RS.start (l := l) (k := k) (v := v) (kn := 1) (a := 6) (t := t) (b := b) (x := x) (dn := false) (gt := gt) (of := of) hr
  have HRO := Lib.hid hG.room
  have htp := hG.tp_le
  have HN := Lib.hid hN
  clear hG hr hN
  obtain ⟨verts, arcs, workers, room, res, lex, hh, flag, pending, ask, count, sense, deques, size⟩ := l
  simp only [Lay.val, Lay.vals] at HTo HBo HSl
  simp only [RMA] at hW0 ⊢
  have hz24 : (Try.prog.info? 73).map (·.size) = some 24 := by kernel_rfl
  have HZ := Lib.hid hz24
  clear hz24
  go_enter Try.func88, Try.ntmps88
  go_upto_region 1 with (fail)
  generalize ((w.alloc (.cells #[.int .i64 1, .int .i64 6, .int .i64 k, .int .i64 verts, .int .i64 arcs, .int .i64 workers, .int .i64 room, .int .i64 res, .int .i64 lex, .int .i64 hh, .int .i64 flag, .int .i64 pending, .int .i64 ask, .int .i64 count, .int .i64 sense, .int .i64 deques, .int .i64 size, .int .i64 v, .int .i64 t, .int .i64 b, .int .i64 x, .bool false, .bool gt, .bool of] 73)).alloc (.cells #[.int .i64 0, .int .i64 0, .int .i64 0, .int .i64 0, .int .i64 0, .int .i64 0, .int .i64 0, .int .i64 0, .int .i64 0, .int .i64 0, .int .i64 0, .int .i64 0, .int .i64 0, .int .i64 0, .int .i64 0, .int .i64 0, .int .i64 0, .int .i64 0, .int .i64 0, .int .i64 0, .int .i64 0, .bool false, .bool false, .bool false] 73)) = W0 at hW0 ⊢
  have hW0 : RS w g w.heap.size (w.heap.size + 1) (⟨verts, arcs, workers, room, res, lex, hh, flag, pending, ask, count, sense, deques, size⟩ : Lay) k v 1 6 t b x false gt of g cap xs W0 := hW0
  generalize w.heap.size + 1 = b4 at hW0 ⊢
  generalize hb2 : w.heap.size = b2 at hW0 ⊢
  clear hb2
  have S := Lib.hid hW0
  clear hW0
  have hw : wrap64 (b + 1) = b + 1 := by unfold wrap64; omega
  have m2 : ∀ i : Nat, W0.cell? ⟨b2, i, none⟩ = (#[.int .i64 1, .int .i64 6, .int .i64 k, .int .i64 verts, .int .i64 arcs, .int .i64 workers, .int .i64 room, .int .i64 res, .int .i64 lex, .int .i64 hh, .int .i64 flag, .int .i64 pending, .int .i64 ask, .int .i64 count, .int .i64 sense, .int .i64 deques, .int .i64 size, .int .i64 v, .int .i64 t, .int .i64 b, .int .i64 x, .bool false, .bool gt, .bool of] : Array Value)[i]? := S.out.m.cell
  have f2 : ∀ i : Nat, W0.frozen? ⟨b2, i, none⟩ = false := S.out.m.free
  go_upto_region 3 with (fail)
  have S1 := Lib.hid (S.out.upd (i := 21) (u := .bool true) rfl)
  clear m2 f2 S
  generalize World.setCell _ ⟨b2, 21, none⟩ _ = WS1 at S1 ⊢
  have m2 : ∀ i : Nat, WS1.cell? ⟨b2, i, none⟩ = (#[.int .i64 1, .int .i64 6, .int .i64 k, .int .i64 verts, .int .i64 arcs, .int .i64 workers, .int .i64 room, .int .i64 res, .int .i64 lex, .int .i64 hh, .int .i64 flag, .int .i64 pending, .int .i64 ask, .int .i64 count, .int .i64 sense, .int .i64 deques, .int .i64 size, .int .i64 v, .int .i64 t, .int .i64 b, .int .i64 x, .bool true, .bool gt, .bool of] : Array Value)[i]? := S1.out.m.cell
  have f2 : ∀ i : Nat, WS1.frozen? ⟨b2, i, none⟩ = false := S1.out.m.free
  go_wp2_with fail
  refine (refPutN S1.out.rb HN.out _ _ hy hm).mono ?_
  rintro e w3 ⟨g3, cap3, rfl, hR3, hg3, hk3⟩
  have S2 := Lib.hid (S1.out.mem hk3 hR3 hg3)
  clear hR3 hg3 hk3 S1 m2 f2
  have hra : w3.rangeAt b2 0 [.int .i64 1, .int .i64 6, .int .i64 k, .int .i64 verts, .int .i64 arcs, .int .i64 workers, .int .i64 room, .int .i64 res, .int .i64 lex, .int .i64 hh, .int .i64 flag, .int .i64 pending, .int .i64 ask, .int .i64 count, .int .i64 sense, .int .i64 deques, .int .i64 size, .int .i64 v, .int .i64 t, .int .i64 b, .int .i64 x, .bool true, .bool gt, .bool of] := Blk.range S2.out.m
  have hth := Blk.there S2.out.r 24 rfl
  obtain ⟨W9, hW9⟩ : ∃ W9, w3.setCells b4 0 [.int .i64 1, .int .i64 6, .int .i64 k, .int .i64 verts, .int .i64 arcs, .int .i64 workers, .int .i64 room, .int .i64 res, .int .i64 lex, .int .i64 hh, .int .i64 flag, .int .i64 pending, .int .i64 ask, .int .i64 count, .int .i64 sense, .int .i64 deques, .int .i64 size, .int .i64 v, .int .i64 t, .int .i64 b, .int .i64 x, .bool true, .bool gt, .bool of] = W9 := ⟨_, rfl⟩
  have hB9 : Blk W9 b4 #[.int .i64 1, .int .i64 6, .int .i64 k, .int .i64 verts, .int .i64 arcs, .int .i64 workers, .int .i64 room, .int .i64 res, .int .i64 lex, .int .i64 hh, .int .i64 flag, .int .i64 pending, .int .i64 ask, .int .i64 count, .int .i64 sense, .int .i64 deques, .int .i64 size, .int .i64 v, .int .i64 t, .int .i64 b, .int .i64 x, .bool true, .bool gt, .bool of] 73 ∧ Upd (fun k => k = b4) w3 W9 := by rw [← hW9]; exact Blk.alls S2.out.r [.int .i64 1, .int .i64 6, .int .i64 k, .int .i64 verts, .int .i64 arcs, .int .i64 workers, .int .i64 room, .int .i64 res, .int .i64 lex, .int .i64 hh, .int .i64 flag, .int .i64 pending, .int .i64 ask, .int .i64 count, .int .i64 sense, .int .i64 deques, .int .i64 size, .int .i64 v, .int .i64 t, .int .i64 b, .int .i64 x, .bool true, .bool gt, .bool of] rfl
  have hr9 : W9.rangeAt b4 0 [.int .i64 1, .int .i64 6, .int .i64 k, .int .i64 verts, .int .i64 arcs, .int .i64 workers, .int .i64 room, .int .i64 res, .int .i64 lex, .int .i64 hh, .int .i64 flag, .int .i64 pending, .int .i64 ask, .int .i64 count, .int .i64 sense, .int .i64 deques, .int .i64 size, .int .i64 v, .int .i64 t, .int .i64 b, .int .i64 x, .bool true, .bool gt, .bool of] := Blk.range hB9.1
  have hz24 := HZ.out
  have hlv := run_loadVar_mid (P := Try.prog) W9 b4 0 73 [.int .i64 1, .int .i64 6, .int .i64 k, .int .i64 verts, .int .i64 arcs, .int .i64 workers, .int .i64 room, .int .i64 res, .int .i64 lex, .int .i64 hh, .int .i64 flag, .int .i64 pending, .int .i64 ask, .int .i64 count, .int .i64 sense, .int .i64 deques, .int .i64 size, .int .i64 v, .int .i64 t, .int .i64 b, .int .i64 x, .bool true, .bool gt, .bool of] _ hr9 Try.underlying73 rfl hz24
  have HF := Lib.hid (S2.out.end9 N hB9.2)
  clear hB9 hr9 S2
  go_wp2_with (first | (refine wpList_load_mid rfl _ _ rfl b2 0 rfl [.int .i64 1, .int .i64 6, .int .i64 k, .int .i64 verts, .int .i64 arcs, .int .i64 workers, .int .i64 room, .int .i64 res, .int .i64 lex, .int .i64 hh, .int .i64 flag, .int .i64 pending, .int .i64 ask, .int .i64 count, .int .i64 sense, .int .i64 deques, .int .i64 size, .int .i64 v, .int .i64 t, .int .i64 b, .int .i64 x, .bool true, .bool gt, .bool of] _ hra Try.underlying73 rfl hz24 ?_) | (refine wpList_store_mid rfl _ _ _ rfl b4 0 #[.int .i64 1, .int .i64 6, .int .i64 k, .int .i64 verts, .int .i64 arcs, .int .i64 workers, .int .i64 room, .int .i64 res, .int .i64 lex, .int .i64 hh, .int .i64 flag, .int .i64 pending, .int .i64 ask, .int .i64 count, .int .i64 sense, .int .i64 deques, .int .i64 size, .int .i64 v, .int .i64 t, .int .i64 b, .int .i64 x, .bool true, .bool gt, .bool of] rfl rfl hth hz24 (all_oneCell_toArray (cs := [.int .i64 1, .int .i64 6, .int .i64 k, .int .i64 verts, .int .i64 arcs, .int .i64 workers, .int .i64 room, .int .i64 res, .int .i64 lex, .int .i64 hh, .int .i64 flag, .int .i64 pending, .int .i64 ask, .int .i64 count, .int .i64 sense, .int .i64 deques, .int .i64 size, .int .i64 v, .int .i64 t, .int .i64 b, .int .i64 x, .bool true, .bool gt, .bool of]) (by simp [Value.oneCell'])) ?_; simp only [hW9]) | fail)
  clear hth hra hW9
  exact bodyPost_ret (v := .tuple #[.agg #[.int .i64 1, .int .i64 6, .int .i64 k, .int .i64 verts, .int .i64 arcs, .int .i64 workers, .int .i64 room, .int .i64 res, .int .i64 lex, .int .i64 hh, .int .i64 flag, .int .i64 pending, .int .i64 ask, .int .i64 count, .int .i64 sense, .int .i64 deques, .int .i64 size, .int .i64 v, .int .i64 t, .int .i64 b, .int .i64 x, .bool true, .bool gt, .bool of], .slice (some ⟨g3, 0, none⟩) N cap3]) (by simp [results, Try.results88, hlv, asAddr, Act.put]) rfl HF.out

end Go.Proofs.Ytdgkemadhooogaa
