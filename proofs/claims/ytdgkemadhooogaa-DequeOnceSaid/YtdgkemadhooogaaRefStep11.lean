/- acequiaref11.Step (printed by gen_refstep11.py). -/
import Derived.Test.YtdgkemadhooogaaRefS11
import Derived.Deep.RegionHeld3
import Derived.Deep.CutRange
import Derived.StillTailTactics
import Derived.Deep.MidRow
namespace Go.Proofs.Ytdgkemadhooogaa
set_option linter.unusedVariables false
set_option linter.unusedSimpArgs false
open Go.RowKit
attribute [local go_sem] cell?_ext

set_option maxRecDepth 100000 in
set_option maxHeartbeats 8000000 in
theorem refS_done {w : World} {g cap N : Nat} {xs : List Int} {l : Lay} {k : Int} {tp r : Nat} (v : Int) (hG : Geo l k tp r) (hr : RB w g cap xs) (hN : xs.length = N) (hm : N ≤ 1000000) {kn a t b x : Int} {gt of : Bool} :
    Calls Try.prog 51 #[.agg (RMA l k v kn a t b x true gt of).toArray, .slice (some ⟨g, 0, none⟩) N cap] w (RefEnd N l k v kn a t b x true gt of xs g w) := by
  have HTo := fun w => Lib.hid (refTop_g hG w)
  have HBo := fun w => Lib.hid (refBottom_g hG w)
  have HSl := fun j h0 h9 w => Lib.hid (refSlot_g hG j h0 h9 w)
  have hW0 := RS.start (l := l) (k := k) (v := v) (kn := kn) (a := a) (t := t) (b := b) (x := x) (dn := true) (gt := gt) (of := of) hr
  have HRO := Lib.hid hG.room
  have htp := hG.tp_le
  have HN := Lib.hid hN
  clear hG hr hN
  obtain ⟨verts, arcs, workers, room, res, lex, hh, flag, pending, ask, count, sense, deques, size⟩ := l
  simp only [Lay.val, Lay.vals] at HTo HBo HSl
  simp only [RMA] at hW0 ⊢
  have hz24 : (Try.prog.info? 73).map (·.size) = some 24 := by kernel_rfl
  have HZ := Lib.hid hz24
  clear hz24
  go_enter Try.func51, Try.ntmps51
  go_upto_region 1 with (fail)
  generalize ((w.alloc (.cells #[.int .i64 kn, .int .i64 a, .int .i64 k, .int .i64 verts, .int .i64 arcs, .int .i64 workers, .int .i64 room, .int .i64 res, .int .i64 lex, .int .i64 hh, .int .i64 flag, .int .i64 pending, .int .i64 ask, .int .i64 count, .int .i64 sense, .int .i64 deques, .int .i64 size, .int .i64 v, .int .i64 t, .int .i64 b, .int .i64 x, .bool true, .bool gt, .bool of] 73)).alloc (.cells #[.int .i64 0, .int .i64 0, .int .i64 0, .int .i64 0, .int .i64 0, .int .i64 0, .int .i64 0, .int .i64 0, .int .i64 0, .int .i64 0, .int .i64 0, .int .i64 0, .int .i64 0, .int .i64 0, .int .i64 0, .int .i64 0, .int .i64 0, .int .i64 0, .int .i64 0, .int .i64 0, .int .i64 0, .bool false, .bool false, .bool false] 73)) = W0 at hW0 ⊢
  have hW0 : RS w g w.heap.size (w.heap.size + 1) (⟨verts, arcs, workers, room, res, lex, hh, flag, pending, ask, count, sense, deques, size⟩ : Lay) k v kn a t b x true gt of g cap xs W0 := hW0
  generalize w.heap.size + 1 = b4 at hW0 ⊢
  generalize hb2 : w.heap.size = b2 at hW0 ⊢
  clear hb2
  have S := Lib.hid hW0
  clear hW0
  have m2 : ∀ i : Nat, W0.cell? ⟨b2, i, none⟩ = (#[.int .i64 kn, .int .i64 a, .int .i64 k, .int .i64 verts, .int .i64 arcs, .int .i64 workers, .int .i64 room, .int .i64 res, .int .i64 lex, .int .i64 hh, .int .i64 flag, .int .i64 pending, .int .i64 ask, .int .i64 count, .int .i64 sense, .int .i64 deques, .int .i64 size, .int .i64 v, .int .i64 t, .int .i64 b, .int .i64 x, .bool true, .bool gt, .bool of] : Array Value)[i]? := S.out.m.cell
  have f2 : ∀ i : Nat, W0.frozen? ⟨b2, i, none⟩ = false := S.out.m.free
  go_upto_region 2 with (fail)
  clear m2 f2
  have hra : W0.rangeAt b2 0 [.int .i64 kn, .int .i64 a, .int .i64 k, .int .i64 verts, .int .i64 arcs, .int .i64 workers, .int .i64 room, .int .i64 res, .int .i64 lex, .int .i64 hh, .int .i64 flag, .int .i64 pending, .int .i64 ask, .int .i64 count, .int .i64 sense, .int .i64 deques, .int .i64 size, .int .i64 v, .int .i64 t, .int .i64 b, .int .i64 x, .bool true, .bool gt, .bool of] := Blk.range S.out.m
  have hth := Blk.there S.out.r 24 rfl
  obtain ⟨W9, hW9⟩ : ∃ W9, W0.setCells b4 0 [.int .i64 kn, .int .i64 a, .int .i64 k, .int .i64 verts, .int .i64 arcs, .int .i64 workers, .int .i64 room, .int .i64 res, .int .i64 lex, .int .i64 hh, .int .i64 flag, .int .i64 pending, .int .i64 ask, .int .i64 count, .int .i64 sense, .int .i64 deques, .int .i64 size, .int .i64 v, .int .i64 t, .int .i64 b, .int .i64 x, .bool true, .bool gt, .bool of] = W9 := ⟨_, rfl⟩
  have hB9 : Blk W9 b4 #[.int .i64 kn, .int .i64 a, .int .i64 k, .int .i64 verts, .int .i64 arcs, .int .i64 workers, .int .i64 room, .int .i64 res, .int .i64 lex, .int .i64 hh, .int .i64 flag, .int .i64 pending, .int .i64 ask, .int .i64 count, .int .i64 sense, .int .i64 deques, .int .i64 size, .int .i64 v, .int .i64 t, .int .i64 b, .int .i64 x, .bool true, .bool gt, .bool of] 73 ∧ Upd (fun k => k = b4) W0 W9 := by rw [← hW9]; exact Blk.alls S.out.r [.int .i64 kn, .int .i64 a, .int .i64 k, .int .i64 verts, .int .i64 arcs, .int .i64 workers, .int .i64 room, .int .i64 res, .int .i64 lex, .int .i64 hh, .int .i64 flag, .int .i64 pending, .int .i64 ask, .int .i64 count, .int .i64 sense, .int .i64 deques, .int .i64 size, .int .i64 v, .int .i64 t, .int .i64 b, .int .i64 x, .bool true, .bool gt, .bool of] rfl
  have hr9 : W9.rangeAt b4 0 [.int .i64 kn, .int .i64 a, .int .i64 k, .int .i64 verts, .int .i64 arcs, .int .i64 workers, .int .i64 room, .int .i64 res, .int .i64 lex, .int .i64 hh, .int .i64 flag, .int .i64 pending, .int .i64 ask, .int .i64 count, .int .i64 sense, .int .i64 deques, .int .i64 size, .int .i64 v, .int .i64 t, .int .i64 b, .int .i64 x, .bool true, .bool gt, .bool of] := Blk.range hB9.1
  have hz24 := HZ.out
  have hlv := run_loadVar_mid (P := Try.prog) W9 b4 0 73 [.int .i64 kn, .int .i64 a, .int .i64 k, .int .i64 verts, .int .i64 arcs, .int .i64 workers, .int .i64 room, .int .i64 res, .int .i64 lex, .int .i64 hh, .int .i64 flag, .int .i64 pending, .int .i64 ask, .int .i64 count, .int .i64 sense, .int .i64 deques, .int .i64 size, .int .i64 v, .int .i64 t, .int .i64 b, .int .i64 x, .bool true, .bool gt, .bool of] _ hr9 Try.underlying73 rfl hz24
  have HF := Lib.hid (S.out.end9 N hB9.2)
  clear hB9 hr9 S
  go_wp2_with (first | (refine wpList_load_mid rfl _ _ rfl b2 0 rfl [.int .i64 kn, .int .i64 a, .int .i64 k, .int .i64 verts, .int .i64 arcs, .int .i64 workers, .int .i64 room, .int .i64 res, .int .i64 lex, .int .i64 hh, .int .i64 flag, .int .i64 pending, .int .i64 ask, .int .i64 count, .int .i64 sense, .int .i64 deques, .int .i64 size, .int .i64 v, .int .i64 t, .int .i64 b, .int .i64 x, .bool true, .bool gt, .bool of] _ hra Try.underlying73 rfl hz24 ?_) | (refine wpList_store_mid rfl _ _ _ rfl b4 0 #[.int .i64 kn, .int .i64 a, .int .i64 k, .int .i64 verts, .int .i64 arcs, .int .i64 workers, .int .i64 room, .int .i64 res, .int .i64 lex, .int .i64 hh, .int .i64 flag, .int .i64 pending, .int .i64 ask, .int .i64 count, .int .i64 sense, .int .i64 deques, .int .i64 size, .int .i64 v, .int .i64 t, .int .i64 b, .int .i64 x, .bool true, .bool gt, .bool of] rfl rfl hth hz24 (all_oneCell_toArray (cs := [.int .i64 kn, .int .i64 a, .int .i64 k, .int .i64 verts, .int .i64 arcs, .int .i64 workers, .int .i64 room, .int .i64 res, .int .i64 lex, .int .i64 hh, .int .i64 flag, .int .i64 pending, .int .i64 ask, .int .i64 count, .int .i64 sense, .int .i64 deques, .int .i64 size, .int .i64 v, .int .i64 t, .int .i64 b, .int .i64 x, .bool true, .bool gt, .bool of]) (by simp [Value.oneCell'])) ?_; simp only [hW9]) | fail)
  clear hth hra hW9
  exact bodyPost_ret (v := .tuple #[.agg #[.int .i64 kn, .int .i64 a, .int .i64 k, .int .i64 verts, .int .i64 arcs, .int .i64 workers, .int .i64 room, .int .i64 res, .int .i64 lex, .int .i64 hh, .int .i64 flag, .int .i64 pending, .int .i64 ask, .int .i64 count, .int .i64 sense, .int .i64 deques, .int .i64 size, .int .i64 v, .int .i64 t, .int .i64 b, .int .i64 x, .bool true, .bool gt, .bool of], .slice (some ⟨g, 0, none⟩) N cap]) (by simp [results, Try.results51, hlv, asAddr, Act.put]) rfl HF.out

set_option maxRecDepth 100000 in
set_option maxHeartbeats 8000000 in
theorem refS_p0 {w : World} {g cap N : Nat} {xs : List Int} {l : Lay} {k : Int} {tp r : Nat} (v : Int) (hG : Geo l k tp r) (hr : RB w g cap xs) (hN : xs.length = N) (hm : N ≤ 1000000) {t b x : Int} {gt of : Bool} (b' : Int) (hb' : bget xs ((tp : Int) + 1) = b') :
    Calls Try.prog 51 #[.agg (RMA l k v 0 0 t b x false gt of).toArray, .slice (some ⟨g, 0, none⟩) N cap] w (RefEnd N l k v 0 1 t b' x false gt of xs g w) := by
  have HTo := fun w => Lib.hid (refTop_g hG w)
  have HBo := fun w => Lib.hid (refBottom_g hG w)
  have HSl := fun j h0 h9 w => Lib.hid (refSlot_g hG j h0 h9 w)
  have hW0 := RS.start (l := l) (k := k) (v := v) (kn := 0) (a := 0) (t := t) (b := b) (x := x) (dn := false) (gt := gt) (of := of) hr
  have HRO := Lib.hid hG.room
  have htp := hG.tp_le
  have HN := Lib.hid hN
  clear hG hr hN
  obtain ⟨verts, arcs, workers, room, res, lex, hh, flag, pending, ask, count, sense, deques, size⟩ := l
  simp only [Lay.val, Lay.vals] at HTo HBo HSl
  simp only [RMA] at hW0 ⊢
  have hz24 : (Try.prog.info? 73).map (·.size) = some 24 := by kernel_rfl
  have HZ := Lib.hid hz24
  clear hz24
  go_enter Try.func51, Try.ntmps51
  go_upto_region 1 with (fail)
  generalize ((w.alloc (.cells #[.int .i64 0, .int .i64 0, .int .i64 k, .int .i64 verts, .int .i64 arcs, .int .i64 workers, .int .i64 room, .int .i64 res, .int .i64 lex, .int .i64 hh, .int .i64 flag, .int .i64 pending, .int .i64 ask, .int .i64 count, .int .i64 sense, .int .i64 deques, .int .i64 size, .int .i64 v, .int .i64 t, .int .i64 b, .int .i64 x, .bool false, .bool gt, .bool of] 73)).alloc (.cells #[.int .i64 0, .int .i64 0, .int .i64 0, .int .i64 0, .int .i64 0, .int .i64 0, .int .i64 0, .int .i64 0, .int .i64 0, .int .i64 0, .int .i64 0, .int .i64 0, .int .i64 0, .int .i64 0, .int .i64 0, .int .i64 0, .int .i64 0, .int .i64 0, .int .i64 0, .int .i64 0, .int .i64 0, .bool false, .bool false, .bool false] 73)) = W0 at hW0 ⊢
  have hW0 : RS w g w.heap.size (w.heap.size + 1) (⟨verts, arcs, workers, room, res, lex, hh, flag, pending, ask, count, sense, deques, size⟩ : Lay) k v 0 0 t b x false gt of g cap xs W0 := hW0
  generalize w.heap.size + 1 = b4 at hW0 ⊢
  generalize hb2 : w.heap.size = b2 at hW0 ⊢
  clear hb2
  have S := Lib.hid hW0
  clear hW0
  have m2 : ∀ i : Nat, W0.cell? ⟨b2, i, none⟩ = (#[.int .i64 0, .int .i64 0, .int .i64 k, .int .i64 verts, .int .i64 arcs, .int .i64 workers, .int .i64 room, .int .i64 res, .int .i64 lex, .int .i64 hh, .int .i64 flag, .int .i64 pending, .int .i64 ask, .int .i64 count, .int .i64 sense, .int .i64 deques, .int .i64 size, .int .i64 v, .int .i64 t, .int .i64 b, .int .i64 x, .bool false, .bool gt, .bool of] : Array Value)[i]? := S.out.m.cell
  have f2 : ∀ i : Nat, W0.frozen? ⟨b2, i, none⟩ = false := S.out.m.free
  go_upto_region 3 with (fail)
  refine wp_region_kept (by kernel_rfl) (by kernel_rfl) ?_
  repeat (go_big_quiet_step ((first | (go_at_call 54; exact kept_call (HTo _).out) | (go_at_call 55; exact kept_call (HBo _).out))))
  refine wpQuiet_nil ?_
  intro W1 hk
  have S1 := Lib.hid (S.out.kept hk)
  clear m2 f2 hk S
  have m2 : ∀ i : Nat, W1.cell? ⟨b2, i, none⟩ = (#[.int .i64 0, .int .i64 0, .int .i64 k, .int .i64 verts, .int .i64 arcs, .int .i64 workers, .int .i64 room, .int .i64 res, .int .i64 lex, .int .i64 hh, .int .i64 flag, .int .i64 pending, .int .i64 ask, .int .i64 count, .int .i64 sense, .int .i64 deques, .int .i64 size, .int .i64 v, .int .i64 t, .int .i64 b, .int .i64 x, .bool false, .bool gt, .bool of] : Array Value)[i]? := S1.out.m.cell
  have f2 : ∀ i : Nat, W1.frozen? ⟨b2, i, none⟩ = false := S1.out.m.free
  go_upto_region 5 with (fail)
  have S2 := Lib.hid (S1.out.upd (i := 1) (u := .int .i64 1) rfl)
  clear m2 f2 S1
  generalize World.setCell _ ⟨b2, 1, none⟩ _ = WS2 at S2 ⊢
  have m2 : ∀ i : Nat, WS2.cell? ⟨b2, i, none⟩ = (#[.int .i64 0, .int .i64 1, .int .i64 k, .int .i64 verts, .int .i64 arcs, .int .i64 workers, .int .i64 room, .int .i64 res, .int .i64 lex, .int .i64 hh, .int .i64 flag, .int .i64 pending, .int .i64 ask, .int .i64 count, .int .i64 sense, .int .i64 deques, .int .i64 size, .int .i64 v, .int .i64 t, .int .i64 b, .int .i64 x, .bool false, .bool gt, .bool of] : Array Value)[i]? := S2.out.m.cell
  have f2 : ∀ i : Nat, WS2.frozen? ⟨b2, i, none⟩ = false := S2.out.m.free
  go_wp2_with fail
  refine (refLoadN S2.out.rb HN.out _ b' hb' hm).mono ?_
  rintro e w5 ⟨rfl, rfl⟩
  clear m2 f2
  have m2 : ∀ i : Nat, WS2.cell? ⟨b2, i, none⟩ = (#[.int .i64 0, .int .i64 1, .int .i64 k, .int .i64 verts, .int .i64 arcs, .int .i64 workers, .int .i64 room, .int .i64 res, .int .i64 lex, .int .i64 hh, .int .i64 flag, .int .i64 pending, .int .i64 ask, .int .i64 count, .int .i64 sense, .int .i64 deques, .int .i64 size, .int .i64 v, .int .i64 t, .int .i64 b, .int .i64 x, .bool false, .bool gt, .bool of] : Array Value)[i]? := S2.out.m.cell
  have f2 : ∀ i : Nat, WS2.frozen? ⟨b2, i, none⟩ = false := S2.out.m.free
  go_upto_region 17 with (fail)
  have S3 := Lib.hid (S2.out.upd (i := 19) (u := .int .i64 b') rfl)
  clear m2 f2 S2
  generalize World.setCell _ ⟨b2, 19, none⟩ _ = WS3 at S3 ⊢
  have hra : WS3.rangeAt b2 0 [.int .i64 0, .int .i64 1, .int .i64 k, .int .i64 verts, .int .i64 arcs, .int .i64 workers, .int .i64 room, .int .i64 res, .int .i64 lex, .int .i64 hh, .int .i64 flag, .int .i64 pending, .int .i64 ask, .int .i64 count, .int .i64 sense, .int .i64 deques, .int .i64 size, .int .i64 v, .int .i64 t, .int .i64 b', .int .i64 x, .bool false, .bool gt, .bool of] := Blk.range S3.out.m
  have hth := Blk.there S3.out.r 24 rfl
  obtain ⟨W9, hW9⟩ : ∃ W9, WS3.setCells b4 0 [.int .i64 0, .int .i64 1, .int .i64 k, .int .i64 verts, .int .i64 arcs, .int .i64 workers, .int .i64 room, .int .i64 res, .int .i64 lex, .int .i64 hh, .int .i64 flag, .int .i64 pending, .int .i64 ask, .int .i64 count, .int .i64 sense, .int .i64 deques, .int .i64 size, .int .i64 v, .int .i64 t, .int .i64 b', .int .i64 x, .bool false, .bool gt, .bool of] = W9 := ⟨_, rfl⟩
  have hB9 : Blk W9 b4 #[.int .i64 0, .int .i64 1, .int .i64 k, .int .i64 verts, .int .i64 arcs, .int .i64 workers, .int .i64 room, .int .i64 res, .int .i64 lex, .int .i64 hh, .int .i64 flag, .int .i64 pending, .int .i64 ask, .int .i64 count, .int .i64 sense, .int .i64 deques, .int .i64 size, .int .i64 v, .int .i64 t, .int .i64 b', .int .i64 x, .bool false, .bool gt, .bool of] 73 ∧ Upd (fun k => k = b4) WS3 W9 := by rw [← hW9]; exact Blk.alls S3.out.r [.int .i64 0, .int .i64 1, .int .i64 k, .int .i64 verts, .int .i64 arcs, .int .i64 workers, .int .i64 room, .int .i64 res, .int .i64 lex, .int .i64 hh, .int .i64 flag, .int .i64 pending, .int .i64 ask, .int .i64 count, .int .i64 sense, .int .i64 deques, .int .i64 size, .int .i64 v, .int .i64 t, .int .i64 b', .int .i64 x, .bool false, .bool gt, .bool of] rfl
  have hr9 : W9.rangeAt b4 0 [.int .i64 0, .int .i64 1, .int .i64 k, .int .i64 verts, .int .i64 arcs, .int .i64 workers, .int .i64 room, .int .i64 res, .int .i64 lex, .int .i64 hh, .int .i64 flag, .int .i64 pending, .int .i64 ask, .int .i64 count, .int .i64 sense, .int .i64 deques, .int .i64 size, .int .i64 v, .int .i64 t, .int .i64 b', .int .i64 x, .bool false, .bool gt, .bool of] := Blk.range hB9.1
  have hz24 := HZ.out
  have hlv := run_loadVar_mid (P := Try.prog) W9 b4 0 73 [.int .i64 0, .int .i64 1, .int .i64 k, .int .i64 verts, .int .i64 arcs, .int .i64 workers, .int .i64 room, .int .i64 res, .int .i64 lex, .int .i64 hh, .int .i64 flag, .int .i64 pending, .int .i64 ask, .int .i64 count, .int .i64 sense, .int .i64 deques, .int .i64 size, .int .i64 v, .int .i64 t, .int .i64 b', .int .i64 x, .bool false, .bool gt, .bool of] _ hr9 Try.underlying73 rfl hz24
  have HF := Lib.hid (S3.out.end9 N hB9.2)
  clear hB9 hr9 S3
  go_wp2_with (first | (refine wpList_load_mid rfl _ _ rfl b2 0 rfl [.int .i64 0, .int .i64 1, .int .i64 k, .int .i64 verts, .int .i64 arcs, .int .i64 workers, .int .i64 room, .int .i64 res, .int .i64 lex, .int .i64 hh, .int .i64 flag, .int .i64 pending, .int .i64 ask, .int .i64 count, .int .i64 sense, .int .i64 deques, .int .i64 size, .int .i64 v, .int .i64 t, .int .i64 b', .int .i64 x, .bool false, .bool gt, .bool of] _ hra Try.underlying73 rfl hz24 ?_) | (refine wpList_store_mid rfl _ _ _ rfl b4 0 #[.int .i64 0, .int .i64 1, .int .i64 k, .int .i64 verts, .int .i64 arcs, .int .i64 workers, .int .i64 room, .int .i64 res, .int .i64 lex, .int .i64 hh, .int .i64 flag, .int .i64 pending, .int .i64 ask, .int .i64 count, .int .i64 sense, .int .i64 deques, .int .i64 size, .int .i64 v, .int .i64 t, .int .i64 b', .int .i64 x, .bool false, .bool gt, .bool of] rfl rfl hth hz24 (all_oneCell_toArray (cs := [.int .i64 0, .int .i64 1, .int .i64 k, .int .i64 verts, .int .i64 arcs, .int .i64 workers, .int .i64 room, .int .i64 res, .int .i64 lex, .int .i64 hh, .int .i64 flag, .int .i64 pending, .int .i64 ask, .int .i64 count, .int .i64 sense, .int .i64 deques, .int .i64 size, .int .i64 v, .int .i64 t, .int .i64 b', .int .i64 x, .bool false, .bool gt, .bool of]) (by simp [Value.oneCell'])) ?_; simp only [hW9]) | fail)
  clear hth hra hW9
  exact bodyPost_ret (v := .tuple #[.agg #[.int .i64 0, .int .i64 1, .int .i64 k, .int .i64 verts, .int .i64 arcs, .int .i64 workers, .int .i64 room, .int .i64 res, .int .i64 lex, .int .i64 hh, .int .i64 flag, .int .i64 pending, .int .i64 ask, .int .i64 count, .int .i64 sense, .int .i64 deques, .int .i64 size, .int .i64 v, .int .i64 t, .int .i64 b', .int .i64 x, .bool false, .bool gt, .bool of], .slice (some ⟨g, 0, none⟩) N cap]) (by simp [results, Try.results51, hlv, asAddr, Act.put]) rfl HF.out

set_option maxRecDepth 100000 in
set_option maxHeartbeats 8000000 in
theorem refS_p1 {w : World} {g cap N : Nat} {xs : List Int} {l : Lay} {k : Int} {tp r : Nat} (v : Int) (hG : Geo l k tp r) (hr : RB w g cap xs) (hN : xs.length = N) (hm : N ≤ 1000000) {t b x : Int} {gt of : Bool} (t' : Int) (ht' : bget xs (tp : Int) = t') (z : Bool) (hz : decide (l.room ≤ b - t') = z) (hb1 : -1 ≤ b ∧ b ≤ 1000000) (ht1 : 0 ≤ t' ∧ t' ≤ 1000000) :
    Calls Try.prog 51 #[.agg (RMA l k v 0 1 t b x false gt of).toArray, .slice (some ⟨g, 0, none⟩) N cap] w (RefEnd N l k v 0 2 t' b x z gt z xs g w) := by
  have HTo := fun w => Lib.hid (refTop_g hG w)
  have HBo := fun w => Lib.hid (refBottom_g hG w)
  have HSl := fun j h0 h9 w => Lib.hid (refSlot_g hG j h0 h9 w)
  have hW0 := RS.start (l := l) (k := k) (v := v) (kn := 0) (a := 1) (t := t) (b := b) (x := x) (dn := false) (gt := gt) (of := of) hr
  have HRO := Lib.hid hG.room
  have htp := hG.tp_le
  have HN := Lib.hid hN
  clear hG hr hN
  obtain ⟨verts, arcs, workers, room, res, lex, hh, flag, pending, ask, count, sense, deques, size⟩ := l
  simp only [Lay.val, Lay.vals] at HTo HBo HSl
  simp only [RMA] at hW0 ⊢
  simp only at hz
  have HZZ := Lib.hid hz
  clear hz
  have hz24 : (Try.prog.info? 73).map (·.size) = some 24 := by kernel_rfl
  have HZ := Lib.hid hz24
  clear hz24
  go_enter Try.func51, Try.ntmps51
  go_upto_region 1 with (fail)
  generalize ((w.alloc (.cells #[.int .i64 0, .int .i64 1, .int .i64 k, .int .i64 verts, .int .i64 arcs, .int .i64 workers, .int .i64 room, .int .i64 res, .int .i64 lex, .int .i64 hh, .int .i64 flag, .int .i64 pending, .int .i64 ask, .int .i64 count, .int .i64 sense, .int .i64 deques, .int .i64 size, .int .i64 v, .int .i64 t, .int .i64 b, .int .i64 x, .bool false, .bool gt, .bool of] 73)).alloc (.cells #[.int .i64 0, .int .i64 0, .int .i64 0, .int .i64 0, .int .i64 0, .int .i64 0, .int .i64 0, .int .i64 0, .int .i64 0, .int .i64 0, .int .i64 0, .int .i64 0, .int .i64 0, .int .i64 0, .int .i64 0, .int .i64 0, .int .i64 0, .int .i64 0, .int .i64 0, .int .i64 0, .int .i64 0, .bool false, .bool false, .bool false] 73)) = W0 at hW0 ⊢
  have hW0 : RS w g w.heap.size (w.heap.size + 1) (⟨verts, arcs, workers, room, res, lex, hh, flag, pending, ask, count, sense, deques, size⟩ : Lay) k v 0 1 t b x false gt of g cap xs W0 := hW0
  generalize w.heap.size + 1 = b4 at hW0 ⊢
  generalize hb2 : w.heap.size = b2 at hW0 ⊢
  clear hb2
  have S := Lib.hid hW0
  clear hW0
  have m2 : ∀ i : Nat, W0.cell? ⟨b2, i, none⟩ = (#[.int .i64 0, .int .i64 1, .int .i64 k, .int .i64 verts, .int .i64 arcs, .int .i64 workers, .int .i64 room, .int .i64 res, .int .i64 lex, .int .i64 hh, .int .i64 flag, .int .i64 pending, .int .i64 ask, .int .i64 count, .int .i64 sense, .int .i64 deques, .int .i64 size, .int .i64 v, .int .i64 t, .int .i64 b, .int .i64 x, .bool false, .bool gt, .bool of] : Array Value)[i]? := S.out.m.cell
  have f2 : ∀ i : Nat, W0.frozen? ⟨b2, i, none⟩ = false := S.out.m.free
  go_upto_region 3 with (fail)
  refine wp_region_kept (by kernel_rfl) (by kernel_rfl) ?_
  repeat (go_big_quiet_step ((first | (go_at_call 54; exact kept_call (HTo _).out) | (go_at_call 55; exact kept_call (HBo _).out))))
  refine wpQuiet_nil ?_
  intro W1 hk
  have S1 := Lib.hid (S.out.kept hk)
  clear m2 f2 hk S
  have m2 : ∀ i : Nat, W1.cell? ⟨b2, i, none⟩ = (#[.int .i64 0, .int .i64 1, .int .i64 k, .int .i64 verts, .int .i64 arcs, .int .i64 workers, .int .i64 room, .int .i64 res, .int .i64 lex, .int .i64 hh, .int .i64 flag, .int .i64 pending, .int .i64 ask, .int .i64 count, .int .i64 sense, .int .i64 deques, .int .i64 size, .int .i64 v, .int .i64 t, .int .i64 b, .int .i64 x, .bool false, .bool gt, .bool of] : Array Value)[i]? := S1.out.m.cell
  have f2 : ∀ i : Nat, W1.frozen? ⟨b2, i, none⟩ = false := S1.out.m.free
  go_upto_region 5 with (fail)
  have S2 := Lib.hid (S1.out.upd (i := 1) (u := .int .i64 2) rfl)
  clear m2 f2 S1
  generalize World.setCell _ ⟨b2, 1, none⟩ _ = WS2 at S2 ⊢
  have m2 : ∀ i : Nat, WS2.cell? ⟨b2, i, none⟩ = (#[.int .i64 0, .int .i64 2, .int .i64 k, .int .i64 verts, .int .i64 arcs, .int .i64 workers, .int .i64 room, .int .i64 res, .int .i64 lex, .int .i64 hh, .int .i64 flag, .int .i64 pending, .int .i64 ask, .int .i64 count, .int .i64 sense, .int .i64 deques, .int .i64 size, .int .i64 v, .int .i64 t, .int .i64 b, .int .i64 x, .bool false, .bool gt, .bool of] : Array Value)[i]? := S2.out.m.cell
  have f2 : ∀ i : Nat, WS2.frozen? ⟨b2, i, none⟩ = false := S2.out.m.free
  go_wp2_with fail
  refine (refLoadN S2.out.rb HN.out _ t' ht' hm).mono ?_
  rintro e w5 ⟨rfl, rfl⟩
  clear m2 f2
  have m2 : ∀ i : Nat, WS2.cell? ⟨b2, i, none⟩ = (#[.int .i64 0, .int .i64 2, .int .i64 k, .int .i64 verts, .int .i64 arcs, .int .i64 workers, .int .i64 room, .int .i64 res, .int .i64 lex, .int .i64 hh, .int .i64 flag, .int .i64 pending, .int .i64 ask, .int .i64 count, .int .i64 sense, .int .i64 deques, .int .i64 size, .int .i64 v, .int .i64 t, .int .i64 b, .int .i64 x, .bool false, .bool gt, .bool of] : Array Value)[i]? := S2.out.m.cell
  have f2 : ∀ i : Nat, WS2.frozen? ⟨b2, i, none⟩ = false := S2.out.m.free
  go_upto_region 13 with (fail)
  have S3 := Lib.hid (S2.out.upd (i := 18) (u := .int .i64 t') rfl)
  clear m2 f2 S2
  generalize World.setCell _ ⟨b2, 18, none⟩ _ = WS3 at S3 ⊢
  have hz := HZZ.out
  have hw : wrap64 (b - t') = b - t' := by unfold wrap64; omega
  have hw2 : IntKind.i64.wrap (b - t') = b - t' := by rw [IntKind.wrap_i64]; omega
  have m2 : ∀ i : Nat, WS3.cell? ⟨b2, i, none⟩ = (#[.int .i64 0, .int .i64 2, .int .i64 k, .int .i64 verts, .int .i64 arcs, .int .i64 workers, .int .i64 room, .int .i64 res, .int .i64 lex, .int .i64 hh, .int .i64 flag, .int .i64 pending, .int .i64 ask, .int .i64 count, .int .i64 sense, .int .i64 deques, .int .i64 size, .int .i64 v, .int .i64 t', .int .i64 b, .int .i64 x, .bool false, .bool gt, .bool of] : Array Value)[i]? := S3.out.m.cell
  have f2 : ∀ i : Nat, WS3.frozen? ⟨b2, i, none⟩ = false := S3.out.m.free
  go_upto_region 14 with (fail)
  have S4 := Lib.hid (S3.out.upd (i := 23) (u := .bool z) rfl)
  clear m2 f2 S3
  generalize World.setCell _ ⟨b2, 23, none⟩ _ = WS4 at S4 ⊢
  clear hz hw hw2
  have m2 : ∀ i : Nat, WS4.cell? ⟨b2, i, none⟩ = (#[.int .i64 0, .int .i64 2, .int .i64 k, .int .i64 verts, .int .i64 arcs, .int .i64 workers, .int .i64 room, .int .i64 res, .int .i64 lex, .int .i64 hh, .int .i64 flag, .int .i64 pending, .int .i64 ask, .int .i64 count, .int .i64 sense, .int .i64 deques, .int .i64 size, .int .i64 v, .int .i64 t', .int .i64 b, .int .i64 x, .bool false, .bool gt, .bool z] : Array Value)[i]? := S4.out.m.cell
  have f2 : ∀ i : Nat, WS4.frozen? ⟨b2, i, none⟩ = false := S4.out.m.free
  go_upto_region 17 with (fail)
  have S5 := Lib.hid (S4.out.upd (i := 21) (u := .bool z) rfl)
  clear m2 f2 S4
  generalize World.setCell _ ⟨b2, 21, none⟩ _ = WS5 at S5 ⊢
  have hra : WS5.rangeAt b2 0 [.int .i64 0, .int .i64 2, .int .i64 k, .int .i64 verts, .int .i64 arcs, .int .i64 workers, .int .i64 room, .int .i64 res, .int .i64 lex, .int .i64 hh, .int .i64 flag, .int .i64 pending, .int .i64 ask, .int .i64 count, .int .i64 sense, .int .i64 deques, .int .i64 size, .int .i64 v, .int .i64 t', .int .i64 b, .int .i64 x, .bool z, .bool gt, .bool z] := Blk.range S5.out.m
  have hth := Blk.there S5.out.r 24 rfl
  obtain ⟨W9, hW9⟩ : ∃ W9, WS5.setCells b4 0 [.int .i64 0, .int .i64 2, .int .i64 k, .int .i64 verts, .int .i64 arcs, .int .i64 workers, .int .i64 room, .int .i64 res, .int .i64 lex, .int .i64 hh, .int .i64 flag, .int .i64 pending, .int .i64 ask, .int .i64 count, .int .i64 sense, .int .i64 deques, .int .i64 size, .int .i64 v, .int .i64 t', .int .i64 b, .int .i64 x, .bool z, .bool gt, .bool z] = W9 := ⟨_, rfl⟩
  have hB9 : Blk W9 b4 #[.int .i64 0, .int .i64 2, .int .i64 k, .int .i64 verts, .int .i64 arcs, .int .i64 workers, .int .i64 room, .int .i64 res, .int .i64 lex, .int .i64 hh, .int .i64 flag, .int .i64 pending, .int .i64 ask, .int .i64 count, .int .i64 sense, .int .i64 deques, .int .i64 size, .int .i64 v, .int .i64 t', .int .i64 b, .int .i64 x, .bool z, .bool gt, .bool z] 73 ∧ Upd (fun k => k = b4) WS5 W9 := by rw [← hW9]; exact Blk.alls S5.out.r [.int .i64 0, .int .i64 2, .int .i64 k, .int .i64 verts, .int .i64 arcs, .int .i64 workers, .int .i64 room, .int .i64 res, .int .i64 lex, .int .i64 hh, .int .i64 flag, .int .i64 pending, .int .i64 ask, .int .i64 count, .int .i64 sense, .int .i64 deques, .int .i64 size, .int .i64 v, .int .i64 t', .int .i64 b, .int .i64 x, .bool z, .bool gt, .bool z] rfl
  have hr9 : W9.rangeAt b4 0 [.int .i64 0, .int .i64 2, .int .i64 k, .int .i64 verts, .int .i64 arcs, .int .i64 workers, .int .i64 room, .int .i64 res, .int .i64 lex, .int .i64 hh, .int .i64 flag, .int .i64 pending, .int .i64 ask, .int .i64 count, .int .i64 sense, .int .i64 deques, .int .i64 size, .int .i64 v, .int .i64 t', .int .i64 b, .int .i64 x, .bool z, .bool gt, .bool z] := Blk.range hB9.1
  have hz24 := HZ.out
  have hlv := run_loadVar_mid (P := Try.prog) W9 b4 0 73 [.int .i64 0, .int .i64 2, .int .i64 k, .int .i64 verts, .int .i64 arcs, .int .i64 workers, .int .i64 room, .int .i64 res, .int .i64 lex, .int .i64 hh, .int .i64 flag, .int .i64 pending, .int .i64 ask, .int .i64 count, .int .i64 sense, .int .i64 deques, .int .i64 size, .int .i64 v, .int .i64 t', .int .i64 b, .int .i64 x, .bool z, .bool gt, .bool z] _ hr9 Try.underlying73 rfl hz24
  have HF := Lib.hid (S5.out.end9 N hB9.2)
  clear hB9 hr9 S5
  go_wp2_with (first | (refine wpList_load_mid rfl _ _ rfl b2 0 rfl [.int .i64 0, .int .i64 2, .int .i64 k, .int .i64 verts, .int .i64 arcs, .int .i64 workers, .int .i64 room, .int .i64 res, .int .i64 lex, .int .i64 hh, .int .i64 flag, .int .i64 pending, .int .i64 ask, .int .i64 count, .int .i64 sense, .int .i64 deques, .int .i64 size, .int .i64 v, .int .i64 t', .int .i64 b, .int .i64 x, .bool z, .bool gt, .bool z] _ hra Try.underlying73 rfl hz24 ?_) | (refine wpList_store_mid rfl _ _ _ rfl b4 0 #[.int .i64 0, .int .i64 2, .int .i64 k, .int .i64 verts, .int .i64 arcs, .int .i64 workers, .int .i64 room, .int .i64 res, .int .i64 lex, .int .i64 hh, .int .i64 flag, .int .i64 pending, .int .i64 ask, .int .i64 count, .int .i64 sense, .int .i64 deques, .int .i64 size, .int .i64 v, .int .i64 t', .int .i64 b, .int .i64 x, .bool z, .bool gt, .bool z] rfl rfl hth hz24 (all_oneCell_toArray (cs := [.int .i64 0, .int .i64 2, .int .i64 k, .int .i64 verts, .int .i64 arcs, .int .i64 workers, .int .i64 room, .int .i64 res, .int .i64 lex, .int .i64 hh, .int .i64 flag, .int .i64 pending, .int .i64 ask, .int .i64 count, .int .i64 sense, .int .i64 deques, .int .i64 size, .int .i64 v, .int .i64 t', .int .i64 b, .int .i64 x, .bool z, .bool gt, .bool z]) (by simp [Value.oneCell'])) ?_; simp only [hW9]) | fail)
  clear hth hra hW9
  exact bodyPost_ret (v := .tuple #[.agg #[.int .i64 0, .int .i64 2, .int .i64 k, .int .i64 verts, .int .i64 arcs, .int .i64 workers, .int .i64 room, .int .i64 res, .int .i64 lex, .int .i64 hh, .int .i64 flag, .int .i64 pending, .int .i64 ask, .int .i64 count, .int .i64 sense, .int .i64 deques, .int .i64 size, .int .i64 v, .int .i64 t', .int .i64 b, .int .i64 x, .bool z, .bool gt, .bool z], .slice (some ⟨g, 0, none⟩) N cap]) (by simp [results, Try.results51, hlv, asAddr, Act.put]) rfl HF.out

set_option maxRecDepth 100000 in
set_option maxHeartbeats 8000000 in
theorem refS_p2 {w : World} {g cap N : Nat} {xs : List Int} {l : Lay} {k : Int} {tp r : Nat} (v : Int) (hG : Geo l k tp r) (hr : RB w g cap xs) (hN : xs.length = N) (hm : N ≤ 1000000) {t b x : Int} {gt of : Bool} (ys : List Int) (hy : bput xs (slot tp r b) v = ys) (hb1 : 0 ≤ b ∧ b ≤ 1000000) :
    Calls Try.prog 51 #[.agg (RMA l k v 0 2 t b x false gt of).toArray, .slice (some ⟨g, 0, none⟩) N cap] w (RefEnd N l k v 0 3 t b x false gt of ys g w) := by
  have HTo := fun w => Lib.hid (refTop_g hG w)
  have HBo := fun w => Lib.hid (refBottom_g hG w)
  have HSl := fun j h0 h9 w => Lib.hid (refSlot_g hG j h0 h9 w)
  have hW0 := RS.start (l := l) (k := k) (v := v) (kn := 0) (a := 2) (t := t) (b := b) (x := x) (dn := false) (gt := gt) (of := of) hr
  have HRO := Lib.hid hG.room
  have htp := hG.tp_le
  have HN := Lib.hid hN
  clear hG hr hN
  obtain ⟨verts, arcs, workers, room, res, lex, hh, flag, pending, ask, count, sense, deques, size⟩ := l
  simp only [Lay.val, Lay.vals] at HTo HBo HSl
  simp only [RMA] at hW0 ⊢
  have hz24 : (Try.prog.info? 73).map (·.size) = some 24 := by kernel_rfl
  have HZ := Lib.hid hz24
  clear hz24
  go_enter Try.func51, Try.ntmps51
  go_upto_region 1 with (fail)
  generalize ((w.alloc (.cells #[.int .i64 0, .int .i64 2, .int .i64 k, .int .i64 verts, .int .i64 arcs, .int .i64 workers, .int .i64 room, .int .i64 res, .int .i64 lex, .int .i64 hh, .int .i64 flag, .int .i64 pending, .int .i64 ask, .int .i64 count, .int .i64 sense, .int .i64 deques, .int .i64 size, .int .i64 v, .int .i64 t, .int .i64 b, .int .i64 x, .bool false, .bool gt, .bool of] 73)).alloc (.cells #[.int .i64 0, .int .i64 0, .int .i64 0, .int .i64 0, .int .i64 0, .int .i64 0, .int .i64 0, .int .i64 0, .int .i64 0, .int .i64 0, .int .i64 0, .int .i64 0, .int .i64 0, .int .i64 0, .int .i64 0, .int .i64 0, .int .i64 0, .int .i64 0, .int .i64 0, .int .i64 0, .int .i64 0, .bool false, .bool false, .bool false] 73)) = W0 at hW0 ⊢
  have hW0 : RS w g w.heap.size (w.heap.size + 1) (⟨verts, arcs, workers, room, res, lex, hh, flag, pending, ask, count, sense, deques, size⟩ : Lay) k v 0 2 t b x false gt of g cap xs W0 := hW0
  generalize w.heap.size + 1 = b4 at hW0 ⊢
  generalize hb2 : w.heap.size = b2 at hW0 ⊢
  clear hb2
  have S := Lib.hid hW0
  clear hW0
  have m2 : ∀ i : Nat, W0.cell? ⟨b2, i, none⟩ = (#[.int .i64 0, .int .i64 2, .int .i64 k, .int .i64 verts, .int .i64 arcs, .int .i64 workers, .int .i64 room, .int .i64 res, .int .i64 lex, .int .i64 hh, .int .i64 flag, .int .i64 pending, .int .i64 ask, .int .i64 count, .int .i64 sense, .int .i64 deques, .int .i64 size, .int .i64 v, .int .i64 t, .int .i64 b, .int .i64 x, .bool false, .bool gt, .bool of] : Array Value)[i]? := S.out.m.cell
  have f2 : ∀ i : Nat, W0.frozen? ⟨b2, i, none⟩ = false := S.out.m.free
  go_upto_region 3 with (fail)
  refine wp_region_kept (by kernel_rfl) (by kernel_rfl) ?_
  repeat (go_big_quiet_step ((first | (go_at_call 54; exact kept_call (HTo _).out) | (go_at_call 55; exact kept_call (HBo _).out))))
  refine wpQuiet_nil ?_
  intro W1 hk
  have S1 := Lib.hid (S.out.kept hk)
  clear m2 f2 hk S
  have m2 : ∀ i : Nat, W1.cell? ⟨b2, i, none⟩ = (#[.int .i64 0, .int .i64 2, .int .i64 k, .int .i64 verts, .int .i64 arcs, .int .i64 workers, .int .i64 room, .int .i64 res, .int .i64 lex, .int .i64 hh, .int .i64 flag, .int .i64 pending, .int .i64 ask, .int .i64 count, .int .i64 sense, .int .i64 deques, .int .i64 size, .int .i64 v, .int .i64 t, .int .i64 b, .int .i64 x, .bool false, .bool gt, .bool of] : Array Value)[i]? := S1.out.m.cell
  have f2 : ∀ i : Nat, W1.frozen? ⟨b2, i, none⟩ = false := S1.out.m.free
  go_upto_region 5 with (fail)
  have S2 := Lib.hid (S1.out.upd (i := 1) (u := .int .i64 3) rfl)
  clear m2 f2 S1
  generalize World.setCell _ ⟨b2, 1, none⟩ _ = WS2 at S2 ⊢
  have m2 : ∀ i : Nat, WS2.cell? ⟨b2, i, none⟩ = (#[.int .i64 0, .int .i64 3, .int .i64 k, .int .i64 verts, .int .i64 arcs, .int .i64 workers, .int .i64 room, .int .i64 res, .int .i64 lex, .int .i64 hh, .int .i64 flag, .int .i64 pending, .int .i64 ask, .int .i64 count, .int .i64 sense, .int .i64 deques, .int .i64 size, .int .i64 v, .int .i64 t, .int .i64 b, .int .i64 x, .bool false, .bool gt, .bool of] : Array Value)[i]? := S2.out.m.cell
  have f2 : ∀ i : Nat, WS2.frozen? ⟨b2, i, none⟩ = false := S2.out.m.free
  go_upto_region 16 with (fail)
  clear m2 f2
  have S3 := Lib.hid (S2.out.kept (Upd.refl _ _).drew)
  have C0 : ∀ i : Nat, WS2.drew.cell? ⟨b2, i, none⟩ = (#[.int .i64 0, .int .i64 3, .int .i64 k, .int .i64 verts, .int .i64 arcs, .int .i64 workers, .int .i64 room, .int .i64 res, .int .i64 lex, .int .i64 hh, .int .i64 flag, .int .i64 pending, .int .i64 ask, .int .i64 count, .int .i64 sense, .int .i64 deques, .int .i64 size, .int .i64 v, .int .i64 t, .int .i64 b, .int .i64 x, .bool false, .bool gt, .bool of] : Array Value)[i]? := S3.out.m.cell
  clear S2
  have HSb := fun w => HSl b hb1.1 hb1.2 w
  generalize slot tp r b = sl at hy HSb
  clear HSl
  go_region_held3 (fun w' => ∀ i : Nat, w'.cell? ⟨b2, i, none⟩ = (#[.int .i64 0, .int .i64 3, .int .i64 k, .int .i64 verts, .int .i64 arcs, .int .i64 workers, .int .i64 room, .int .i64 res, .int .i64 lex, .int .i64 hh, .int .i64 flag, .int .i64 pending, .int .i64 ask, .int .i64 count, .int .i64 sense, .int .i64 deques, .int .i64 size, .int .i64 v, .int .i64 t, .int .i64 b, .int .i64 x, .bool false, .bool gt, .bool of] : Array Value)[i]?)
    (first | exact C0 | exact C1 | exact C2)
    ((first
      | (go_at_call 56; refine (HSb _).out.mono ?_; rintro e w2 ⟨rfl, hk⟩; have S4 := Lib.hid (S3.out.kept hk); have C1 : ∀ i : Nat, w2.cell? ⟨b2, i, none⟩ = (#[.int .i64 0, .int .i64 3, .int .i64 k, .int .i64 verts, .int .i64 arcs, .int .i64 workers, .int .i64 room, .int .i64 res, .int .i64 lex, .int .i64 hh, .int .i64 flag, .int .i64 pending, .int .i64 ask, .int .i64 count, .int .i64 sense, .int .i64 deques, .int .i64 size, .int .i64 v, .int .i64 t, .int .i64 b, .int .i64 x, .bool false, .bool gt, .bool of] : Array Value)[i]? := S4.out.m.cell; clear hk)
      | (go_at_call 87; refine (refPutN S4.out.rb HN.out sl v hy hm).mono ?_; rintro e w3 ⟨g3, cap3, rfl, hR3, hg3, hk3⟩; have S5 := Lib.hid (S4.out.mem hk3 hR3 hg3); have C2 : ∀ i : Nat, w3.cell? ⟨b2, i, none⟩ = (#[.int .i64 0, .int .i64 3, .int .i64 k, .int .i64 verts, .int .i64 arcs, .int .i64 workers, .int .i64 room, .int .i64 res, .int .i64 lex, .int .i64 hh, .int .i64 flag, .int .i64 pending, .int .i64 ask, .int .i64 count, .int .i64 sense, .int .i64 deques, .int .i64 size, .int .i64 v, .int .i64 t, .int .i64 b, .int .i64 x, .bool false, .bool gt, .bool of] : Array Value)[i]? := S5.out.m.cell; clear hR3 hg3 hk3)))
  all_goals
    clear C0 C1 C2 S3 S4
    have hra : w3.rangeAt b2 0 [.int .i64 0, .int .i64 3, .int .i64 k, .int .i64 verts, .int .i64 arcs, .int .i64 workers, .int .i64 room, .int .i64 res, .int .i64 lex, .int .i64 hh, .int .i64 flag, .int .i64 pending, .int .i64 ask, .int .i64 count, .int .i64 sense, .int .i64 deques, .int .i64 size, .int .i64 v, .int .i64 t, .int .i64 b, .int .i64 x, .bool false, .bool gt, .bool of] := Blk.range S5.out.m
    have hth := Blk.there S5.out.r 24 rfl
    obtain ⟨W9, hW9⟩ : ∃ W9, w3.setCells b4 0 [.int .i64 0, .int .i64 3, .int .i64 k, .int .i64 verts, .int .i64 arcs, .int .i64 workers, .int .i64 room, .int .i64 res, .int .i64 lex, .int .i64 hh, .int .i64 flag, .int .i64 pending, .int .i64 ask, .int .i64 count, .int .i64 sense, .int .i64 deques, .int .i64 size, .int .i64 v, .int .i64 t, .int .i64 b, .int .i64 x, .bool false, .bool gt, .bool of] = W9 := ⟨_, rfl⟩
    have hB9 : Blk W9 b4 #[.int .i64 0, .int .i64 3, .int .i64 k, .int .i64 verts, .int .i64 arcs, .int .i64 workers, .int .i64 room, .int .i64 res, .int .i64 lex, .int .i64 hh, .int .i64 flag, .int .i64 pending, .int .i64 ask, .int .i64 count, .int .i64 sense, .int .i64 deques, .int .i64 size, .int .i64 v, .int .i64 t, .int .i64 b, .int .i64 x, .bool false, .bool gt, .bool of] 73 ∧ Upd (fun k => k = b4) w3 W9 := by rw [← hW9]; exact Blk.alls S5.out.r [.int .i64 0, .int .i64 3, .int .i64 k, .int .i64 verts, .int .i64 arcs, .int .i64 workers, .int .i64 room, .int .i64 res, .int .i64 lex, .int .i64 hh, .int .i64 flag, .int .i64 pending, .int .i64 ask, .int .i64 count, .int .i64 sense, .int .i64 deques, .int .i64 size, .int .i64 v, .int .i64 t, .int .i64 b, .int .i64 x, .bool false, .bool gt, .bool of] rfl
    have hr9 : W9.rangeAt b4 0 [.int .i64 0, .int .i64 3, .int .i64 k, .int .i64 verts, .int .i64 arcs, .int .i64 workers, .int .i64 room, .int .i64 res, .int .i64 lex, .int .i64 hh, .int .i64 flag, .int .i64 pending, .int .i64 ask, .int .i64 count, .int .i64 sense, .int .i64 deques, .int .i64 size, .int .i64 v, .int .i64 t, .int .i64 b, .int .i64 x, .bool false, .bool gt, .bool of] := Blk.range hB9.1
    have hz24 := HZ.out
    have hlv := run_loadVar_mid (P := Try.prog) W9 b4 0 73 [.int .i64 0, .int .i64 3, .int .i64 k, .int .i64 verts, .int .i64 arcs, .int .i64 workers, .int .i64 room, .int .i64 res, .int .i64 lex, .int .i64 hh, .int .i64 flag, .int .i64 pending, .int .i64 ask, .int .i64 count, .int .i64 sense, .int .i64 deques, .int .i64 size, .int .i64 v, .int .i64 t, .int .i64 b, .int .i64 x, .bool false, .bool gt, .bool of] _ hr9 Try.underlying73 rfl hz24
    have HF := Lib.hid (S5.out.end9 N hB9.2)
    clear hB9 hr9 S5
    go_wp2_with (first | (refine wpList_load_mid rfl _ _ rfl b2 0 rfl [.int .i64 0, .int .i64 3, .int .i64 k, .int .i64 verts, .int .i64 arcs, .int .i64 workers, .int .i64 room, .int .i64 res, .int .i64 lex, .int .i64 hh, .int .i64 flag, .int .i64 pending, .int .i64 ask, .int .i64 count, .int .i64 sense, .int .i64 deques, .int .i64 size, .int .i64 v, .int .i64 t, .int .i64 b, .int .i64 x, .bool false, .bool gt, .bool of] _ hra Try.underlying73 rfl hz24 ?_) | (refine wpList_store_mid rfl _ _ _ rfl b4 0 #[.int .i64 0, .int .i64 3, .int .i64 k, .int .i64 verts, .int .i64 arcs, .int .i64 workers, .int .i64 room, .int .i64 res, .int .i64 lex, .int .i64 hh, .int .i64 flag, .int .i64 pending, .int .i64 ask, .int .i64 count, .int .i64 sense, .int .i64 deques, .int .i64 size, .int .i64 v, .int .i64 t, .int .i64 b, .int .i64 x, .bool false, .bool gt, .bool of] rfl rfl hth hz24 (all_oneCell_toArray (cs := [.int .i64 0, .int .i64 3, .int .i64 k, .int .i64 verts, .int .i64 arcs, .int .i64 workers, .int .i64 room, .int .i64 res, .int .i64 lex, .int .i64 hh, .int .i64 flag, .int .i64 pending, .int .i64 ask, .int .i64 count, .int .i64 sense, .int .i64 deques, .int .i64 size, .int .i64 v, .int .i64 t, .int .i64 b, .int .i64 x, .bool false, .bool gt, .bool of]) (by simp [Value.oneCell'])) ?_; simp only [hW9]) | fail)
    clear hth hra hW9
    exact bodyPost_ret (v := .tuple #[.agg #[.int .i64 0, .int .i64 3, .int .i64 k, .int .i64 verts, .int .i64 arcs, .int .i64 workers, .int .i64 room, .int .i64 res, .int .i64 lex, .int .i64 hh, .int .i64 flag, .int .i64 pending, .int .i64 ask, .int .i64 count, .int .i64 sense, .int .i64 deques, .int .i64 size, .int .i64 v, .int .i64 t, .int .i64 b, .int .i64 x, .bool false, .bool gt, .bool of], .slice (some ⟨g3, 0, none⟩) N cap3]) (by simp [results, Try.results51, hlv, asAddr, Act.put]) rfl HF.out

set_option maxRecDepth 100000 in
set_option maxHeartbeats 8000000 in
theorem refS_p3 {w : World} {g cap N : Nat} {xs : List Int} {l : Lay} {k : Int} {tp r : Nat} (v : Int) (hG : Geo l k tp r) (hr : RB w g cap xs) (hN : xs.length = N) (hm : N ≤ 1000000) {t b x : Int} {gt of : Bool} (ys : List Int) (hy : bput xs ((tp : Int) + 1) (b + 1) = ys) (hb1 : 0 ≤ b ∧ b ≤ 1000000) :
    Calls Try.prog 51 #[.agg (RMA l k v 0 3 t b x false gt of).toArray, .slice (some ⟨g, 0, none⟩) N cap] w (RefEnd N l k v 0 4 t b x true true of ys g w) := by
  have HTo := fun w => Lib.hid (refTop_g hG w)
  have HBo := fun w => Lib.hid (refBottom_g hG w)
  have HSl := fun j h0 h9 w => Lib.hid (refSlot_g hG j h0 h9 w)
  have hW0 := RS.start (l := l) (k := k) (v := v) (kn := 0) (a := 3) (t := t) (b := b) (x := x) (dn := false) (gt := gt) (of := of) hr
  have HRO := Lib.hid hG.room
  have htp := hG.tp_le
  have HN := Lib.hid hN
  clear hG hr hN
  obtain ⟨verts, arcs, workers, room, res, lex, hh, flag, pending, ask, count, sense, deques, size⟩ := l
  simp only [Lay.val, Lay.vals] at HTo HBo HSl
  simp only [RMA] at hW0 ⊢
  have hz24 : (Try.prog.info? 73).map (·.size) = some 24 := by kernel_rfl
  have HZ := Lib.hid hz24
  clear hz24
  go_enter Try.func51, Try.ntmps51
  go_upto_region 1 with (fail)
  generalize ((w.alloc (.cells #[.int .i64 0, .int .i64 3, .int .i64 k, .int .i64 verts, .int .i64 arcs, .int .i64 workers, .int .i64 room, .int .i64 res, .int .i64 lex, .int .i64 hh, .int .i64 flag, .int .i64 pending, .int .i64 ask, .int .i64 count, .int .i64 sense, .int .i64 deques, .int .i64 size, .int .i64 v, .int .i64 t, .int .i64 b, .int .i64 x, .bool false, .bool gt, .bool of] 73)).alloc (.cells #[.int .i64 0, .int .i64 0, .int .i64 0, .int .i64 0, .int .i64 0, .int .i64 0, .int .i64 0, .int .i64 0, .int .i64 0, .int .i64 0, .int .i64 0, .int .i64 0, .int .i64 0, .int .i64 0, .int .i64 0, .int .i64 0, .int .i64 0, .int .i64 0, .int .i64 0, .int .i64 0, .int .i64 0, .bool false, .bool false, .bool false] 73)) = W0 at hW0 ⊢
  have hW0 : RS w g w.heap.size (w.heap.size + 1) (⟨verts, arcs, workers, room, res, lex, hh, flag, pending, ask, count, sense, deques, size⟩ : Lay) k v 0 3 t b x false gt of g cap xs W0 := hW0
  generalize w.heap.size + 1 = b4 at hW0 ⊢
  generalize hb2 : w.heap.size = b2 at hW0 ⊢
  clear hb2
  have S := Lib.hid hW0
  clear hW0
  have m2 : ∀ i : Nat, W0.cell? ⟨b2, i, none⟩ = (#[.int .i64 0, .int .i64 3, .int .i64 k, .int .i64 verts, .int .i64 arcs, .int .i64 workers, .int .i64 room, .int .i64 res, .int .i64 lex, .int .i64 hh, .int .i64 flag, .int .i64 pending, .int .i64 ask, .int .i64 count, .int .i64 sense, .int .i64 deques, .int .i64 size, .int .i64 v, .int .i64 t, .int .i64 b, .int .i64 x, .bool false, .bool gt, .bool of] : Array Value)[i]? := S.out.m.cell
  have f2 : ∀ i : Nat, W0.frozen? ⟨b2, i, none⟩ = false := S.out.m.free
  go_upto_region 3 with (fail)
  refine wp_region_kept (by kernel_rfl) (by kernel_rfl) ?_
  repeat (go_big_quiet_step ((first | (go_at_call 54; exact kept_call (HTo _).out) | (go_at_call 55; exact kept_call (HBo _).out))))
  refine wpQuiet_nil ?_
  intro W1 hk
  have S1 := Lib.hid (S.out.kept hk)
  clear m2 f2 hk S
  have m2 : ∀ i : Nat, W1.cell? ⟨b2, i, none⟩ = (#[.int .i64 0, .int .i64 3, .int .i64 k, .int .i64 verts, .int .i64 arcs, .int .i64 workers, .int .i64 room, .int .i64 res, .int .i64 lex, .int .i64 hh, .int .i64 flag, .int .i64 pending, .int .i64 ask, .int .i64 count, .int .i64 sense, .int .i64 deques, .int .i64 size, .int .i64 v, .int .i64 t, .int .i64 b, .int .i64 x, .bool false, .bool gt, .bool of] : Array Value)[i]? := S1.out.m.cell
  have f2 : ∀ i : Nat, W1.frozen? ⟨b2, i, none⟩ = false := S1.out.m.free
  go_upto_region 5 with (fail)
  have S2 := Lib.hid (S1.out.upd (i := 1) (u := .int .i64 4) rfl)
  clear m2 f2 S1
  generalize World.setCell _ ⟨b2, 1, none⟩ _ = WS2 at S2 ⊢
  have hw : wrap64 (b + 1) = b + 1 := by unfold wrap64; omega
  have m2 : ∀ i : Nat, WS2.cell? ⟨b2, i, none⟩ = (#[.int .i64 0, .int .i64 4, .int .i64 k, .int .i64 verts, .int .i64 arcs, .int .i64 workers, .int .i64 room, .int .i64 res, .int .i64 lex, .int .i64 hh, .int .i64 flag, .int .i64 pending, .int .i64 ask, .int .i64 count, .int .i64 sense, .int .i64 deques, .int .i64 size, .int .i64 v, .int .i64 t, .int .i64 b, .int .i64 x, .bool false, .bool gt, .bool of] : Array Value)[i]? := S2.out.m.cell
  have f2 : ∀ i : Nat, WS2.frozen? ⟨b2, i, none⟩ = false := S2.out.m.free
  go_wp2_with fail
  refine (refPutN S2.out.rb HN.out _ _ hy hm).mono ?_
  rintro e w3 ⟨g3, cap3, rfl, hR3, hg3, hk3⟩
  have S3 := Lib.hid (S2.out.mem hk3 hR3 hg3)
  clear hR3 hg3 hk3 S2 m2 f2
  have m2 : ∀ i : Nat, w3.cell? ⟨b2, i, none⟩ = (#[.int .i64 0, .int .i64 4, .int .i64 k, .int .i64 verts, .int .i64 arcs, .int .i64 workers, .int .i64 room, .int .i64 res, .int .i64 lex, .int .i64 hh, .int .i64 flag, .int .i64 pending, .int .i64 ask, .int .i64 count, .int .i64 sense, .int .i64 deques, .int .i64 size, .int .i64 v, .int .i64 t, .int .i64 b, .int .i64 x, .bool false, .bool gt, .bool of] : Array Value)[i]? := S3.out.m.cell
  have f2 : ∀ i : Nat, w3.frozen? ⟨b2, i, none⟩ = false := S3.out.m.free
  go_upto_region 17 with (fail)
  have S4 := Lib.hid ((S3.out.upd (i := 21) (u := .bool true) rfl).upd (i := 22) (u := .bool true) rfl)
  clear m2 f2 S3
  generalize World.setCell (World.setCell _ ⟨b2, 21, none⟩ _) ⟨b2, 22, none⟩ _ = WS4 at S4 ⊢
  have hra : WS4.rangeAt b2 0 [.int .i64 0, .int .i64 4, .int .i64 k, .int .i64 verts, .int .i64 arcs, .int .i64 workers, .int .i64 room, .int .i64 res, .int .i64 lex, .int .i64 hh, .int .i64 flag, .int .i64 pending, .int .i64 ask, .int .i64 count, .int .i64 sense, .int .i64 deques, .int .i64 size, .int .i64 v, .int .i64 t, .int .i64 b, .int .i64 x, .bool true, .bool true, .bool of] := Blk.range S4.out.m
  have hth := Blk.there S4.out.r 24 rfl
  obtain ⟨W9, hW9⟩ : ∃ W9, WS4.setCells b4 0 [.int .i64 0, .int .i64 4, .int .i64 k, .int .i64 verts, .int .i64 arcs, .int .i64 workers, .int .i64 room, .int .i64 res, .int .i64 lex, .int .i64 hh, .int .i64 flag, .int .i64 pending, .int .i64 ask, .int .i64 count, .int .i64 sense, .int .i64 deques, .int .i64 size, .int .i64 v, .int .i64 t, .int .i64 b, .int .i64 x, .bool true, .bool true, .bool of] = W9 := ⟨_, rfl⟩
  have hB9 : Blk W9 b4 #[.int .i64 0, .int .i64 4, .int .i64 k, .int .i64 verts, .int .i64 arcs, .int .i64 workers, .int .i64 room, .int .i64 res, .int .i64 lex, .int .i64 hh, .int .i64 flag, .int .i64 pending, .int .i64 ask, .int .i64 count, .int .i64 sense, .int .i64 deques, .int .i64 size, .int .i64 v, .int .i64 t, .int .i64 b, .int .i64 x, .bool true, .bool true, .bool of] 73 ∧ Upd (fun k => k = b4) WS4 W9 := by rw [← hW9]; exact Blk.alls S4.out.r [.int .i64 0, .int .i64 4, .int .i64 k, .int .i64 verts, .int .i64 arcs, .int .i64 workers, .int .i64 room, .int .i64 res, .int .i64 lex, .int .i64 hh, .int .i64 flag, .int .i64 pending, .int .i64 ask, .int .i64 count, .int .i64 sense, .int .i64 deques, .int .i64 size, .int .i64 v, .int .i64 t, .int .i64 b, .int .i64 x, .bool true, .bool true, .bool of] rfl
  have hr9 : W9.rangeAt b4 0 [.int .i64 0, .int .i64 4, .int .i64 k, .int .i64 verts, .int .i64 arcs, .int .i64 workers, .int .i64 room, .int .i64 res, .int .i64 lex, .int .i64 hh, .int .i64 flag, .int .i64 pending, .int .i64 ask, .int .i64 count, .int .i64 sense, .int .i64 deques, .int .i64 size, .int .i64 v, .int .i64 t, .int .i64 b, .int .i64 x, .bool true, .bool true, .bool of] := Blk.range hB9.1
  have hz24 := HZ.out
  have hlv := run_loadVar_mid (P := Try.prog) W9 b4 0 73 [.int .i64 0, .int .i64 4, .int .i64 k, .int .i64 verts, .int .i64 arcs, .int .i64 workers, .int .i64 room, .int .i64 res, .int .i64 lex, .int .i64 hh, .int .i64 flag, .int .i64 pending, .int .i64 ask, .int .i64 count, .int .i64 sense, .int .i64 deques, .int .i64 size, .int .i64 v, .int .i64 t, .int .i64 b, .int .i64 x, .bool true, .bool true, .bool of] _ hr9 Try.underlying73 rfl hz24
  have HF := Lib.hid (S4.out.end9 N hB9.2)
  clear hB9 hr9 S4
  go_wp2_with (first | (refine wpList_load_mid rfl _ _ rfl b2 0 rfl [.int .i64 0, .int .i64 4, .int .i64 k, .int .i64 verts, .int .i64 arcs, .int .i64 workers, .int .i64 room, .int .i64 res, .int .i64 lex, .int .i64 hh, .int .i64 flag, .int .i64 pending, .int .i64 ask, .int .i64 count, .int .i64 sense, .int .i64 deques, .int .i64 size, .int .i64 v, .int .i64 t, .int .i64 b, .int .i64 x, .bool true, .bool true, .bool of] _ hra Try.underlying73 rfl hz24 ?_) | (refine wpList_store_mid rfl _ _ _ rfl b4 0 #[.int .i64 0, .int .i64 4, .int .i64 k, .int .i64 verts, .int .i64 arcs, .int .i64 workers, .int .i64 room, .int .i64 res, .int .i64 lex, .int .i64 hh, .int .i64 flag, .int .i64 pending, .int .i64 ask, .int .i64 count, .int .i64 sense, .int .i64 deques, .int .i64 size, .int .i64 v, .int .i64 t, .int .i64 b, .int .i64 x, .bool true, .bool true, .bool of] rfl rfl hth hz24 (all_oneCell_toArray (cs := [.int .i64 0, .int .i64 4, .int .i64 k, .int .i64 verts, .int .i64 arcs, .int .i64 workers, .int .i64 room, .int .i64 res, .int .i64 lex, .int .i64 hh, .int .i64 flag, .int .i64 pending, .int .i64 ask, .int .i64 count, .int .i64 sense, .int .i64 deques, .int .i64 size, .int .i64 v, .int .i64 t, .int .i64 b, .int .i64 x, .bool true, .bool true, .bool of]) (by simp [Value.oneCell'])) ?_; simp only [hW9]) | fail)
  clear hth hra hW9
  exact bodyPost_ret (v := .tuple #[.agg #[.int .i64 0, .int .i64 4, .int .i64 k, .int .i64 verts, .int .i64 arcs, .int .i64 workers, .int .i64 room, .int .i64 res, .int .i64 lex, .int .i64 hh, .int .i64 flag, .int .i64 pending, .int .i64 ask, .int .i64 count, .int .i64 sense, .int .i64 deques, .int .i64 size, .int .i64 v, .int .i64 t, .int .i64 b, .int .i64 x, .bool true, .bool true, .bool of], .slice (some ⟨g3, 0, none⟩) N cap3]) (by simp [results, Try.results51, hlv, asAddr, Act.put]) rfl HF.out

set_option maxRecDepth 100000 in
set_option maxHeartbeats 8000000 in
theorem refS_s0 {w : World} {g cap N : Nat} {xs : List Int} {l : Lay} {k : Int} {tp r : Nat} (v : Int) (hG : Geo l k tp r) (hr : RB w g cap xs) (hN : xs.length = N) (hm : N ≤ 1000000) {t b x : Int} {gt of : Bool} (t' : Int) (ht' : bget xs (tp : Int) = t') :
    Calls Try.prog 51 #[.agg (RMA l k v 2 0 t b x false gt of).toArray, .slice (some ⟨g, 0, none⟩) N cap] w (RefEnd N l k v 2 1 t' b x false gt of xs g w) := by
  have HTo := fun w => Lib.hid (refTop_g hG w)
  have HBo := fun w => Lib.hid (refBottom_g hG w)
  have HSl := fun j h0 h9 w => Lib.hid (refSlot_g hG j h0 h9 w)
  have hW0 := RS.start (l := l) (k := k) (v := v) (kn := 2) (a := 0) (t := t) (b := b) (x := x) (dn := false) (gt := gt) (of := of) hr
  have HRO := Lib.hid hG.room
  have htp := hG.tp_le
  have HN := Lib.hid hN
  clear hG hr hN
  obtain ⟨verts, arcs, workers, room, res, lex, hh, flag, pending, ask, count, sense, deques, size⟩ := l
  simp only [Lay.val, Lay.vals] at HTo HBo HSl
  simp only [RMA] at hW0 ⊢
  have hz24 : (Try.prog.info? 73).map (·.size) = some 24 := by kernel_rfl
  have HZ := Lib.hid hz24
  clear hz24
  go_enter Try.func51, Try.ntmps51
  go_upto_region 1 with (fail)
  generalize ((w.alloc (.cells #[.int .i64 2, .int .i64 0, .int .i64 k, .int .i64 verts, .int .i64 arcs, .int .i64 workers, .int .i64 room, .int .i64 res, .int .i64 lex, .int .i64 hh, .int .i64 flag, .int .i64 pending, .int .i64 ask, .int .i64 count, .int .i64 sense, .int .i64 deques, .int .i64 size, .int .i64 v, .int .i64 t, .int .i64 b, .int .i64 x, .bool false, .bool gt, .bool of] 73)).alloc (.cells #[.int .i64 0, .int .i64 0, .int .i64 0, .int .i64 0, .int .i64 0, .int .i64 0, .int .i64 0, .int .i64 0, .int .i64 0, .int .i64 0, .int .i64 0, .int .i64 0, .int .i64 0, .int .i64 0, .int .i64 0, .int .i64 0, .int .i64 0, .int .i64 0, .int .i64 0, .int .i64 0, .int .i64 0, .bool false, .bool false, .bool false] 73)) = W0 at hW0 ⊢
  have hW0 : RS w g w.heap.size (w.heap.size + 1) (⟨verts, arcs, workers, room, res, lex, hh, flag, pending, ask, count, sense, deques, size⟩ : Lay) k v 2 0 t b x false gt of g cap xs W0 := hW0
  generalize w.heap.size + 1 = b4 at hW0 ⊢
  generalize hb2 : w.heap.size = b2 at hW0 ⊢
  clear hb2
  have S := Lib.hid hW0
  clear hW0
  have m2 : ∀ i : Nat, W0.cell? ⟨b2, i, none⟩ = (#[.int .i64 2, .int .i64 0, .int .i64 k, .int .i64 verts, .int .i64 arcs, .int .i64 workers, .int .i64 room, .int .i64 res, .int .i64 lex, .int .i64 hh, .int .i64 flag, .int .i64 pending, .int .i64 ask, .int .i64 count, .int .i64 sense, .int .i64 deques, .int .i64 size, .int .i64 v, .int .i64 t, .int .i64 b, .int .i64 x, .bool false, .bool gt, .bool of] : Array Value)[i]? := S.out.m.cell
  have f2 : ∀ i : Nat, W0.frozen? ⟨b2, i, none⟩ = false := S.out.m.free
  go_upto_region 3 with (fail)
  refine wp_region_kept (by kernel_rfl) (by kernel_rfl) ?_
  repeat (go_big_quiet_step ((first | (go_at_call 54; exact kept_call (HTo _).out) | (go_at_call 55; exact kept_call (HBo _).out))))
  refine wpQuiet_nil ?_
  intro W1 hk
  have S1 := Lib.hid (S.out.kept hk)
  clear m2 f2 hk S
  have m2 : ∀ i : Nat, W1.cell? ⟨b2, i, none⟩ = (#[.int .i64 2, .int .i64 0, .int .i64 k, .int .i64 verts, .int .i64 arcs, .int .i64 workers, .int .i64 room, .int .i64 res, .int .i64 lex, .int .i64 hh, .int .i64 flag, .int .i64 pending, .int .i64 ask, .int .i64 count, .int .i64 sense, .int .i64 deques, .int .i64 size, .int .i64 v, .int .i64 t, .int .i64 b, .int .i64 x, .bool false, .bool gt, .bool of] : Array Value)[i]? := S1.out.m.cell
  have f2 : ∀ i : Nat, W1.frozen? ⟨b2, i, none⟩ = false := S1.out.m.free
  go_upto_region 5 with (fail)
  have S2 := Lib.hid (S1.out.upd (i := 1) (u := .int .i64 1) rfl)
  clear m2 f2 S1
  generalize World.setCell _ ⟨b2, 1, none⟩ _ = WS2 at S2 ⊢
  have m2 : ∀ i : Nat, WS2.cell? ⟨b2, i, none⟩ = (#[.int .i64 2, .int .i64 1, .int .i64 k, .int .i64 verts, .int .i64 arcs, .int .i64 workers, .int .i64 room, .int .i64 res, .int .i64 lex, .int .i64 hh, .int .i64 flag, .int .i64 pending, .int .i64 ask, .int .i64 count, .int .i64 sense, .int .i64 deques, .int .i64 size, .int .i64 v, .int .i64 t, .int .i64 b, .int .i64 x, .bool false, .bool gt, .bool of] : Array Value)[i]? := S2.out.m.cell
  have f2 : ∀ i : Nat, WS2.frozen? ⟨b2, i, none⟩ = false := S2.out.m.free
  go_wp2_with fail
  refine (refLoadN S2.out.rb HN.out _ t' ht' hm).mono ?_
  rintro e w5 ⟨rfl, rfl⟩
  clear m2 f2
  have m2 : ∀ i : Nat, WS2.cell? ⟨b2, i, none⟩ = (#[.int .i64 2, .int .i64 1, .int .i64 k, .int .i64 verts, .int .i64 arcs, .int .i64 workers, .int .i64 room, .int .i64 res, .int .i64 lex, .int .i64 hh, .int .i64 flag, .int .i64 pending, .int .i64 ask, .int .i64 count, .int .i64 sense, .int .i64 deques, .int .i64 size, .int .i64 v, .int .i64 t, .int .i64 b, .int .i64 x, .bool false, .bool gt, .bool of] : Array Value)[i]? := S2.out.m.cell
  have f2 : ∀ i : Nat, WS2.frozen? ⟨b2, i, none⟩ = false := S2.out.m.free
  go_upto_region 33 with (fail)
  have S3 := Lib.hid (S2.out.upd (i := 18) (u := .int .i64 t') rfl)
  clear m2 f2 S2
  generalize World.setCell _ ⟨b2, 18, none⟩ _ = WS3 at S3 ⊢
  have hra : WS3.rangeAt b2 0 [.int .i64 2, .int .i64 1, .int .i64 k, .int .i64 verts, .int .i64 arcs, .int .i64 workers, .int .i64 room, .int .i64 res, .int .i64 lex, .int .i64 hh, .int .i64 flag, .int .i64 pending, .int .i64 ask, .int .i64 count, .int .i64 sense, .int .i64 deques, .int .i64 size, .int .i64 v, .int .i64 t', .int .i64 b, .int .i64 x, .bool false, .bool gt, .bool of] := Blk.range S3.out.m
  have hth := Blk.there S3.out.r 24 rfl
  obtain ⟨W9, hW9⟩ : ∃ W9, WS3.setCells b4 0 [.int .i64 2, .int .i64 1, .int .i64 k, .int .i64 verts, .int .i64 arcs, .int .i64 workers, .int .i64 room, .int .i64 res, .int .i64 lex, .int .i64 hh, .int .i64 flag, .int .i64 pending, .int .i64 ask, .int .i64 count, .int .i64 sense, .int .i64 deques, .int .i64 size, .int .i64 v, .int .i64 t', .int .i64 b, .int .i64 x, .bool false, .bool gt, .bool of] = W9 := ⟨_, rfl⟩
  have hB9 : Blk W9 b4 #[.int .i64 2, .int .i64 1, .int .i64 k, .int .i64 verts, .int .i64 arcs, .int .i64 workers, .int .i64 room, .int .i64 res, .int .i64 lex, .int .i64 hh, .int .i64 flag, .int .i64 pending, .int .i64 ask, .int .i64 count, .int .i64 sense, .int .i64 deques, .int .i64 size, .int .i64 v, .int .i64 t', .int .i64 b, .int .i64 x, .bool false, .bool gt, .bool of] 73 ∧ Upd (fun k => k = b4) WS3 W9 := by rw [← hW9]; exact Blk.alls S3.out.r [.int .i64 2, .int .i64 1, .int .i64 k, .int .i64 verts, .int .i64 arcs, .int .i64 workers, .int .i64 room, .int .i64 res, .int .i64 lex, .int .i64 hh, .int .i64 flag, .int .i64 pending, .int .i64 ask, .int .i64 count, .int .i64 sense, .int .i64 deques, .int .i64 size, .int .i64 v, .int .i64 t', .int .i64 b, .int .i64 x, .bool false, .bool gt, .bool of] rfl
  have hr9 : W9.rangeAt b4 0 [.int .i64 2, .int .i64 1, .int .i64 k, .int .i64 verts, .int .i64 arcs, .int .i64 workers, .int .i64 room, .int .i64 res, .int .i64 lex, .int .i64 hh, .int .i64 flag, .int .i64 pending, .int .i64 ask, .int .i64 count, .int .i64 sense, .int .i64 deques, .int .i64 size, .int .i64 v, .int .i64 t', .int .i64 b, .int .i64 x, .bool false, .bool gt, .bool of] := Blk.range hB9.1
  have hz24 := HZ.out
  have hlv := run_loadVar_mid (P := Try.prog) W9 b4 0 73 [.int .i64 2, .int .i64 1, .int .i64 k, .int .i64 verts, .int .i64 arcs, .int .i64 workers, .int .i64 room, .int .i64 res, .int .i64 lex, .int .i64 hh, .int .i64 flag, .int .i64 pending, .int .i64 ask, .int .i64 count, .int .i64 sense, .int .i64 deques, .int .i64 size, .int .i64 v, .int .i64 t', .int .i64 b, .int .i64 x, .bool false, .bool gt, .bool of] _ hr9 Try.underlying73 rfl hz24
  have HF := Lib.hid (S3.out.end9 N hB9.2)
  clear hB9 hr9 S3
  go_wp2_with (first | (refine wpList_load_mid rfl _ _ rfl b2 0 rfl [.int .i64 2, .int .i64 1, .int .i64 k, .int .i64 verts, .int .i64 arcs, .int .i64 workers, .int .i64 room, .int .i64 res, .int .i64 lex, .int .i64 hh, .int .i64 flag, .int .i64 pending, .int .i64 ask, .int .i64 count, .int .i64 sense, .int .i64 deques, .int .i64 size, .int .i64 v, .int .i64 t', .int .i64 b, .int .i64 x, .bool false, .bool gt, .bool of] _ hra Try.underlying73 rfl hz24 ?_) | (refine wpList_store_mid rfl _ _ _ rfl b4 0 #[.int .i64 2, .int .i64 1, .int .i64 k, .int .i64 verts, .int .i64 arcs, .int .i64 workers, .int .i64 room, .int .i64 res, .int .i64 lex, .int .i64 hh, .int .i64 flag, .int .i64 pending, .int .i64 ask, .int .i64 count, .int .i64 sense, .int .i64 deques, .int .i64 size, .int .i64 v, .int .i64 t', .int .i64 b, .int .i64 x, .bool false, .bool gt, .bool of] rfl rfl hth hz24 (all_oneCell_toArray (cs := [.int .i64 2, .int .i64 1, .int .i64 k, .int .i64 verts, .int .i64 arcs, .int .i64 workers, .int .i64 room, .int .i64 res, .int .i64 lex, .int .i64 hh, .int .i64 flag, .int .i64 pending, .int .i64 ask, .int .i64 count, .int .i64 sense, .int .i64 deques, .int .i64 size, .int .i64 v, .int .i64 t', .int .i64 b, .int .i64 x, .bool false, .bool gt, .bool of]) (by simp [Value.oneCell'])) ?_; simp only [hW9]) | fail)
  clear hth hra hW9
  exact bodyPost_ret (v := .tuple #[.agg #[.int .i64 2, .int .i64 1, .int .i64 k, .int .i64 verts, .int .i64 arcs, .int .i64 workers, .int .i64 room, .int .i64 res, .int .i64 lex, .int .i64 hh, .int .i64 flag, .int .i64 pending, .int .i64 ask, .int .i64 count, .int .i64 sense, .int .i64 deques, .int .i64 size, .int .i64 v, .int .i64 t', .int .i64 b, .int .i64 x, .bool false, .bool gt, .bool of], .slice (some ⟨g, 0, none⟩) N cap]) (by simp [results, Try.results51, hlv, asAddr, Act.put]) rfl HF.out

set_option maxRecDepth 100000 in
set_option maxHeartbeats 8000000 in
theorem refS_s1 {w : World} {g cap N : Nat} {xs : List Int} {l : Lay} {k : Int} {tp r : Nat} (v : Int) (hG : Geo l k tp r) (hr : RB w g cap xs) (hN : xs.length = N) (hm : N ≤ 1000000) {t b x : Int} {gt of : Bool} (b' : Int) (hb' : bget xs ((tp : Int) + 1) = b') (z : Bool) (hz : decide (b' ≤ t) = z) :
    Calls Try.prog 51 #[.agg (RMA l k v 2 1 t b x false gt of).toArray, .slice (some ⟨g, 0, none⟩) N cap] w (RefEnd N l k v 2 2 t b' x z gt of xs g w) := by
  have HTo := fun w => Lib.hid (refTop_g hG w)
  have HBo := fun w => Lib.hid (refBottom_g hG w)
  have HSl := fun j h0 h9 w => Lib.hid (refSlot_g hG j h0 h9 w)
  have hW0 := RS.start (l := l) (k := k) (v := v) (kn := 2) (a := 1) (t := t) (b := b) (x := x) (dn := false) (gt := gt) (of := of) hr
  have HRO := Lib.hid hG.room
  have htp := hG.tp_le
  have HN := Lib.hid hN
  clear hG hr hN
  obtain ⟨verts, arcs, workers, room, res, lex, hh, flag, pending, ask, count, sense, deques, size⟩ := l
  simp only [Lay.val, Lay.vals] at HTo HBo HSl
  simp only [RMA] at hW0 ⊢
  have HZZ := Lib.hid hz
  clear hz
  have hz24 : (Try.prog.info? 73).map (·.size) = some 24 := by kernel_rfl
  have HZ := Lib.hid hz24
  clear hz24
  go_enter Try.func51, Try.ntmps51
  go_upto_region 1 with (fail)
  generalize ((w.alloc (.cells #[.int .i64 2, .int .i64 1, .int .i64 k, .int .i64 verts, .int .i64 arcs, .int .i64 workers, .int .i64 room, .int .i64 res, .int .i64 lex, .int .i64 hh, .int .i64 flag, .int .i64 pending, .int .i64 ask, .int .i64 count, .int .i64 sense, .int .i64 deques, .int .i64 size, .int .i64 v, .int .i64 t, .int .i64 b, .int .i64 x, .bool false, .bool gt, .bool of] 73)).alloc (.cells #[.int .i64 0, .int .i64 0, .int .i64 0, .int .i64 0, .int .i64 0, .int .i64 0, .int .i64 0, .int .i64 0, .int .i64 0, .int .i64 0, .int .i64 0, .int .i64 0, .int .i64 0, .int .i64 0, .int .i64 0, .int .i64 0, .int .i64 0, .int .i64 0, .int .i64 0, .int .i64 0, .int .i64 0, .bool false, .bool false, .bool false] 73)) = W0 at hW0 ⊢
  have hW0 : RS w g w.heap.size (w.heap.size + 1) (⟨verts, arcs, workers, room, res, lex, hh, flag, pending, ask, count, sense, deques, size⟩ : Lay) k v 2 1 t b x false gt of g cap xs W0 := hW0
  generalize w.heap.size + 1 = b4 at hW0 ⊢
  generalize hb2 : w.heap.size = b2 at hW0 ⊢
  clear hb2
  have S := Lib.hid hW0
  clear hW0
  have m2 : ∀ i : Nat, W0.cell? ⟨b2, i, none⟩ = (#[.int .i64 2, .int .i64 1, .int .i64 k, .int .i64 verts, .int .i64 arcs, .int .i64 workers, .int .i64 room, .int .i64 res, .int .i64 lex, .int .i64 hh, .int .i64 flag, .int .i64 pending, .int .i64 ask, .int .i64 count, .int .i64 sense, .int .i64 deques, .int .i64 size, .int .i64 v, .int .i64 t, .int .i64 b, .int .i64 x, .bool false, .bool gt, .bool of] : Array Value)[i]? := S.out.m.cell
  have f2 : ∀ i : Nat, W0.frozen? ⟨b2, i, none⟩ = false := S.out.m.free
  go_upto_region 3 with (fail)
  refine wp_region_kept (by kernel_rfl) (by kernel_rfl) ?_
  repeat (go_big_quiet_step ((first | (go_at_call 54; exact kept_call (HTo _).out) | (go_at_call 55; exact kept_call (HBo _).out))))
  refine wpQuiet_nil ?_
  intro W1 hk
  have S1 := Lib.hid (S.out.kept hk)
  clear m2 f2 hk S
  have m2 : ∀ i : Nat, W1.cell? ⟨b2, i, none⟩ = (#[.int .i64 2, .int .i64 1, .int .i64 k, .int .i64 verts, .int .i64 arcs, .int .i64 workers, .int .i64 room, .int .i64 res, .int .i64 lex, .int .i64 hh, .int .i64 flag, .int .i64 pending, .int .i64 ask, .int .i64 count, .int .i64 sense, .int .i64 deques, .int .i64 size, .int .i64 v, .int .i64 t, .int .i64 b, .int .i64 x, .bool false, .bool gt, .bool of] : Array Value)[i]? := S1.out.m.cell
  have f2 : ∀ i : Nat, W1.frozen? ⟨b2, i, none⟩ = false := S1.out.m.free
  go_upto_region 5 with (fail)
  have S2 := Lib.hid (S1.out.upd (i := 1) (u := .int .i64 2) rfl)
  clear m2 f2 S1
  generalize World.setCell _ ⟨b2, 1, none⟩ _ = WS2 at S2 ⊢
  have m2 : ∀ i : Nat, WS2.cell? ⟨b2, i, none⟩ = (#[.int .i64 2, .int .i64 2, .int .i64 k, .int .i64 verts, .int .i64 arcs, .int .i64 workers, .int .i64 room, .int .i64 res, .int .i64 lex, .int .i64 hh, .int .i64 flag, .int .i64 pending, .int .i64 ask, .int .i64 count, .int .i64 sense, .int .i64 deques, .int .i64 size, .int .i64 v, .int .i64 t, .int .i64 b, .int .i64 x, .bool false, .bool gt, .bool of] : Array Value)[i]? := S2.out.m.cell
  have f2 : ∀ i : Nat, WS2.frozen? ⟨b2, i, none⟩ = false := S2.out.m.free
  go_wp2_with fail
  refine (refLoadN S2.out.rb HN.out _ b' hb' hm).mono ?_
  rintro e w5 ⟨rfl, rfl⟩
  clear m2 f2
  have m2 : ∀ i : Nat, WS2.cell? ⟨b2, i, none⟩ = (#[.int .i64 2, .int .i64 2, .int .i64 k, .int .i64 verts, .int .i64 arcs, .int .i64 workers, .int .i64 room, .int .i64 res, .int .i64 lex, .int .i64 hh, .int .i64 flag, .int .i64 pending, .int .i64 ask, .int .i64 count, .int .i64 sense, .int .i64 deques, .int .i64 size, .int .i64 v, .int .i64 t, .int .i64 b, .int .i64 x, .bool false, .bool gt, .bool of] : Array Value)[i]? := S2.out.m.cell
  have f2 : ∀ i : Nat, WS2.frozen? ⟨b2, i, none⟩ = false := S2.out.m.free
  go_upto_region 30 with (fail)
  have S3 := Lib.hid (S2.out.upd (i := 19) (u := .int .i64 b') rfl)
  clear m2 f2 S2
  generalize World.setCell _ ⟨b2, 19, none⟩ _ = WS3 at S3 ⊢
  have hz := HZZ.out
  have m2 : ∀ i : Nat, WS3.cell? ⟨b2, i, none⟩ = (#[.int .i64 2, .int .i64 2, .int .i64 k, .int .i64 verts, .int .i64 arcs, .int .i64 workers, .int .i64 room, .int .i64 res, .int .i64 lex, .int .i64 hh, .int .i64 flag, .int .i64 pending, .int .i64 ask, .int .i64 count, .int .i64 sense, .int .i64 deques, .int .i64 size, .int .i64 v, .int .i64 t, .int .i64 b', .int .i64 x, .bool false, .bool gt, .bool of] : Array Value)[i]? := S3.out.m.cell
  have f2 : ∀ i : Nat, WS3.frozen? ⟨b2, i, none⟩ = false := S3.out.m.free
  go_upto_region 33 with (fail)
  have S4 := Lib.hid (S3.out.upd (i := 21) (u := .bool z) rfl)
  clear m2 f2 S3
  generalize World.setCell _ ⟨b2, 21, none⟩ _ = WS4 at S4 ⊢
  clear hz
  have hra : WS4.rangeAt b2 0 [.int .i64 2, .int .i64 2, .int .i64 k, .int .i64 verts, .int .i64 arcs, .int .i64 workers, .int .i64 room, .int .i64 res, .int .i64 lex, .int .i64 hh, .int .i64 flag, .int .i64 pending, .int .i64 ask, .int .i64 count, .int .i64 sense, .int .i64 deques, .int .i64 size, .int .i64 v, .int .i64 t, .int .i64 b', .int .i64 x, .bool z, .bool gt, .bool of] := Blk.range S4.out.m
  have hth := Blk.there S4.out.r 24 rfl
  obtain ⟨W9, hW9⟩ : ∃ W9, WS4.setCells b4 0 [.int .i64 2, .int .i64 2, .int .i64 k, .int .i64 verts, .int .i64 arcs, .int .i64 workers, .int .i64 room, .int .i64 res, .int .i64 lex, .int .i64 hh, .int .i64 flag, .int .i64 pending, .int .i64 ask, .int .i64 count, .int .i64 sense, .int .i64 deques, .int .i64 size, .int .i64 v, .int .i64 t, .int .i64 b', .int .i64 x, .bool z, .bool gt, .bool of] = W9 := ⟨_, rfl⟩
  have hB9 : Blk W9 b4 #[.int .i64 2, .int .i64 2, .int .i64 k, .int .i64 verts, .int .i64 arcs, .int .i64 workers, .int .i64 room, .int .i64 res, .int .i64 lex, .int .i64 hh, .int .i64 flag, .int .i64 pending, .int .i64 ask, .int .i64 count, .int .i64 sense, .int .i64 deques, .int .i64 size, .int .i64 v, .int .i64 t, .int .i64 b', .int .i64 x, .bool z, .bool gt, .bool of] 73 ∧ Upd (fun k => k = b4) WS4 W9 := by rw [← hW9]; exact Blk.alls S4.out.r [.int .i64 2, .int .i64 2, .int .i64 k, .int .i64 verts, .int .i64 arcs, .int .i64 workers, .int .i64 room, .int .i64 res, .int .i64 lex, .int .i64 hh, .int .i64 flag, .int .i64 pending, .int .i64 ask, .int .i64 count, .int .i64 sense, .int .i64 deques, .int .i64 size, .int .i64 v, .int .i64 t, .int .i64 b', .int .i64 x, .bool z, .bool gt, .bool of] rfl
  have hr9 : W9.rangeAt b4 0 [.int .i64 2, .int .i64 2, .int .i64 k, .int .i64 verts, .int .i64 arcs, .int .i64 workers, .int .i64 room, .int .i64 res, .int .i64 lex, .int .i64 hh, .int .i64 flag, .int .i64 pending, .int .i64 ask, .int .i64 count, .int .i64 sense, .int .i64 deques, .int .i64 size, .int .i64 v, .int .i64 t, .int .i64 b', .int .i64 x, .bool z, .bool gt, .bool of] := Blk.range hB9.1
  have hz24 := HZ.out
  have hlv := run_loadVar_mid (P := Try.prog) W9 b4 0 73 [.int .i64 2, .int .i64 2, .int .i64 k, .int .i64 verts, .int .i64 arcs, .int .i64 workers, .int .i64 room, .int .i64 res, .int .i64 lex, .int .i64 hh, .int .i64 flag, .int .i64 pending, .int .i64 ask, .int .i64 count, .int .i64 sense, .int .i64 deques, .int .i64 size, .int .i64 v, .int .i64 t, .int .i64 b', .int .i64 x, .bool z, .bool gt, .bool of] _ hr9 Try.underlying73 rfl hz24
  have HF := Lib.hid (S4.out.end9 N hB9.2)
  clear hB9 hr9 S4
  go_wp2_with (first | (refine wpList_load_mid rfl _ _ rfl b2 0 rfl [.int .i64 2, .int .i64 2, .int .i64 k, .int .i64 verts, .int .i64 arcs, .int .i64 workers, .int .i64 room, .int .i64 res, .int .i64 lex, .int .i64 hh, .int .i64 flag, .int .i64 pending, .int .i64 ask, .int .i64 count, .int .i64 sense, .int .i64 deques, .int .i64 size, .int .i64 v, .int .i64 t, .int .i64 b', .int .i64 x, .bool z, .bool gt, .bool of] _ hra Try.underlying73 rfl hz24 ?_) | (refine wpList_store_mid rfl _ _ _ rfl b4 0 #[.int .i64 2, .int .i64 2, .int .i64 k, .int .i64 verts, .int .i64 arcs, .int .i64 workers, .int .i64 room, .int .i64 res, .int .i64 lex, .int .i64 hh, .int .i64 flag, .int .i64 pending, .int .i64 ask, .int .i64 count, .int .i64 sense, .int .i64 deques, .int .i64 size, .int .i64 v, .int .i64 t, .int .i64 b', .int .i64 x, .bool z, .bool gt, .bool of] rfl rfl hth hz24 (all_oneCell_toArray (cs := [.int .i64 2, .int .i64 2, .int .i64 k, .int .i64 verts, .int .i64 arcs, .int .i64 workers, .int .i64 room, .int .i64 res, .int .i64 lex, .int .i64 hh, .int .i64 flag, .int .i64 pending, .int .i64 ask, .int .i64 count, .int .i64 sense, .int .i64 deques, .int .i64 size, .int .i64 v, .int .i64 t, .int .i64 b', .int .i64 x, .bool z, .bool gt, .bool of]) (by simp [Value.oneCell'])) ?_; simp only [hW9]) | fail)
  clear hth hra hW9
  exact bodyPost_ret (v := .tuple #[.agg #[.int .i64 2, .int .i64 2, .int .i64 k, .int .i64 verts, .int .i64 arcs, .int .i64 workers, .int .i64 room, .int .i64 res, .int .i64 lex, .int .i64 hh, .int .i64 flag, .int .i64 pending, .int .i64 ask, .int .i64 count, .int .i64 sense, .int .i64 deques, .int .i64 size, .int .i64 v, .int .i64 t, .int .i64 b', .int .i64 x, .bool z, .bool gt, .bool of], .slice (some ⟨g, 0, none⟩) N cap]) (by simp [results, Try.results51, hlv, asAddr, Act.put]) rfl HF.out

set_option maxRecDepth 100000 in
set_option maxHeartbeats 8000000 in
theorem refS_s2 {w : World} {g cap N : Nat} {xs : List Int} {l : Lay} {k : Int} {tp r : Nat} (v : Int) (hG : Geo l k tp r) (hr : RB w g cap xs) (hN : xs.length = N) (hm : N ≤ 1000000) {t b x : Int} {gt of : Bool} (x' : Int) (hx' : bget xs (slot tp r t) = x') (ht1 : 0 ≤ t ∧ t ≤ 1000000) :
    Calls Try.prog 51 #[.agg (RMA l k v 2 2 t b x false gt of).toArray, .slice (some ⟨g, 0, none⟩) N cap] w (RefEnd N l k v 2 3 t b x' false gt of xs g w) := by
  have HTo := fun w => Lib.hid (refTop_g hG w)
  have HBo := fun w => Lib.hid (refBottom_g hG w)
  have HSl := fun j h0 h9 w => Lib.hid (refSlot_g hG j h0 h9 w)
  have hW0 := RS.start (l := l) (k := k) (v := v) (kn := 2) (a := 2) (t := t) (b := b) (x := x) (dn := false) (gt := gt) (of := of) hr
  have HRO := Lib.hid hG.room
  have htp := hG.tp_le
  have HN := Lib.hid hN
  clear hG hr hN
  obtain ⟨verts, arcs, workers, room, res, lex, hh, flag, pending, ask, count, sense, deques, size⟩ := l
  simp only [Lay.val, Lay.vals] at HTo HBo HSl
  simp only [RMA] at hW0 ⊢
  have hz24 : (Try.prog.info? 73).map (·.size) = some 24 := by kernel_rfl
  have HZ := Lib.hid hz24
  clear hz24
  go_enter Try.func51, Try.ntmps51
  go_upto_region 1 with (fail)
  generalize ((w.alloc (.cells #[.int .i64 2, .int .i64 2, .int .i64 k, .int .i64 verts, .int .i64 arcs, .int .i64 workers, .int .i64 room, .int .i64 res, .int .i64 lex, .int .i64 hh, .int .i64 flag, .int .i64 pending, .int .i64 ask, .int .i64 count, .int .i64 sense, .int .i64 deques, .int .i64 size, .int .i64 v, .int .i64 t, .int .i64 b, .int .i64 x, .bool false, .bool gt, .bool of] 73)).alloc (.cells #[.int .i64 0, .int .i64 0, .int .i64 0, .int .i64 0, .int .i64 0, .int .i64 0, .int .i64 0, .int .i64 0, .int .i64 0, .int .i64 0, .int .i64 0, .int .i64 0, .int .i64 0, .int .i64 0, .int .i64 0, .int .i64 0, .int .i64 0, .int .i64 0, .int .i64 0, .int .i64 0, .int .i64 0, .bool false, .bool false, .bool false] 73)) = W0 at hW0 ⊢
  have hW0 : RS w g w.heap.size (w.heap.size + 1) (⟨verts, arcs, workers, room, res, lex, hh, flag, pending, ask, count, sense, deques, size⟩ : Lay) k v 2 2 t b x false gt of g cap xs W0 := hW0
  generalize w.heap.size + 1 = b4 at hW0 ⊢
  generalize hb2 : w.heap.size = b2 at hW0 ⊢
  clear hb2
  have S := Lib.hid hW0
  clear hW0
  have m2 : ∀ i : Nat, W0.cell? ⟨b2, i, none⟩ = (#[.int .i64 2, .int .i64 2, .int .i64 k, .int .i64 verts, .int .i64 arcs, .int .i64 workers, .int .i64 room, .int .i64 res, .int .i64 lex, .int .i64 hh, .int .i64 flag, .int .i64 pending, .int .i64 ask, .int .i64 count, .int .i64 sense, .int .i64 deques, .int .i64 size, .int .i64 v, .int .i64 t, .int .i64 b, .int .i64 x, .bool false, .bool gt, .bool of] : Array Value)[i]? := S.out.m.cell
  have f2 : ∀ i : Nat, W0.frozen? ⟨b2, i, none⟩ = false := S.out.m.free
  go_upto_region 3 with (fail)
  refine wp_region_kept (by kernel_rfl) (by kernel_rfl) ?_
  repeat (go_big_quiet_step ((first | (go_at_call 54; exact kept_call (HTo _).out) | (go_at_call 55; exact kept_call (HBo _).out))))
  refine wpQuiet_nil ?_
  intro W1 hk
  have S1 := Lib.hid (S.out.kept hk)
  clear m2 f2 hk S
  have m2 : ∀ i : Nat, W1.cell? ⟨b2, i, none⟩ = (#[.int .i64 2, .int .i64 2, .int .i64 k, .int .i64 verts, .int .i64 arcs, .int .i64 workers, .int .i64 room, .int .i64 res, .int .i64 lex, .int .i64 hh, .int .i64 flag, .int .i64 pending, .int .i64 ask, .int .i64 count, .int .i64 sense, .int .i64 deques, .int .i64 size, .int .i64 v, .int .i64 t, .int .i64 b, .int .i64 x, .bool false, .bool gt, .bool of] : Array Value)[i]? := S1.out.m.cell
  have f2 : ∀ i : Nat, W1.frozen? ⟨b2, i, none⟩ = false := S1.out.m.free
  go_upto_region 5 with (fail)
  have S2 := Lib.hid (S1.out.upd (i := 1) (u := .int .i64 3) rfl)
  clear m2 f2 S1
  generalize World.setCell _ ⟨b2, 1, none⟩ _ = WS2 at S2 ⊢
  have HSb := fun w => HSl t ht1.1 ht1.2 w
  generalize slot tp r t = sl at hx' HSb
  clear HSl
  have m2 : ∀ i : Nat, WS2.cell? ⟨b2, i, none⟩ = (#[.int .i64 2, .int .i64 3, .int .i64 k, .int .i64 verts, .int .i64 arcs, .int .i64 workers, .int .i64 room, .int .i64 res, .int .i64 lex, .int .i64 hh, .int .i64 flag, .int .i64 pending, .int .i64 ask, .int .i64 count, .int .i64 sense, .int .i64 deques, .int .i64 size, .int .i64 v, .int .i64 t, .int .i64 b, .int .i64 x, .bool false, .bool gt, .bool of] : Array Value)[i]? := S2.out.m.cell
  have f2 : ∀ i : Nat, WS2.frozen? ⟨b2, i, none⟩ = false := S2.out.m.free
  go_wp2_with fail
  refine (HSb _).out.mono ?_
  rintro e w4 ⟨rfl, hk⟩
  have S3 := Lib.hid (S2.out.kept hk)
  clear hk S2 m2 f2
  have m2 : ∀ i : Nat, w4.cell? ⟨b2, i, none⟩ = (#[.int .i64 2, .int .i64 3, .int .i64 k, .int .i64 verts, .int .i64 arcs, .int .i64 workers, .int .i64 room, .int .i64 res, .int .i64 lex, .int .i64 hh, .int .i64 flag, .int .i64 pending, .int .i64 ask, .int .i64 count, .int .i64 sense, .int .i64 deques, .int .i64 size, .int .i64 v, .int .i64 t, .int .i64 b, .int .i64 x, .bool false, .bool gt, .bool of] : Array Value)[i]? := S3.out.m.cell
  have f2 : ∀ i : Nat, w4.frozen? ⟨b2, i, none⟩ = false := S3.out.m.free
  go_wp2_with fail
  refine (refLoadN S3.out.rb HN.out _ x' hx' hm).mono ?_
  rintro e w5 ⟨rfl, rfl⟩
  clear m2 f2
  have m2 : ∀ i : Nat, w4.cell? ⟨b2, i, none⟩ = (#[.int .i64 2, .int .i64 3, .int .i64 k, .int .i64 verts, .int .i64 arcs, .int .i64 workers, .int .i64 room, .int .i64 res, .int .i64 lex, .int .i64 hh, .int .i64 flag, .int .i64 pending, .int .i64 ask, .int .i64 count, .int .i64 sense, .int .i64 deques, .int .i64 size, .int .i64 v, .int .i64 t, .int .i64 b, .int .i64 x, .bool false, .bool gt, .bool of] : Array Value)[i]? := S3.out.m.cell
  have f2 : ∀ i : Nat, w4.frozen? ⟨b2, i, none⟩ = false := S3.out.m.free
  go_upto_region 33 with (fail)
  have S4 := Lib.hid (S3.out.upd (i := 20) (u := .int .i64 x') rfl)
  clear m2 f2 S3
  generalize World.setCell _ ⟨b2, 20, none⟩ _ = WS4 at S4 ⊢
  have hra : WS4.rangeAt b2 0 [.int .i64 2, .int .i64 3, .int .i64 k, .int .i64 verts, .int .i64 arcs, .int .i64 workers, .int .i64 room, .int .i64 res, .int .i64 lex, .int .i64 hh, .int .i64 flag, .int .i64 pending, .int .i64 ask, .int .i64 count, .int .i64 sense, .int .i64 deques, .int .i64 size, .int .i64 v, .int .i64 t, .int .i64 b, .int .i64 x', .bool false, .bool gt, .bool of] := Blk.range S4.out.m
  have hth := Blk.there S4.out.r 24 rfl
  obtain ⟨W9, hW9⟩ : ∃ W9, WS4.setCells b4 0 [.int .i64 2, .int .i64 3, .int .i64 k, .int .i64 verts, .int .i64 arcs, .int .i64 workers, .int .i64 room, .int .i64 res, .int .i64 lex, .int .i64 hh, .int .i64 flag, .int .i64 pending, .int .i64 ask, .int .i64 count, .int .i64 sense, .int .i64 deques, .int .i64 size, .int .i64 v, .int .i64 t, .int .i64 b, .int .i64 x', .bool false, .bool gt, .bool of] = W9 := ⟨_, rfl⟩
  have hB9 : Blk W9 b4 #[.int .i64 2, .int .i64 3, .int .i64 k, .int .i64 verts, .int .i64 arcs, .int .i64 workers, .int .i64 room, .int .i64 res, .int .i64 lex, .int .i64 hh, .int .i64 flag, .int .i64 pending, .int .i64 ask, .int .i64 count, .int .i64 sense, .int .i64 deques, .int .i64 size, .int .i64 v, .int .i64 t, .int .i64 b, .int .i64 x', .bool false, .bool gt, .bool of] 73 ∧ Upd (fun k => k = b4) WS4 W9 := by rw [← hW9]; exact Blk.alls S4.out.r [.int .i64 2, .int .i64 3, .int .i64 k, .int .i64 verts, .int .i64 arcs, .int .i64 workers, .int .i64 room, .int .i64 res, .int .i64 lex, .int .i64 hh, .int .i64 flag, .int .i64 pending, .int .i64 ask, .int .i64 count, .int .i64 sense, .int .i64 deques, .int .i64 size, .int .i64 v, .int .i64 t, .int .i64 b, .int .i64 x', .bool false, .bool gt, .bool of] rfl
  have hr9 : W9.rangeAt b4 0 [.int .i64 2, .int .i64 3, .int .i64 k, .int .i64 verts, .int .i64 arcs, .int .i64 workers, .int .i64 room, .int .i64 res, .int .i64 lex, .int .i64 hh, .int .i64 flag, .int .i64 pending, .int .i64 ask, .int .i64 count, .int .i64 sense, .int .i64 deques, .int .i64 size, .int .i64 v, .int .i64 t, .int .i64 b, .int .i64 x', .bool false, .bool gt, .bool of] := Blk.range hB9.1
  have hz24 := HZ.out
  have hlv := run_loadVar_mid (P := Try.prog) W9 b4 0 73 [.int .i64 2, .int .i64 3, .int .i64 k, .int .i64 verts, .int .i64 arcs, .int .i64 workers, .int .i64 room, .int .i64 res, .int .i64 lex, .int .i64 hh, .int .i64 flag, .int .i64 pending, .int .i64 ask, .int .i64 count, .int .i64 sense, .int .i64 deques, .int .i64 size, .int .i64 v, .int .i64 t, .int .i64 b, .int .i64 x', .bool false, .bool gt, .bool of] _ hr9 Try.underlying73 rfl hz24
  have HF := Lib.hid (S4.out.end9 N hB9.2)
  clear hB9 hr9 S4
  go_wp2_with (first | (refine wpList_load_mid rfl _ _ rfl b2 0 rfl [.int .i64 2, .int .i64 3, .int .i64 k, .int .i64 verts, .int .i64 arcs, .int .i64 workers, .int .i64 room, .int .i64 res, .int .i64 lex, .int .i64 hh, .int .i64 flag, .int .i64 pending, .int .i64 ask, .int .i64 count, .int .i64 sense, .int .i64 deques, .int .i64 size, .int .i64 v, .int .i64 t, .int .i64 b, .int .i64 x', .bool false, .bool gt, .bool of] _ hra Try.underlying73 rfl hz24 ?_) | (refine wpList_store_mid rfl _ _ _ rfl b4 0 #[.int .i64 2, .int .i64 3, .int .i64 k, .int .i64 verts, .int .i64 arcs, .int .i64 workers, .int .i64 room, .int .i64 res, .int .i64 lex, .int .i64 hh, .int .i64 flag, .int .i64 pending, .int .i64 ask, .int .i64 count, .int .i64 sense, .int .i64 deques, .int .i64 size, .int .i64 v, .int .i64 t, .int .i64 b, .int .i64 x', .bool false, .bool gt, .bool of] rfl rfl hth hz24 (all_oneCell_toArray (cs := [.int .i64 2, .int .i64 3, .int .i64 k, .int .i64 verts, .int .i64 arcs, .int .i64 workers, .int .i64 room, .int .i64 res, .int .i64 lex, .int .i64 hh, .int .i64 flag, .int .i64 pending, .int .i64 ask, .int .i64 count, .int .i64 sense, .int .i64 deques, .int .i64 size, .int .i64 v, .int .i64 t, .int .i64 b, .int .i64 x', .bool false, .bool gt, .bool of]) (by simp [Value.oneCell'])) ?_; simp only [hW9]) | fail)
  clear hth hra hW9
  exact bodyPost_ret (v := .tuple #[.agg #[.int .i64 2, .int .i64 3, .int .i64 k, .int .i64 verts, .int .i64 arcs, .int .i64 workers, .int .i64 room, .int .i64 res, .int .i64 lex, .int .i64 hh, .int .i64 flag, .int .i64 pending, .int .i64 ask, .int .i64 count, .int .i64 sense, .int .i64 deques, .int .i64 size, .int .i64 v, .int .i64 t, .int .i64 b, .int .i64 x', .bool false, .bool gt, .bool of], .slice (some ⟨g, 0, none⟩) N cap]) (by simp [results, Try.results51, hlv, asAddr, Act.put]) rfl HF.out

set_option maxRecDepth 100000 in
set_option maxHeartbeats 8000000 in
theorem refS_s3 {w : World} {g cap N : Nat} {xs : List Int} {l : Lay} {k : Int} {tp r : Nat} (v : Int) (hG : Geo l k tp r) (hr : RB w g cap xs) (hN : xs.length = N) (hm : N ≤ 1000000) {t b x : Int} {gt of : Bool} (t' : Int) (ht' : bget xs (tp : Int) = t') (z : Bool) (hz : (t' == t) = z) (ys : List Int) (hy : (if z = true then bput xs (tp : Int) (t + 1) else xs) = ys) (ht1 : 0 ≤ t ∧ t ≤ 1000000) :
    Calls Try.prog 51 #[.agg (RMA l k v 2 3 t b x false gt of).toArray, .slice (some ⟨g, 0, none⟩) N cap] w (RefEnd N l k v 2 4 t b x true z (!z) ys g w) := by
  have HTo := fun w => Lib.hid (refTop_g hG w)
  have HBo := fun w => Lib.hid (refBottom_g hG w)
  have HSl := fun j h0 h9 w => Lib.hid (refSlot_g hG j h0 h9 w)
  have hW0 := RS.start (l := l) (k := k) (v := v) (kn := 2) (a := 3) (t := t) (b := b) (x := x) (dn := false) (gt := gt) (of := of) hr
  have HRO := Lib.hid hG.room
  have htp := hG.tp_le
  have HN := Lib.hid hN
  clear hG hr hN
  obtain ⟨verts, arcs, workers, room, res, lex, hh, flag, pending, ask, count, sense, deques, size⟩ := l
  simp only [Lay.val, Lay.vals] at HTo HBo HSl
  simp only [RMA] at hW0 ⊢
  have HZZ := Lib.hid hz
  have HY := Lib.hid hy
  clear hz hy
  have hz24 : (Try.prog.info? 73).map (·.size) = some 24 := by kernel_rfl
  have HZ := Lib.hid hz24
  clear hz24
  go_enter Try.func51, Try.ntmps51
  go_upto_region 1 with (fail)
  generalize ((w.alloc (.cells #[.int .i64 2, .int .i64 3, .int .i64 k, .int .i64 verts, .int .i64 arcs, .int .i64 workers, .int .i64 room, .int .i64 res, .int .i64 lex, .int .i64 hh, .int .i64 flag, .int .i64 pending, .int .i64 ask, .int .i64 count, .int .i64 sense, .int .i64 deques, .int .i64 size, .int .i64 v, .int .i64 t, .int .i64 b, .int .i64 x, .bool false, .bool gt, .bool of] 73)).alloc (.cells #[.int .i64 0, .int .i64 0, .int .i64 0, .int .i64 0, .int .i64 0, .int .i64 0, .int .i64 0, .int .i64 0, .int .i64 0, .int .i64 0, .int .i64 0, .int .i64 0, .int .i64 0, .int .i64 0, .int .i64 0, .int .i64 0, .int .i64 0, .int .i64 0, .int .i64 0, .int .i64 0, .int .i64 0, .bool false, .bool false, .bool false] 73)) = W0 at hW0 ⊢
  have hW0 : RS w g w.heap.size (w.heap.size + 1) (⟨verts, arcs, workers, room, res, lex, hh, flag, pending, ask, count, sense, deques, size⟩ : Lay) k v 2 3 t b x false gt of g cap xs W0 := hW0
  generalize w.heap.size + 1 = b4 at hW0 ⊢
  generalize hb2 : w.heap.size = b2 at hW0 ⊢
  clear hb2
  have S := Lib.hid hW0
  clear hW0
  have m2 : ∀ i : Nat, W0.cell? ⟨b2, i, none⟩ = (#[.int .i64 2, .int .i64 3, .int .i64 k, .int .i64 verts, .int .i64 arcs, .int .i64 workers, .int .i64 room, .int .i64 res, .int .i64 lex, .int .i64 hh, .int .i64 flag, .int .i64 pending, .int .i64 ask, .int .i64 count, .int .i64 sense, .int .i64 deques, .int .i64 size, .int .i64 v, .int .i64 t, .int .i64 b, .int .i64 x, .bool false, .bool gt, .bool of] : Array Value)[i]? := S.out.m.cell
  have f2 : ∀ i : Nat, W0.frozen? ⟨b2, i, none⟩ = false := S.out.m.free
  go_upto_region 3 with (fail)
  refine wp_region_kept (by kernel_rfl) (by kernel_rfl) ?_
  repeat (go_big_quiet_step ((first | (go_at_call 54; exact kept_call (HTo _).out) | (go_at_call 55; exact kept_call (HBo _).out))))
  refine wpQuiet_nil ?_
  intro W1 hk
  have S1 := Lib.hid (S.out.kept hk)
  clear m2 f2 hk S
  have m2 : ∀ i : Nat, W1.cell? ⟨b2, i, none⟩ = (#[.int .i64 2, .int .i64 3, .int .i64 k, .int .i64 verts, .int .i64 arcs, .int .i64 workers, .int .i64 room, .int .i64 res, .int .i64 lex, .int .i64 hh, .int .i64 flag, .int .i64 pending, .int .i64 ask, .int .i64 count, .int .i64 sense, .int .i64 deques, .int .i64 size, .int .i64 v, .int .i64 t, .int .i64 b, .int .i64 x, .bool false, .bool gt, .bool of] : Array Value)[i]? := S1.out.m.cell
  have f2 : ∀ i : Nat, W1.frozen? ⟨b2, i, none⟩ = false := S1.out.m.free
  go_upto_region 5 with (fail)
  have S2 := Lib.hid (S1.out.upd (i := 1) (u := .int .i64 4) rfl)
  clear m2 f2 S1
  generalize World.setCell _ ⟨b2, 1, none⟩ _ = WS2 at S2 ⊢
  have m2 : ∀ i : Nat, WS2.cell? ⟨b2, i, none⟩ = (#[.int .i64 2, .int .i64 4, .int .i64 k, .int .i64 verts, .int .i64 arcs, .int .i64 workers, .int .i64 room, .int .i64 res, .int .i64 lex, .int .i64 hh, .int .i64 flag, .int .i64 pending, .int .i64 ask, .int .i64 count, .int .i64 sense, .int .i64 deques, .int .i64 size, .int .i64 v, .int .i64 t, .int .i64 b, .int .i64 x, .bool false, .bool gt, .bool of] : Array Value)[i]? := S2.out.m.cell
  have f2 : ∀ i : Nat, WS2.frozen? ⟨b2, i, none⟩ = false := S2.out.m.free
  go_upto_region 22 with (fail)
  have S3 := Lib.hid (S2.out.upd (i := 21) (u := .bool true) rfl)
  clear m2 f2 S2
  generalize World.setCell _ ⟨b2, 21, none⟩ _ = WS3 at S3 ⊢
  have hz := HZZ.out
  have S4 := Lib.hid (S3.out.kept (Upd.refl _ _).drew)
  have S5 := Lib.hid ((S3.out.upd (i := 22) (u := .bool z) rfl).kept (Upd.refl _ _).drew)
  have C0 : WS3.drew.cell? ⟨b2, 18, none⟩ = some (.int .i64 t) := S4.out.m.cell 18
  have C1 : (WS3.setCell ⟨b2, 22, none⟩ (.bool z)).drew.cell? ⟨b2, 18, none⟩ = some (.int .i64 t) := S5.out.m.cell 18
  have m22 : WS3.cell? ⟨b2, 22, none⟩ = some (.bool gt) := S3.out.m.cell 22
  have f22 : WS3.frozen? ⟨b2, 22, none⟩ = false := S3.out.m.free 22
  go_region_held3 (fun w' => w'.cell? ⟨b2, 18, none⟩ = some (.int .i64 t))
    (first | exact C0 | exact C1)
    ((first
      | (go_at_call 53; refine (refLoadN S4.out.rb HN.out _ t' ht' hm).mono ?_; rintro e w2 ⟨rfl, rfl⟩)))
  all_goals
    clear C0 C1 m22 f22 S4 S3 hz
    generalize (World.setCell _ ⟨b2, 22, none⟩ _).drew = WS5 at S5 ⊢
    have m2 : ∀ i : Nat, WS5.cell? ⟨b2, i, none⟩ = (#[.int .i64 2, .int .i64 4, .int .i64 k, .int .i64 verts, .int .i64 arcs, .int .i64 workers, .int .i64 room, .int .i64 res, .int .i64 lex, .int .i64 hh, .int .i64 flag, .int .i64 pending, .int .i64 ask, .int .i64 count, .int .i64 sense, .int .i64 deques, .int .i64 size, .int .i64 v, .int .i64 t, .int .i64 b, .int .i64 x, .bool true, .bool z, .bool of] : Array Value)[i]? := S5.out.m.cell
    have f2 : ∀ i : Nat, WS5.frozen? ⟨b2, i, none⟩ = false := S5.out.m.free
    go_upto_region 24 with (fail)
    have S6 := Lib.hid (S5.out.upd (i := 23) (u := .bool (!z)) rfl)
    clear m2 f2 S5
    generalize World.setCell _ ⟨b2, 23, none⟩ _ = WS6 at S6 ⊢
    cases z with
    | true =>
      have hy := HY.out
      simp only [if_true] at hy
      simp only [Bool.not_true] at S6 ⊢
      have hw : wrap64 (t + 1) = t + 1 := by unfold wrap64; omega
      have m2 : ∀ i : Nat, WS6.cell? ⟨b2, i, none⟩ = (#[.int .i64 2, .int .i64 4, .int .i64 k, .int .i64 verts, .int .i64 arcs, .int .i64 workers, .int .i64 room, .int .i64 res, .int .i64 lex, .int .i64 hh, .int .i64 flag, .int .i64 pending, .int .i64 ask, .int .i64 count, .int .i64 sense, .int .i64 deques, .int .i64 size, .int .i64 v, .int .i64 t, .int .i64 b, .int .i64 x, .bool true, .bool true, .bool false] : Array Value)[i]? := S6.out.m.cell
      have f2 : ∀ i : Nat, WS6.frozen? ⟨b2, i, none⟩ = false := S6.out.m.free
      go_wp2_with fail
      refine (refPutN S6.out.rb HN.out _ _ hy hm).mono ?_
      rintro e w3 ⟨g3, cap3, rfl, hR3, hg3, hk3⟩
      have S7 := Lib.hid (S6.out.mem hk3 hR3 hg3)
      clear hR3 hg3 hk3 S6 m2 f2
      have hra : w3.rangeAt b2 0 [.int .i64 2, .int .i64 4, .int .i64 k, .int .i64 verts, .int .i64 arcs, .int .i64 workers, .int .i64 room, .int .i64 res, .int .i64 lex, .int .i64 hh, .int .i64 flag, .int .i64 pending, .int .i64 ask, .int .i64 count, .int .i64 sense, .int .i64 deques, .int .i64 size, .int .i64 v, .int .i64 t, .int .i64 b, .int .i64 x, .bool true, .bool true, .bool false] := Blk.range S7.out.m
      have hth := Blk.there S7.out.r 24 rfl
      obtain ⟨W9, hW9⟩ : ∃ W9, w3.setCells b4 0 [.int .i64 2, .int .i64 4, .int .i64 k, .int .i64 verts, .int .i64 arcs, .int .i64 workers, .int .i64 room, .int .i64 res, .int .i64 lex, .int .i64 hh, .int .i64 flag, .int .i64 pending, .int .i64 ask, .int .i64 count, .int .i64 sense, .int .i64 deques, .int .i64 size, .int .i64 v, .int .i64 t, .int .i64 b, .int .i64 x, .bool true, .bool true, .bool false] = W9 := ⟨_, rfl⟩
      have hB9 : Blk W9 b4 #[.int .i64 2, .int .i64 4, .int .i64 k, .int .i64 verts, .int .i64 arcs, .int .i64 workers, .int .i64 room, .int .i64 res, .int .i64 lex, .int .i64 hh, .int .i64 flag, .int .i64 pending, .int .i64 ask, .int .i64 count, .int .i64 sense, .int .i64 deques, .int .i64 size, .int .i64 v, .int .i64 t, .int .i64 b, .int .i64 x, .bool true, .bool true, .bool false] 73 ∧ Upd (fun k => k = b4) w3 W9 := by rw [← hW9]; exact Blk.alls S7.out.r [.int .i64 2, .int .i64 4, .int .i64 k, .int .i64 verts, .int .i64 arcs, .int .i64 workers, .int .i64 room, .int .i64 res, .int .i64 lex, .int .i64 hh, .int .i64 flag, .int .i64 pending, .int .i64 ask, .int .i64 count, .int .i64 sense, .int .i64 deques, .int .i64 size, .int .i64 v, .int .i64 t, .int .i64 b, .int .i64 x, .bool true, .bool true, .bool false] rfl
      have hr9 : W9.rangeAt b4 0 [.int .i64 2, .int .i64 4, .int .i64 k, .int .i64 verts, .int .i64 arcs, .int .i64 workers, .int .i64 room, .int .i64 res, .int .i64 lex, .int .i64 hh, .int .i64 flag, .int .i64 pending, .int .i64 ask, .int .i64 count, .int .i64 sense, .int .i64 deques, .int .i64 size, .int .i64 v, .int .i64 t, .int .i64 b, .int .i64 x, .bool true, .bool true, .bool false] := Blk.range hB9.1
      have hz24 := HZ.out
      have hlv := run_loadVar_mid (P := Try.prog) W9 b4 0 73 [.int .i64 2, .int .i64 4, .int .i64 k, .int .i64 verts, .int .i64 arcs, .int .i64 workers, .int .i64 room, .int .i64 res, .int .i64 lex, .int .i64 hh, .int .i64 flag, .int .i64 pending, .int .i64 ask, .int .i64 count, .int .i64 sense, .int .i64 deques, .int .i64 size, .int .i64 v, .int .i64 t, .int .i64 b, .int .i64 x, .bool true, .bool true, .bool false] _ hr9 Try.underlying73 rfl hz24
      have HF := Lib.hid (S7.out.end9 N hB9.2)
      clear hB9 hr9 S7
      go_wp2_with (first | (refine wpList_load_mid rfl _ _ rfl b2 0 rfl [.int .i64 2, .int .i64 4, .int .i64 k, .int .i64 verts, .int .i64 arcs, .int .i64 workers, .int .i64 room, .int .i64 res, .int .i64 lex, .int .i64 hh, .int .i64 flag, .int .i64 pending, .int .i64 ask, .int .i64 count, .int .i64 sense, .int .i64 deques, .int .i64 size, .int .i64 v, .int .i64 t, .int .i64 b, .int .i64 x, .bool true, .bool true, .bool false] _ hra Try.underlying73 rfl hz24 ?_) | (refine wpList_store_mid rfl _ _ _ rfl b4 0 #[.int .i64 2, .int .i64 4, .int .i64 k, .int .i64 verts, .int .i64 arcs, .int .i64 workers, .int .i64 room, .int .i64 res, .int .i64 lex, .int .i64 hh, .int .i64 flag, .int .i64 pending, .int .i64 ask, .int .i64 count, .int .i64 sense, .int .i64 deques, .int .i64 size, .int .i64 v, .int .i64 t, .int .i64 b, .int .i64 x, .bool true, .bool true, .bool false] rfl rfl hth hz24 (all_oneCell_toArray (cs := [.int .i64 2, .int .i64 4, .int .i64 k, .int .i64 verts, .int .i64 arcs, .int .i64 workers, .int .i64 room, .int .i64 res, .int .i64 lex, .int .i64 hh, .int .i64 flag, .int .i64 pending, .int .i64 ask, .int .i64 count, .int .i64 sense, .int .i64 deques, .int .i64 size, .int .i64 v, .int .i64 t, .int .i64 b, .int .i64 x, .bool true, .bool true, .bool false]) (by simp [Value.oneCell'])) ?_; simp only [hW9]) | fail)
      clear hth hra hW9
      exact bodyPost_ret (v := .tuple #[.agg #[.int .i64 2, .int .i64 4, .int .i64 k, .int .i64 verts, .int .i64 arcs, .int .i64 workers, .int .i64 room, .int .i64 res, .int .i64 lex, .int .i64 hh, .int .i64 flag, .int .i64 pending, .int .i64 ask, .int .i64 count, .int .i64 sense, .int .i64 deques, .int .i64 size, .int .i64 v, .int .i64 t, .int .i64 b, .int .i64 x, .bool true, .bool true, .bool false], .slice (some ⟨g3, 0, none⟩) N cap3]) (by simp [results, Try.results51, hlv, asAddr, Act.put]) rfl HF.out
    | false =>
      obtain rfl : xs = ys := by simpa using HY.out
      simp only [Bool.not_false] at S6 ⊢
      have m2 : ∀ i : Nat, WS6.cell? ⟨b2, i, none⟩ = (#[.int .i64 2, .int .i64 4, .int .i64 k, .int .i64 verts, .int .i64 arcs, .int .i64 workers, .int .i64 room, .int .i64 res, .int .i64 lex, .int .i64 hh, .int .i64 flag, .int .i64 pending, .int .i64 ask, .int .i64 count, .int .i64 sense, .int .i64 deques, .int .i64 size, .int .i64 v, .int .i64 t, .int .i64 b, .int .i64 x, .bool true, .bool false, .bool true] : Array Value)[i]? := S6.out.m.cell
      have f2 : ∀ i : Nat, WS6.frozen? ⟨b2, i, none⟩ = false := S6.out.m.free
      go_upto_region 33 with (fail)
      clear m2 f2
      have hra : WS6.rangeAt b2 0 [.int .i64 2, .int .i64 4, .int .i64 k, .int .i64 verts, .int .i64 arcs, .int .i64 workers, .int .i64 room, .int .i64 res, .int .i64 lex, .int .i64 hh, .int .i64 flag, .int .i64 pending, .int .i64 ask, .int .i64 count, .int .i64 sense, .int .i64 deques, .int .i64 size, .int .i64 v, .int .i64 t, .int .i64 b, .int .i64 x, .bool true, .bool false, .bool true] := Blk.range S6.out.m
      have hth := Blk.there S6.out.r 24 rfl
      obtain ⟨W9, hW9⟩ : ∃ W9, WS6.setCells b4 0 [.int .i64 2, .int .i64 4, .int .i64 k, .int .i64 verts, .int .i64 arcs, .int .i64 workers, .int .i64 room, .int .i64 res, .int .i64 lex, .int .i64 hh, .int .i64 flag, .int .i64 pending, .int .i64 ask, .int .i64 count, .int .i64 sense, .int .i64 deques, .int .i64 size, .int .i64 v, .int .i64 t, .int .i64 b, .int .i64 x, .bool true, .bool false, .bool true] = W9 := ⟨_, rfl⟩
      have hB9 : Blk W9 b4 #[.int .i64 2, .int .i64 4, .int .i64 k, .int .i64 verts, .int .i64 arcs, .int .i64 workers, .int .i64 room, .int .i64 res, .int .i64 lex, .int .i64 hh, .int .i64 flag, .int .i64 pending, .int .i64 ask, .int .i64 count, .int .i64 sense, .int .i64 deques, .int .i64 size, .int .i64 v, .int .i64 t, .int .i64 b, .int .i64 x, .bool true, .bool false, .bool true] 73 ∧ Upd (fun k => k = b4) WS6 W9 := by rw [← hW9]; exact Blk.alls S6.out.r [.int .i64 2, .int .i64 4, .int .i64 k, .int .i64 verts, .int .i64 arcs, .int .i64 workers, .int .i64 room, .int .i64 res, .int .i64 lex, .int .i64 hh, .int .i64 flag, .int .i64 pending, .int .i64 ask, .int .i64 count, .int .i64 sense, .int .i64 deques, .int .i64 size, .int .i64 v, .int .i64 t, .int .i64 b, .int .i64 x, .bool true, .bool false, .bool true] rfl
      have hr9 : W9.rangeAt b4 0 [.int .i64 2, .int .i64 4, .int .i64 k, .int .i64 verts, .int .i64 arcs, .int .i64 workers, .int .i64 room, .int .i64 res, .int .i64 lex, .int .i64 hh, .int .i64 flag, .int .i64 pending, .int .i64 ask, .int .i64 count, .int .i64 sense, .int .i64 deques, .int .i64 size, .int .i64 v, .int .i64 t, .int .i64 b, .int .i64 x, .bool true, .bool false, .bool true] := Blk.range hB9.1
      have hz24 := HZ.out
      have hlv := run_loadVar_mid (P := Try.prog) W9 b4 0 73 [.int .i64 2, .int .i64 4, .int .i64 k, .int .i64 verts, .int .i64 arcs, .int .i64 workers, .int .i64 room, .int .i64 res, .int .i64 lex, .int .i64 hh, .int .i64 flag, .int .i64 pending, .int .i64 ask, .int .i64 count, .int .i64 sense, .int .i64 deques, .int .i64 size, .int .i64 v, .int .i64 t, .int .i64 b, .int .i64 x, .bool true, .bool false, .bool true] _ hr9 Try.underlying73 rfl hz24
      have HF := Lib.hid (S6.out.end9 N hB9.2)
      clear hB9 hr9 S6
      go_wp2_with (first | (refine wpList_load_mid rfl _ _ rfl b2 0 rfl [.int .i64 2, .int .i64 4, .int .i64 k, .int .i64 verts, .int .i64 arcs, .int .i64 workers, .int .i64 room, .int .i64 res, .int .i64 lex, .int .i64 hh, .int .i64 flag, .int .i64 pending, .int .i64 ask, .int .i64 count, .int .i64 sense, .int .i64 deques, .int .i64 size, .int .i64 v, .int .i64 t, .int .i64 b, .int .i64 x, .bool true, .bool false, .bool true] _ hra Try.underlying73 rfl hz24 ?_) | (refine wpList_store_mid rfl _ _ _ rfl b4 0 #[.int .i64 2, .int .i64 4, .int .i64 k, .int .i64 verts, .int .i64 arcs, .int .i64 workers, .int .i64 room, .int .i64 res, .int .i64 lex, .int .i64 hh, .int .i64 flag, .int .i64 pending, .int .i64 ask, .int .i64 count, .int .i64 sense, .int .i64 deques, .int .i64 size, .int .i64 v, .int .i64 t, .int .i64 b, .int .i64 x, .bool true, .bool false, .bool true] rfl rfl hth hz24 (all_oneCell_toArray (cs := [.int .i64 2, .int .i64 4, .int .i64 k, .int .i64 verts, .int .i64 arcs, .int .i64 workers, .int .i64 room, .int .i64 res, .int .i64 lex, .int .i64 hh, .int .i64 flag, .int .i64 pending, .int .i64 ask, .int .i64 count, .int .i64 sense, .int .i64 deques, .int .i64 size, .int .i64 v, .int .i64 t, .int .i64 b, .int .i64 x, .bool true, .bool false, .bool true]) (by simp [Value.oneCell'])) ?_; simp only [hW9]) | fail)
      clear hth hra hW9
      exact bodyPost_ret (v := .tuple #[.agg #[.int .i64 2, .int .i64 4, .int .i64 k, .int .i64 verts, .int .i64 arcs, .int .i64 workers, .int .i64 room, .int .i64 res, .int .i64 lex, .int .i64 hh, .int .i64 flag, .int .i64 pending, .int .i64 ask, .int .i64 count, .int .i64 sense, .int .i64 deques, .int .i64 size, .int .i64 v, .int .i64 t, .int .i64 b, .int .i64 x, .bool true, .bool false, .bool true], .slice (some ⟨g, 0, none⟩) N cap]) (by simp [results, Try.results51, hlv, asAddr, Act.put]) rfl HF.out

end Go.Proofs.Ytdgkemadhooogaa
