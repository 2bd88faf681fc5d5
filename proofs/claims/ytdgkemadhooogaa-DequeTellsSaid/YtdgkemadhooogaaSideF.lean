/- acequialaw11.side.fits (printed by gen_refstep11.py). -/
import Derived.Test.YtdgkemadhooogaaSideB
import Derived.Test.YtdgkemadhooogaaDeqDuo
import Derived.Deep.RegionHeld3
import Derived.Deep.CutRange
import Derived.StillTailTactics
import Derived.Deep.MidRow
namespace Go.Proofs.Ytdgkemadhooogaa
set_option linter.unusedVariables false
set_option linter.unusedSimpArgs false
open Go.RowKit
attribute [local go_sem] cell?_ext

set_option maxRecDepth 100000 in
set_option maxHeartbeats 8000000 in
theorem fits_push_fg {w : World} {mb : Nat} {l : Lay} {k : Int} (v : Int) (a t b x : Int) (g : Bool) (of : Bool) (h : PB w mb 48 l k ⟨a, t, b, x, false, g⟩ [.int .i64 v]) :
    Calls Try.prog 52 #[.agg (([.pointer (some ⟨mb, 0, none⟩), .pointer none, .pointer none] : List Value) ++ RMA l k v 0 a t b x false g of).toArray, .bool false] w fun e w' => e = .returned (.bool true) ∧ Kept w w' := by
  have HC := fun (w1 : World) (hk : Kept w w1) => Lib.hid (show Calls Try.prog 21 #[.pointer (some ⟨mb, 0, none⟩)] w1 (fun e w' => e = .returned (.bool (false)) ∧ w1 = w') from push_ok2 (PB.kept h hk))
  clear h
  obtain ⟨verts, arcs, workers, room, res, lex, hh, flag, pending, ask, count, sense, deques, size⟩ := l
  simp only [RMA, List.cons_append, List.nil_append]
  have HZ24 : Hid ((Try.prog.info? 73).map (·.size) = some 24) := Lib.hid (by kernel_rfl)
  have b1 := Blk.new w #[.pointer (some ⟨mb, 0, none⟩), .pointer none, .pointer none, .int .i64 0, .int .i64 a, .int .i64 k, .int .i64 verts, .int .i64 arcs, .int .i64 workers, .int .i64 room, .int .i64 res, .int .i64 lex, .int .i64 hh, .int .i64 flag, .int .i64 pending, .int .i64 ask, .int .i64 count, .int .i64 sense, .int .i64 deques, .int .i64 size, .int .i64 v, .int .i64 t, .int .i64 b, .int .i64 x, .bool false, .bool g, .bool of] 75
  have k1 := (Upd.refl (fun _ => False) w).alloc (.cells #[.pointer (some ⟨mb, 0, none⟩), .pointer none, .pointer none, .int .i64 0, .int .i64 a, .int .i64 k, .int .i64 verts, .int .i64 arcs, .int .i64 workers, .int .i64 room, .int .i64 res, .int .i64 lex, .int .i64 hh, .int .i64 flag, .int .i64 pending, .int .i64 ask, .int .i64 count, .int .i64 sense, .int .i64 deques, .int .i64 size, .int .i64 v, .int .i64 t, .int .i64 b, .int .i64 x, .bool false, .bool g, .bool of] 75)
  go_enter Try.func52, Try.ntmps52
  go_upto_region 1 with (fail)
  generalize (w.alloc (.cells #[.pointer (some ⟨mb, 0, none⟩), .pointer none, .pointer none, .int .i64 0, .int .i64 a, .int .i64 k, .int .i64 verts, .int .i64 arcs, .int .i64 workers, .int .i64 room, .int .i64 res, .int .i64 lex, .int .i64 hh, .int .i64 flag, .int .i64 pending, .int .i64 ask, .int .i64 count, .int .i64 sense, .int .i64 deques, .int .i64 size, .int .i64 v, .int .i64 t, .int .i64 b, .int .i64 x, .bool false, .bool g, .bool of] 75)) = W0 at b1 k1 ⊢
  generalize w.heap.size = b2 at b1 ⊢
  have hra : W0.rangeAt b2 3 [.int .i64 0, .int .i64 a, .int .i64 k, .int .i64 verts, .int .i64 arcs, .int .i64 workers, .int .i64 room, .int .i64 res, .int .i64 lex, .int .i64 hh, .int .i64 flag, .int .i64 pending, .int .i64 ask, .int .i64 count, .int .i64 sense, .int .i64 deques, .int .i64 size, .int .i64 v, .int .i64 t, .int .i64 b, .int .i64 x, .bool false, .bool g, .bool of] := by
    intro j u hj
    rw [b1.cell, Nat.add_comm]
    simpa using hj
  have hZm := Blk.new W0 #[.int .i64 0, .int .i64 0, .int .i64 0, .int .i64 0, .int .i64 0, .int .i64 0, .int .i64 0, .int .i64 0, .int .i64 0, .int .i64 0, .int .i64 0, .int .i64 0, .int .i64 0, .int .i64 0, .int .i64 0, .int .i64 0, .int .i64 0, .int .i64 0, .int .i64 0, .int .i64 0, .int .i64 0, .bool false, .bool false, .bool false] 73
  have hthm := Blk.there hZm 24 rfl
  obtain ⟨W1, hWm⟩ : ∃ W', (W0.alloc (.cells #[.int .i64 0, .int .i64 0, .int .i64 0, .int .i64 0, .int .i64 0, .int .i64 0, .int .i64 0, .int .i64 0, .int .i64 0, .int .i64 0, .int .i64 0, .int .i64 0, .int .i64 0, .int .i64 0, .int .i64 0, .int .i64 0, .int .i64 0, .int .i64 0, .int .i64 0, .int .i64 0, .int .i64 0, .bool false, .bool false, .bool false] 73)).setCells W0.heap.size 0 [.int .i64 0, .int .i64 a, .int .i64 k, .int .i64 verts, .int .i64 arcs, .int .i64 workers, .int .i64 room, .int .i64 res, .int .i64 lex, .int .i64 hh, .int .i64 flag, .int .i64 pending, .int .i64 ask, .int .i64 count, .int .i64 sense, .int .i64 deques, .int .i64 size, .int .i64 v, .int .i64 t, .int .i64 b, .int .i64 x, .bool false, .bool g, .bool of] = W' := ⟨_, rfl⟩
  have hBm : Blk W1 W0.heap.size #[.int .i64 0, .int .i64 a, .int .i64 k, .int .i64 verts, .int .i64 arcs, .int .i64 workers, .int .i64 room, .int .i64 res, .int .i64 lex, .int .i64 hh, .int .i64 flag, .int .i64 pending, .int .i64 ask, .int .i64 count, .int .i64 sense, .int .i64 deques, .int .i64 size, .int .i64 v, .int .i64 t, .int .i64 b, .int .i64 x, .bool false, .bool g, .bool of] 73 ∧ Upd (fun k => k = W0.heap.size) (W0.alloc (.cells #[.int .i64 0, .int .i64 0, .int .i64 0, .int .i64 0, .int .i64 0, .int .i64 0, .int .i64 0, .int .i64 0, .int .i64 0, .int .i64 0, .int .i64 0, .int .i64 0, .int .i64 0, .int .i64 0, .int .i64 0, .int .i64 0, .int .i64 0, .int .i64 0, .int .i64 0, .int .i64 0, .int .i64 0, .bool false, .bool false, .bool false] 73)) W1 := by rw [← hWm]; exact Blk.alls hZm [.int .i64 0, .int .i64 a, .int .i64 k, .int .i64 verts, .int .i64 arcs, .int .i64 workers, .int .i64 room, .int .i64 res, .int .i64 lex, .int .i64 hh, .int .i64 flag, .int .i64 pending, .int .i64 ask, .int .i64 count, .int .i64 sense, .int .i64 deques, .int .i64 size, .int .i64 v, .int .i64 t, .int .i64 b, .int .i64 x, .bool false, .bool g, .bool of] rfl
  have hKm : Kept W0 W1 := (((Upd.refl (fun _ => False) W0).alloc _).then hBm.2 (fun i hi e => by omega))
  have hsm := HZ24.out
  have HS := Lib.hid (b1.kept hKm)
  have HK := Lib.hid (k1.trans hKm)
  have HM := Lib.hid hBm.1
  clear b1 k1 hBm hKm hZm
  go_upto_region 2 with (first | (refine wpList_load_mid rfl _ _ rfl b2 3 rfl [.int .i64 0, .int .i64 a, .int .i64 k, .int .i64 verts, .int .i64 arcs, .int .i64 workers, .int .i64 room, .int .i64 res, .int .i64 lex, .int .i64 hh, .int .i64 flag, .int .i64 pending, .int .i64 ask, .int .i64 count, .int .i64 sense, .int .i64 deques, .int .i64 size, .int .i64 v, .int .i64 t, .int .i64 b, .int .i64 x, .bool false, .bool g, .bool of] _ hra Try.underlying73 rfl HZ24.out ?_) | (refine wpList_store_mid rfl _ _ _ rfl W0.heap.size 0 #[.int .i64 0, .int .i64 a, .int .i64 k, .int .i64 verts, .int .i64 arcs, .int .i64 workers, .int .i64 room, .int .i64 res, .int .i64 lex, .int .i64 hh, .int .i64 flag, .int .i64 pending, .int .i64 ask, .int .i64 count, .int .i64 sense, .int .i64 deques, .int .i64 size, .int .i64 v, .int .i64 t, .int .i64 b, .int .i64 x, .bool false, .bool g, .bool of] rfl rfl hthm hsm (all_oneCell_toArray (cs := [.int .i64 0, .int .i64 a, .int .i64 k, .int .i64 verts, .int .i64 arcs, .int .i64 workers, .int .i64 room, .int .i64 res, .int .i64 lex, .int .i64 hh, .int .i64 flag, .int .i64 pending, .int .i64 ask, .int .i64 count, .int .i64 sense, .int .i64 deques, .int .i64 size, .int .i64 v, .int .i64 t, .int .i64 b, .int .i64 x, .bool false, .bool g, .bool of]) (by simp [Value.oneCell'])) ?_; simp only [hWm]) | fail)
  simp only [Act.put]
  clear hra hthm hWm hsm
  generalize W0.heap.size = mx at HM ⊢
  have cm : ∀ i : Nat, W1.cell? ⟨mx, i, none⟩ = (#[.int .i64 0, .int .i64 a, .int .i64 k, .int .i64 verts, .int .i64 arcs, .int .i64 workers, .int .i64 room, .int .i64 res, .int .i64 lex, .int .i64 hh, .int .i64 flag, .int .i64 pending, .int .i64 ask, .int .i64 count, .int .i64 sense, .int .i64 deques, .int .i64 size, .int .i64 v, .int .i64 t, .int .i64 b, .int .i64 x, .bool false, .bool g, .bool of] : Array Value)[i]? := HM.out.cell
  have cs : ∀ i : Nat, W1.cell? ⟨b2, i, none⟩ = (#[.pointer (some ⟨mb, 0, none⟩), .pointer none, .pointer none, .int .i64 0, .int .i64 a, .int .i64 k, .int .i64 verts, .int .i64 arcs, .int .i64 workers, .int .i64 room, .int .i64 res, .int .i64 lex, .int .i64 hh, .int .i64 flag, .int .i64 pending, .int .i64 ask, .int .i64 count, .int .i64 sense, .int .i64 deques, .int .i64 size, .int .i64 v, .int .i64 t, .int .i64 b, .int .i64 x, .bool false, .bool g, .bool of] : Array Value)[i]? := HS.out.cell
  go_upto_region 8 with (fail)
  refine wp_region_kept (by kernel_rfl) (by kernel_rfl) ?_
  repeat (go_big_quiet_step ((go_at_call 21; exact same_call (HC _ (HK.out.trans (kept_ext _ _))).out)))
  refine wpQuiet_nil ?_
  intro W2 hk
  have HK2 := Lib.hid (HK.out.trans hk)
  clear cm cs hk
  go_wp2_with fail
  go_ret
  exact ⟨by simp, HK2.out⟩

set_option maxRecDepth 100000 in
set_option maxHeartbeats 8000000 in
theorem fits_push_tf {w : World} {mb : Nat} {l : Lay} {k : Int} (v : Int) (a t b x : Int) (of : Bool) (h : PB w mb 48 l k ⟨a, t, b, x, true, false⟩ [.int .i64 v]) :
    Calls Try.prog 52 #[.agg (([.pointer (some ⟨mb, 0, none⟩), .pointer none, .pointer none] : List Value) ++ RMA l k v 0 a t b x true false of).toArray, .bool true] w fun e w' => e = .returned (.bool true) ∧ Kept w w' := by
  have HC := fun (w1 : World) (hk : Kept w w1) => Lib.hid (show Calls Try.prog 21 #[.pointer (some ⟨mb, 0, none⟩)] w1 (fun e w' => e = .returned (.bool (false)) ∧ w1 = w') from push_ok2 (PB.kept h hk))
  clear h
  obtain ⟨verts, arcs, workers, room, res, lex, hh, flag, pending, ask, count, sense, deques, size⟩ := l
  simp only [RMA, List.cons_append, List.nil_append]
  have HZ24 : Hid ((Try.prog.info? 73).map (·.size) = some 24) := Lib.hid (by kernel_rfl)
  have b1 := Blk.new w #[.pointer (some ⟨mb, 0, none⟩), .pointer none, .pointer none, .int .i64 0, .int .i64 a, .int .i64 k, .int .i64 verts, .int .i64 arcs, .int .i64 workers, .int .i64 room, .int .i64 res, .int .i64 lex, .int .i64 hh, .int .i64 flag, .int .i64 pending, .int .i64 ask, .int .i64 count, .int .i64 sense, .int .i64 deques, .int .i64 size, .int .i64 v, .int .i64 t, .int .i64 b, .int .i64 x, .bool true, .bool false, .bool of] 75
  have k1 := (Upd.refl (fun _ => False) w).alloc (.cells #[.pointer (some ⟨mb, 0, none⟩), .pointer none, .pointer none, .int .i64 0, .int .i64 a, .int .i64 k, .int .i64 verts, .int .i64 arcs, .int .i64 workers, .int .i64 room, .int .i64 res, .int .i64 lex, .int .i64 hh, .int .i64 flag, .int .i64 pending, .int .i64 ask, .int .i64 count, .int .i64 sense, .int .i64 deques, .int .i64 size, .int .i64 v, .int .i64 t, .int .i64 b, .int .i64 x, .bool true, .bool false, .bool of] 75)
  go_enter Try.func52, Try.ntmps52
  go_upto_region 1 with (fail)
  generalize (w.alloc (.cells #[.pointer (some ⟨mb, 0, none⟩), .pointer none, .pointer none, .int .i64 0, .int .i64 a, .int .i64 k, .int .i64 verts, .int .i64 arcs, .int .i64 workers, .int .i64 room, .int .i64 res, .int .i64 lex, .int .i64 hh, .int .i64 flag, .int .i64 pending, .int .i64 ask, .int .i64 count, .int .i64 sense, .int .i64 deques, .int .i64 size, .int .i64 v, .int .i64 t, .int .i64 b, .int .i64 x, .bool true, .bool false, .bool of] 75)) = W0 at b1 k1 ⊢
  generalize w.heap.size = b2 at b1 ⊢
  have hra : W0.rangeAt b2 3 [.int .i64 0, .int .i64 a, .int .i64 k, .int .i64 verts, .int .i64 arcs, .int .i64 workers, .int .i64 room, .int .i64 res, .int .i64 lex, .int .i64 hh, .int .i64 flag, .int .i64 pending, .int .i64 ask, .int .i64 count, .int .i64 sense, .int .i64 deques, .int .i64 size, .int .i64 v, .int .i64 t, .int .i64 b, .int .i64 x, .bool true, .bool false, .bool of] := by
    intro j u hj
    rw [b1.cell, Nat.add_comm]
    simpa using hj
  have hZm := Blk.new W0 #[.int .i64 0, .int .i64 0, .int .i64 0, .int .i64 0, .int .i64 0, .int .i64 0, .int .i64 0, .int .i64 0, .int .i64 0, .int .i64 0, .int .i64 0, .int .i64 0, .int .i64 0, .int .i64 0, .int .i64 0, .int .i64 0, .int .i64 0, .int .i64 0, .int .i64 0, .int .i64 0, .int .i64 0, .bool false, .bool false, .bool false] 73
  have hthm := Blk.there hZm 24 rfl
  obtain ⟨W1, hWm⟩ : ∃ W', (W0.alloc (.cells #[.int .i64 0, .int .i64 0, .int .i64 0, .int .i64 0, .int .i64 0, .int .i64 0, .int .i64 0, .int .i64 0, .int .i64 0, .int .i64 0, .int .i64 0, .int .i64 0, .int .i64 0, .int .i64 0, .int .i64 0, .int .i64 0, .int .i64 0, .int .i64 0, .int .i64 0, .int .i64 0, .int .i64 0, .bool false, .bool false, .bool false] 73)).setCells W0.heap.size 0 [.int .i64 0, .int .i64 a, .int .i64 k, .int .i64 verts, .int .i64 arcs, .int .i64 workers, .int .i64 room, .int .i64 res, .int .i64 lex, .int .i64 hh, .int .i64 flag, .int .i64 pending, .int .i64 ask, .int .i64 count, .int .i64 sense, .int .i64 deques, .int .i64 size, .int .i64 v, .int .i64 t, .int .i64 b, .int .i64 x, .bool true, .bool false, .bool of] = W' := ⟨_, rfl⟩
  have hBm : Blk W1 W0.heap.size #[.int .i64 0, .int .i64 a, .int .i64 k, .int .i64 verts, .int .i64 arcs, .int .i64 workers, .int .i64 room, .int .i64 res, .int .i64 lex, .int .i64 hh, .int .i64 flag, .int .i64 pending, .int .i64 ask, .int .i64 count, .int .i64 sense, .int .i64 deques, .int .i64 size, .int .i64 v, .int .i64 t, .int .i64 b, .int .i64 x, .bool true, .bool false, .bool of] 73 ∧ Upd (fun k => k = W0.heap.size) (W0.alloc (.cells #[.int .i64 0, .int .i64 0, .int .i64 0, .int .i64 0, .int .i64 0, .int .i64 0, .int .i64 0, .int .i64 0, .int .i64 0, .int .i64 0, .int .i64 0, .int .i64 0, .int .i64 0, .int .i64 0, .int .i64 0, .int .i64 0, .int .i64 0, .int .i64 0, .int .i64 0, .int .i64 0, .int .i64 0, .bool false, .bool false, .bool false] 73)) W1 := by rw [← hWm]; exact Blk.alls hZm [.int .i64 0, .int .i64 a, .int .i64 k, .int .i64 verts, .int .i64 arcs, .int .i64 workers, .int .i64 room, .int .i64 res, .int .i64 lex, .int .i64 hh, .int .i64 flag, .int .i64 pending, .int .i64 ask, .int .i64 count, .int .i64 sense, .int .i64 deques, .int .i64 size, .int .i64 v, .int .i64 t, .int .i64 b, .int .i64 x, .bool true, .bool false, .bool of] rfl
  have hKm : Kept W0 W1 := (((Upd.refl (fun _ => False) W0).alloc _).then hBm.2 (fun i hi e => by omega))
  have hsm := HZ24.out
  have HS := Lib.hid (b1.kept hKm)
  have HK := Lib.hid (k1.trans hKm)
  have HM := Lib.hid hBm.1
  clear b1 k1 hBm hKm hZm
  go_upto_region 2 with (first | (refine wpList_load_mid rfl _ _ rfl b2 3 rfl [.int .i64 0, .int .i64 a, .int .i64 k, .int .i64 verts, .int .i64 arcs, .int .i64 workers, .int .i64 room, .int .i64 res, .int .i64 lex, .int .i64 hh, .int .i64 flag, .int .i64 pending, .int .i64 ask, .int .i64 count, .int .i64 sense, .int .i64 deques, .int .i64 size, .int .i64 v, .int .i64 t, .int .i64 b, .int .i64 x, .bool true, .bool false, .bool of] _ hra Try.underlying73 rfl HZ24.out ?_) | (refine wpList_store_mid rfl _ _ _ rfl W0.heap.size 0 #[.int .i64 0, .int .i64 a, .int .i64 k, .int .i64 verts, .int .i64 arcs, .int .i64 workers, .int .i64 room, .int .i64 res, .int .i64 lex, .int .i64 hh, .int .i64 flag, .int .i64 pending, .int .i64 ask, .int .i64 count, .int .i64 sense, .int .i64 deques, .int .i64 size, .int .i64 v, .int .i64 t, .int .i64 b, .int .i64 x, .bool true, .bool false, .bool of] rfl rfl hthm hsm (all_oneCell_toArray (cs := [.int .i64 0, .int .i64 a, .int .i64 k, .int .i64 verts, .int .i64 arcs, .int .i64 workers, .int .i64 room, .int .i64 res, .int .i64 lex, .int .i64 hh, .int .i64 flag, .int .i64 pending, .int .i64 ask, .int .i64 count, .int .i64 sense, .int .i64 deques, .int .i64 size, .int .i64 v, .int .i64 t, .int .i64 b, .int .i64 x, .bool true, .bool false, .bool of]) (by simp [Value.oneCell'])) ?_; simp only [hWm]) | fail)
  simp only [Act.put]
  clear hra hthm hWm hsm
  generalize W0.heap.size = mx at HM ⊢
  have cm : ∀ i : Nat, W1.cell? ⟨mx, i, none⟩ = (#[.int .i64 0, .int .i64 a, .int .i64 k, .int .i64 verts, .int .i64 arcs, .int .i64 workers, .int .i64 room, .int .i64 res, .int .i64 lex, .int .i64 hh, .int .i64 flag, .int .i64 pending, .int .i64 ask, .int .i64 count, .int .i64 sense, .int .i64 deques, .int .i64 size, .int .i64 v, .int .i64 t, .int .i64 b, .int .i64 x, .bool true, .bool false, .bool of] : Array Value)[i]? := HM.out.cell
  have cs : ∀ i : Nat, W1.cell? ⟨b2, i, none⟩ = (#[.pointer (some ⟨mb, 0, none⟩), .pointer none, .pointer none, .int .i64 0, .int .i64 a, .int .i64 k, .int .i64 verts, .int .i64 arcs, .int .i64 workers, .int .i64 room, .int .i64 res, .int .i64 lex, .int .i64 hh, .int .i64 flag, .int .i64 pending, .int .i64 ask, .int .i64 count, .int .i64 sense, .int .i64 deques, .int .i64 size, .int .i64 v, .int .i64 t, .int .i64 b, .int .i64 x, .bool true, .bool false, .bool of] : Array Value)[i]? := HS.out.cell
  go_upto_region 8 with (fail)
  refine wp_region_kept (by kernel_rfl) (by kernel_rfl) ?_
  repeat (go_big_quiet_step ((go_at_call 21; exact same_call (HC _ (HK.out.trans (kept_ext _ _))).out)))
  refine wpQuiet_nil ?_
  intro W2 hk
  have HK2 := Lib.hid (HK.out.trans hk)
  clear cm cs hk
  go_wp2_with fail
  go_ret
  exact ⟨by simp, HK2.out⟩

set_option maxRecDepth 100000 in
set_option maxHeartbeats 8000000 in
theorem fits_push_tt {w : World} {mb : Nat} {l : Lay} {k : Int} (v : Int) (a t b x : Int) (of : Bool) (h : PB w mb 48 l k ⟨a, t, b, x, true, true⟩ [.int .i64 v]) :
    Calls Try.prog 52 #[.agg (([.pointer (some ⟨mb, 0, none⟩), .pointer none, .pointer none] : List Value) ++ RMA l k v 0 a t b x true true of).toArray, .bool true] w fun e w' => e = .returned (.bool true) ∧ Kept w w' := by
  have HC := fun (w1 : World) (hk : Kept w w1) => Lib.hid (show Calls Try.prog 21 #[.pointer (some ⟨mb, 0, none⟩)] w1 (fun e w' => e = .returned (.bool (true)) ∧ w1 = w') from push_ok2 (PB.kept h hk))
  clear h
  obtain ⟨verts, arcs, workers, room, res, lex, hh, flag, pending, ask, count, sense, deques, size⟩ := l
  simp only [RMA, List.cons_append, List.nil_append]
  have HZ24 : Hid ((Try.prog.info? 73).map (·.size) = some 24) := Lib.hid (by kernel_rfl)
  have b1 := Blk.new w #[.pointer (some ⟨mb, 0, none⟩), .pointer none, .pointer none, .int .i64 0, .int .i64 a, .int .i64 k, .int .i64 verts, .int .i64 arcs, .int .i64 workers, .int .i64 room, .int .i64 res, .int .i64 lex, .int .i64 hh, .int .i64 flag, .int .i64 pending, .int .i64 ask, .int .i64 count, .int .i64 sense, .int .i64 deques, .int .i64 size, .int .i64 v, .int .i64 t, .int .i64 b, .int .i64 x, .bool true, .bool true, .bool of] 75
  have k1 := (Upd.refl (fun _ => False) w).alloc (.cells #[.pointer (some ⟨mb, 0, none⟩), .pointer none, .pointer none, .int .i64 0, .int .i64 a, .int .i64 k, .int .i64 verts, .int .i64 arcs, .int .i64 workers, .int .i64 room, .int .i64 res, .int .i64 lex, .int .i64 hh, .int .i64 flag, .int .i64 pending, .int .i64 ask, .int .i64 count, .int .i64 sense, .int .i64 deques, .int .i64 size, .int .i64 v, .int .i64 t, .int .i64 b, .int .i64 x, .bool true, .bool true, .bool of] 75)
  go_enter Try.func52, Try.ntmps52
  go_upto_region 1 with (fail)
  generalize (w.alloc (.cells #[.pointer (some ⟨mb, 0, none⟩), .pointer none, .pointer none, .int .i64 0, .int .i64 a, .int .i64 k, .int .i64 verts, .int .i64 arcs, .int .i64 workers, .int .i64 room, .int .i64 res, .int .i64 lex, .int .i64 hh, .int .i64 flag, .int .i64 pending, .int .i64 ask, .int .i64 count, .int .i64 sense, .int .i64 deques, .int .i64 size, .int .i64 v, .int .i64 t, .int .i64 b, .int .i64 x, .bool true, .bool true, .bool of] 75)) = W0 at b1 k1 ⊢
  generalize w.heap.size = b2 at b1 ⊢
  have hra : W0.rangeAt b2 3 [.int .i64 0, .int .i64 a, .int .i64 k, .int .i64 verts, .int .i64 arcs, .int .i64 workers, .int .i64 room, .int .i64 res, .int .i64 lex, .int .i64 hh, .int .i64 flag, .int .i64 pending, .int .i64 ask, .int .i64 count, .int .i64 sense, .int .i64 deques, .int .i64 size, .int .i64 v, .int .i64 t, .int .i64 b, .int .i64 x, .bool true, .bool true, .bool of] := by
    intro j u hj
    rw [b1.cell, Nat.add_comm]
    simpa using hj
  have hZm := Blk.new W0 #[.int .i64 0, .int .i64 0, .int .i64 0, .int .i64 0, .int .i64 0, .int .i64 0, .int .i64 0, .int .i64 0, .int .i64 0, .int .i64 0, .int .i64 0, .int .i64 0, .int .i64 0, .int .i64 0, .int .i64 0, .int .i64 0, .int .i64 0, .int .i64 0, .int .i64 0, .int .i64 0, .int .i64 0, .bool false, .bool false, .bool false] 73
  have hthm := Blk.there hZm 24 rfl
  obtain ⟨W1, hWm⟩ : ∃ W', (W0.alloc (.cells #[.int .i64 0, .int .i64 0, .int .i64 0, .int .i64 0, .int .i64 0, .int .i64 0, .int .i64 0, .int .i64 0, .int .i64 0, .int .i64 0, .int .i64 0, .int .i64 0, .int .i64 0, .int .i64 0, .int .i64 0, .int .i64 0, .int .i64 0, .int .i64 0, .int .i64 0, .int .i64 0, .int .i64 0, .bool false, .bool false, .bool false] 73)).setCells W0.heap.size 0 [.int .i64 0, .int .i64 a, .int .i64 k, .int .i64 verts, .int .i64 arcs, .int .i64 workers, .int .i64 room, .int .i64 res, .int .i64 lex, .int .i64 hh, .int .i64 flag, .int .i64 pending, .int .i64 ask, .int .i64 count, .int .i64 sense, .int .i64 deques, .int .i64 size, .int .i64 v, .int .i64 t, .int .i64 b, .int .i64 x, .bool true, .bool true, .bool of] = W' := ⟨_, rfl⟩
  have hBm : Blk W1 W0.heap.size #[.int .i64 0, .int .i64 a, .int .i64 k, .int .i64 verts, .int .i64 arcs, .int .i64 workers, .int .i64 room, .int .i64 res, .int .i64 lex, .int .i64 hh, .int .i64 flag, .int .i64 pending, .int .i64 ask, .int .i64 count, .int .i64 sense, .int .i64 deques, .int .i64 size, .int .i64 v, .int .i64 t, .int .i64 b, .int .i64 x, .bool true, .bool true, .bool of] 73 ∧ Upd (fun k => k = W0.heap.size) (W0.alloc (.cells #[.int .i64 0, .int .i64 0, .int .i64 0, .int .i64 0, .int .i64 0, .int .i64 0, .int .i64 0, .int .i64 0, .int .i64 0, .int .i64 0, .int .i64 0, .int .i64 0, .int .i64 0, .int .i64 0, .int .i64 0, .int .i64 0, .int .i64 0, .int .i64 0, .int .i64 0, .int .i64 0, .int .i64 0, .bool false, .bool false, .bool false] 73)) W1 := by rw [← hWm]; exact Blk.alls hZm [.int .i64 0, .int .i64 a, .int .i64 k, .int .i64 verts, .int .i64 arcs, .int .i64 workers, .int .i64 room, .int .i64 res, .int .i64 lex, .int .i64 hh, .int .i64 flag, .int .i64 pending, .int .i64 ask, .int .i64 count, .int .i64 sense, .int .i64 deques, .int .i64 size, .int .i64 v, .int .i64 t, .int .i64 b, .int .i64 x, .bool true, .bool true, .bool of] rfl
  have hKm : Kept W0 W1 := (((Upd.refl (fun _ => False) W0).alloc _).then hBm.2 (fun i hi e => by omega))
  have hsm := HZ24.out
  have HS := Lib.hid (b1.kept hKm)
  have HK := Lib.hid (k1.trans hKm)
  have HM := Lib.hid hBm.1
  clear b1 k1 hBm hKm hZm
  go_upto_region 2 with (first | (refine wpList_load_mid rfl _ _ rfl b2 3 rfl [.int .i64 0, .int .i64 a, .int .i64 k, .int .i64 verts, .int .i64 arcs, .int .i64 workers, .int .i64 room, .int .i64 res, .int .i64 lex, .int .i64 hh, .int .i64 flag, .int .i64 pending, .int .i64 ask, .int .i64 count, .int .i64 sense, .int .i64 deques, .int .i64 size, .int .i64 v, .int .i64 t, .int .i64 b, .int .i64 x, .bool true, .bool true, .bool of] _ hra Try.underlying73 rfl HZ24.out ?_) | (refine wpList_store_mid rfl _ _ _ rfl W0.heap.size 0 #[.int .i64 0, .int .i64 a, .int .i64 k, .int .i64 verts, .int .i64 arcs, .int .i64 workers, .int .i64 room, .int .i64 res, .int .i64 lex, .int .i64 hh, .int .i64 flag, .int .i64 pending, .int .i64 ask, .int .i64 count, .int .i64 sense, .int .i64 deques, .int .i64 size, .int .i64 v, .int .i64 t, .int .i64 b, .int .i64 x, .bool true, .bool true, .bool of] rfl rfl hthm hsm (all_oneCell_toArray (cs := [.int .i64 0, .int .i64 a, .int .i64 k, .int .i64 verts, .int .i64 arcs, .int .i64 workers, .int .i64 room, .int .i64 res, .int .i64 lex, .int .i64 hh, .int .i64 flag, .int .i64 pending, .int .i64 ask, .int .i64 count, .int .i64 sense, .int .i64 deques, .int .i64 size, .int .i64 v, .int .i64 t, .int .i64 b, .int .i64 x, .bool true, .bool true, .bool of]) (by simp [Value.oneCell'])) ?_; simp only [hWm]) | fail)
  simp only [Act.put]
  clear hra hthm hWm hsm
  generalize W0.heap.size = mx at HM ⊢
  have cm : ∀ i : Nat, W1.cell? ⟨mx, i, none⟩ = (#[.int .i64 0, .int .i64 a, .int .i64 k, .int .i64 verts, .int .i64 arcs, .int .i64 workers, .int .i64 room, .int .i64 res, .int .i64 lex, .int .i64 hh, .int .i64 flag, .int .i64 pending, .int .i64 ask, .int .i64 count, .int .i64 sense, .int .i64 deques, .int .i64 size, .int .i64 v, .int .i64 t, .int .i64 b, .int .i64 x, .bool true, .bool true, .bool of] : Array Value)[i]? := HM.out.cell
  have cs : ∀ i : Nat, W1.cell? ⟨b2, i, none⟩ = (#[.pointer (some ⟨mb, 0, none⟩), .pointer none, .pointer none, .int .i64 0, .int .i64 a, .int .i64 k, .int .i64 verts, .int .i64 arcs, .int .i64 workers, .int .i64 room, .int .i64 res, .int .i64 lex, .int .i64 hh, .int .i64 flag, .int .i64 pending, .int .i64 ask, .int .i64 count, .int .i64 sense, .int .i64 deques, .int .i64 size, .int .i64 v, .int .i64 t, .int .i64 b, .int .i64 x, .bool true, .bool true, .bool of] : Array Value)[i]? := HS.out.cell
  go_upto_region 8 with (fail)
  refine wp_region_kept (by kernel_rfl) (by kernel_rfl) ?_
  repeat (go_big_quiet_step ((go_at_call 21; exact same_call (HC _ (HK.out.trans (kept_ext _ _))).out)))
  refine wpQuiet_nil ?_
  intro W2 hk
  have HK2 := Lib.hid (HK.out.trans hk)
  clear cm cs hk
  go_wp2_with fail
  go_ret
  exact ⟨by simp, HK2.out⟩

set_option maxRecDepth 100000 in
set_option maxHeartbeats 8000000 in
theorem fits_pop_fg {w : World} {mb : Nat} {l : Lay} {k : Int} (a t b x : Int) (g : Bool) (of : Bool) (h : PB w mb 51 l k ⟨a, t, b, x, false, g⟩ []) :
    Calls Try.prog 52 #[.agg (([.pointer none, .pointer (some ⟨mb, 0, none⟩), .pointer none] : List Value) ++ RMA l k 0 1 a t b x false g of).toArray, .bool false] w fun e w' => e = .returned (.bool true) ∧ Kept w w' := by
  have HC := fun (w1 : World) (hk : Kept w w1) => Lib.hid (show Calls Try.prog 22 #[.pointer (some ⟨mb, 0, none⟩)] w1 (fun e w' => e = .returned (.tuple #[.int .i64 0, .bool false]) ∧ w1 = w') from pop_got (PB.kept h hk))
  clear h
  obtain ⟨verts, arcs, workers, room, res, lex, hh, flag, pending, ask, count, sense, deques, size⟩ := l
  simp only [RMA, List.cons_append, List.nil_append]
  have HZ24 : Hid ((Try.prog.info? 73).map (·.size) = some 24) := Lib.hid (by kernel_rfl)
  have b1 := Blk.new w #[.pointer none, .pointer (some ⟨mb, 0, none⟩), .pointer none, .int .i64 1, .int .i64 a, .int .i64 k, .int .i64 verts, .int .i64 arcs, .int .i64 workers, .int .i64 room, .int .i64 res, .int .i64 lex, .int .i64 hh, .int .i64 flag, .int .i64 pending, .int .i64 ask, .int .i64 count, .int .i64 sense, .int .i64 deques, .int .i64 size, .int .i64 0, .int .i64 t, .int .i64 b, .int .i64 x, .bool false, .bool g, .bool of] 75
  have k1 := (Upd.refl (fun _ => False) w).alloc (.cells #[.pointer none, .pointer (some ⟨mb, 0, none⟩), .pointer none, .int .i64 1, .int .i64 a, .int .i64 k, .int .i64 verts, .int .i64 arcs, .int .i64 workers, .int .i64 room, .int .i64 res, .int .i64 lex, .int .i64 hh, .int .i64 flag, .int .i64 pending, .int .i64 ask, .int .i64 count, .int .i64 sense, .int .i64 deques, .int .i64 size, .int .i64 0, .int .i64 t, .int .i64 b, .int .i64 x, .bool false, .bool g, .bool of] 75)
  go_enter Try.func52, Try.ntmps52
  go_upto_region 1 with (fail)
  generalize (w.alloc (.cells #[.pointer none, .pointer (some ⟨mb, 0, none⟩), .pointer none, .int .i64 1, .int .i64 a, .int .i64 k, .int .i64 verts, .int .i64 arcs, .int .i64 workers, .int .i64 room, .int .i64 res, .int .i64 lex, .int .i64 hh, .int .i64 flag, .int .i64 pending, .int .i64 ask, .int .i64 count, .int .i64 sense, .int .i64 deques, .int .i64 size, .int .i64 0, .int .i64 t, .int .i64 b, .int .i64 x, .bool false, .bool g, .bool of] 75)) = W0 at b1 k1 ⊢
  generalize w.heap.size = b2 at b1 ⊢
  have hra : W0.rangeAt b2 3 [.int .i64 1, .int .i64 a, .int .i64 k, .int .i64 verts, .int .i64 arcs, .int .i64 workers, .int .i64 room, .int .i64 res, .int .i64 lex, .int .i64 hh, .int .i64 flag, .int .i64 pending, .int .i64 ask, .int .i64 count, .int .i64 sense, .int .i64 deques, .int .i64 size, .int .i64 0, .int .i64 t, .int .i64 b, .int .i64 x, .bool false, .bool g, .bool of] := by
    intro j u hj
    rw [b1.cell, Nat.add_comm]
    simpa using hj
  have hZm := Blk.new W0 #[.int .i64 0, .int .i64 0, .int .i64 0, .int .i64 0, .int .i64 0, .int .i64 0, .int .i64 0, .int .i64 0, .int .i64 0, .int .i64 0, .int .i64 0, .int .i64 0, .int .i64 0, .int .i64 0, .int .i64 0, .int .i64 0, .int .i64 0, .int .i64 0, .int .i64 0, .int .i64 0, .int .i64 0, .bool false, .bool false, .bool false] 73
  have hthm := Blk.there hZm 24 rfl
  obtain ⟨W1, hWm⟩ : ∃ W', (W0.alloc (.cells #[.int .i64 0, .int .i64 0, .int .i64 0, .int .i64 0, .int .i64 0, .int .i64 0, .int .i64 0, .int .i64 0, .int .i64 0, .int .i64 0, .int .i64 0, .int .i64 0, .int .i64 0, .int .i64 0, .int .i64 0, .int .i64 0, .int .i64 0, .int .i64 0, .int .i64 0, .int .i64 0, .int .i64 0, .bool false, .bool false, .bool false] 73)).setCells W0.heap.size 0 [.int .i64 1, .int .i64 a, .int .i64 k, .int .i64 verts, .int .i64 arcs, .int .i64 workers, .int .i64 room, .int .i64 res, .int .i64 lex, .int .i64 hh, .int .i64 flag, .int .i64 pending, .int .i64 ask, .int .i64 count, .int .i64 sense, .int .i64 deques, .int .i64 size, .int .i64 0, .int .i64 t, .int .i64 b, .int .i64 x, .bool false, .bool g, .bool of] = W' := ⟨_, rfl⟩
  have hBm : Blk W1 W0.heap.size #[.int .i64 1, .int .i64 a, .int .i64 k, .int .i64 verts, .int .i64 arcs, .int .i64 workers, .int .i64 room, .int .i64 res, .int .i64 lex, .int .i64 hh, .int .i64 flag, .int .i64 pending, .int .i64 ask, .int .i64 count, .int .i64 sense, .int .i64 deques, .int .i64 size, .int .i64 0, .int .i64 t, .int .i64 b, .int .i64 x, .bool false, .bool g, .bool of] 73 ∧ Upd (fun k => k = W0.heap.size) (W0.alloc (.cells #[.int .i64 0, .int .i64 0, .int .i64 0, .int .i64 0, .int .i64 0, .int .i64 0, .int .i64 0, .int .i64 0, .int .i64 0, .int .i64 0, .int .i64 0, .int .i64 0, .int .i64 0, .int .i64 0, .int .i64 0, .int .i64 0, .int .i64 0, .int .i64 0, .int .i64 0, .int .i64 0, .int .i64 0, .bool false, .bool false, .bool false] 73)) W1 := by rw [← hWm]; exact Blk.alls hZm [.int .i64 1, .int .i64 a, .int .i64 k, .int .i64 verts, .int .i64 arcs, .int .i64 workers, .int .i64 room, .int .i64 res, .int .i64 lex, .int .i64 hh, .int .i64 flag, .int .i64 pending, .int .i64 ask, .int .i64 count, .int .i64 sense, .int .i64 deques, .int .i64 size, .int .i64 0, .int .i64 t, .int .i64 b, .int .i64 x, .bool false, .bool g, .bool of] rfl
  have hKm : Kept W0 W1 := (((Upd.refl (fun _ => False) W0).alloc _).then hBm.2 (fun i hi e => by omega))
  have hsm := HZ24.out
  have HS := Lib.hid (b1.kept hKm)
  have HK := Lib.hid (k1.trans hKm)
  have HM := Lib.hid hBm.1
  clear b1 k1 hBm hKm hZm
  go_upto_region 2 with (first | (refine wpList_load_mid rfl _ _ rfl b2 3 rfl [.int .i64 1, .int .i64 a, .int .i64 k, .int .i64 verts, .int .i64 arcs, .int .i64 workers, .int .i64 room, .int .i64 res, .int .i64 lex, .int .i64 hh, .int .i64 flag, .int .i64 pending, .int .i64 ask, .int .i64 count, .int .i64 sense, .int .i64 deques, .int .i64 size, .int .i64 0, .int .i64 t, .int .i64 b, .int .i64 x, .bool false, .bool g, .bool of] _ hra Try.underlying73 rfl HZ24.out ?_) | (refine wpList_store_mid rfl _ _ _ rfl W0.heap.size 0 #[.int .i64 1, .int .i64 a, .int .i64 k, .int .i64 verts, .int .i64 arcs, .int .i64 workers, .int .i64 room, .int .i64 res, .int .i64 lex, .int .i64 hh, .int .i64 flag, .int .i64 pending, .int .i64 ask, .int .i64 count, .int .i64 sense, .int .i64 deques, .int .i64 size, .int .i64 0, .int .i64 t, .int .i64 b, .int .i64 x, .bool false, .bool g, .bool of] rfl rfl hthm hsm (all_oneCell_toArray (cs := [.int .i64 1, .int .i64 a, .int .i64 k, .int .i64 verts, .int .i64 arcs, .int .i64 workers, .int .i64 room, .int .i64 res, .int .i64 lex, .int .i64 hh, .int .i64 flag, .int .i64 pending, .int .i64 ask, .int .i64 count, .int .i64 sense, .int .i64 deques, .int .i64 size, .int .i64 0, .int .i64 t, .int .i64 b, .int .i64 x, .bool false, .bool g, .bool of]) (by simp [Value.oneCell'])) ?_; simp only [hWm]) | fail)
  simp only [Act.put]
  clear hra hthm hWm hsm
  generalize W0.heap.size = mx at HM ⊢
  have cm : ∀ i : Nat, W1.cell? ⟨mx, i, none⟩ = (#[.int .i64 1, .int .i64 a, .int .i64 k, .int .i64 verts, .int .i64 arcs, .int .i64 workers, .int .i64 room, .int .i64 res, .int .i64 lex, .int .i64 hh, .int .i64 flag, .int .i64 pending, .int .i64 ask, .int .i64 count, .int .i64 sense, .int .i64 deques, .int .i64 size, .int .i64 0, .int .i64 t, .int .i64 b, .int .i64 x, .bool false, .bool g, .bool of] : Array Value)[i]? := HM.out.cell
  have cs : ∀ i : Nat, W1.cell? ⟨b2, i, none⟩ = (#[.pointer none, .pointer (some ⟨mb, 0, none⟩), .pointer none, .int .i64 1, .int .i64 a, .int .i64 k, .int .i64 verts, .int .i64 arcs, .int .i64 workers, .int .i64 room, .int .i64 res, .int .i64 lex, .int .i64 hh, .int .i64 flag, .int .i64 pending, .int .i64 ask, .int .i64 count, .int .i64 sense, .int .i64 deques, .int .i64 size, .int .i64 0, .int .i64 t, .int .i64 b, .int .i64 x, .bool false, .bool g, .bool of] : Array Value)[i]? := HS.out.cell
  go_wp2_with fail
  refine (HC _ HK.out).out.mono ?_
  rintro e w5 ⟨rfl, rfl⟩
  go_wp2_with fail
  go_ret
  exact ⟨by simp, HK.out⟩

set_option maxRecDepth 100000 in
set_option maxHeartbeats 8000000 in
theorem fits_pop_tf {w : World} {mb : Nat} {l : Lay} {k : Int} (a t b x : Int) (of : Bool) (h : PB w mb 51 l k ⟨a, t, b, x, true, false⟩ []) :
    Calls Try.prog 52 #[.agg (([.pointer none, .pointer (some ⟨mb, 0, none⟩), .pointer none] : List Value) ++ RMA l k 0 1 a t b x true false of).toArray, .bool true] w fun e w' => e = .returned (.bool true) ∧ Kept w w' := by
  have HC := fun (w1 : World) (hk : Kept w w1) => Lib.hid (show Calls Try.prog 22 #[.pointer (some ⟨mb, 0, none⟩)] w1 (fun e w' => e = .returned (.tuple #[.int .i64 0, .bool false]) ∧ w1 = w') from pop_got (PB.kept h hk))
  clear h
  obtain ⟨verts, arcs, workers, room, res, lex, hh, flag, pending, ask, count, sense, deques, size⟩ := l
  simp only [RMA, List.cons_append, List.nil_append]
  have HZ24 : Hid ((Try.prog.info? 73).map (·.size) = some 24) := Lib.hid (by kernel_rfl)
  have b1 := Blk.new w #[.pointer none, .pointer (some ⟨mb, 0, none⟩), .pointer none, .int .i64 1, .int .i64 a, .int .i64 k, .int .i64 verts, .int .i64 arcs, .int .i64 workers, .int .i64 room, .int .i64 res, .int .i64 lex, .int .i64 hh, .int .i64 flag, .int .i64 pending, .int .i64 ask, .int .i64 count, .int .i64 sense, .int .i64 deques, .int .i64 size, .int .i64 0, .int .i64 t, .int .i64 b, .int .i64 x, .bool true, .bool false, .bool of] 75
  have k1 := (Upd.refl (fun _ => False) w).alloc (.cells #[.pointer none, .pointer (some ⟨mb, 0, none⟩), .pointer none, .int .i64 1, .int .i64 a, .int .i64 k, .int .i64 verts, .int .i64 arcs, .int .i64 workers, .int .i64 room, .int .i64 res, .int .i64 lex, .int .i64 hh, .int .i64 flag, .int .i64 pending, .int .i64 ask, .int .i64 count, .int .i64 sense, .int .i64 deques, .int .i64 size, .int .i64 0, .int .i64 t, .int .i64 b, .int .i64 x, .bool true, .bool false, .bool of] 75)
  go_enter Try.func52, Try.ntmps52
  go_upto_region 1 with (fail)
  generalize (w.alloc (.cells #[.pointer none, .pointer (some ⟨mb, 0, none⟩), .pointer none, .int .i64 1, .int .i64 a, .int .i64 k, .int .i64 verts, .int .i64 arcs, .int .i64 workers, .int .i64 room, .int .i64 res, .int .i64 lex, .int .i64 hh, .int .i64 flag, .int .i64 pending, .int .i64 ask, .int .i64 count, .int .i64 sense, .int .i64 deques, .int .i64 size, .int .i64 0, .int .i64 t, .int .i64 b, .int .i64 x, .bool true, .bool false, .bool of] 75)) = W0 at b1 k1 ⊢
  generalize w.heap.size = b2 at b1 ⊢
  have hra : W0.rangeAt b2 3 [.int .i64 1, .int .i64 a, .int .i64 k, .int .i64 verts, .int .i64 arcs, .int .i64 workers, .int .i64 room, .int .i64 res, .int .i64 lex, .int .i64 hh, .int .i64 flag, .int .i64 pending, .int .i64 ask, .int .i64 count, .int .i64 sense, .int .i64 deques, .int .i64 size, .int .i64 0, .int .i64 t, .int .i64 b, .int .i64 x, .bool true, .bool false, .bool of] := by
    intro j u hj
    rw [b1.cell, Nat.add_comm]
    simpa using hj
  have hZm := Blk.new W0 #[.int .i64 0, .int .i64 0, .int .i64 0, .int .i64 0, .int .i64 0, .int .i64 0, .int .i64 0, .int .i64 0, .int .i64 0, .int .i64 0, .int .i64 0, .int .i64 0, .int .i64 0, .int .i64 0, .int .i64 0, .int .i64 0, .int .i64 0, .int .i64 0, .int .i64 0, .int .i64 0, .int .i64 0, .bool false, .bool false, .bool false] 73
  have hthm := Blk.there hZm 24 rfl
  obtain ⟨W1, hWm⟩ : ∃ W', (W0.alloc (.cells #[.int .i64 0, .int .i64 0, .int .i64 0, .int .i64 0, .int .i64 0, .int .i64 0, .int .i64 0, .int .i64 0, .int .i64 0, .int .i64 0, .int .i64 0, .int .i64 0, .int .i64 0, .int .i64 0, .int .i64 0, .int .i64 0, .int .i64 0, .int .i64 0, .int .i64 0, .int .i64 0, .int .i64 0, .bool false, .bool false, .bool false] 73)).setCells W0.heap.size 0 [.int .i64 1, .int .i64 a, .int .i64 k, .int .i64 verts, .int .i64 arcs, .int .i64 workers, .int .i64 room, .int .i64 res, .int .i64 lex, .int .i64 hh, .int .i64 flag, .int .i64 pending, .int .i64 ask, .int .i64 count, .int .i64 sense, .int .i64 deques, .int .i64 size, .int .i64 0, .int .i64 t, .int .i64 b, .int .i64 x, .bool true, .bool false, .bool of] = W' := ⟨_, rfl⟩
  have hBm : Blk W1 W0.heap.size #[.int .i64 1, .int .i64 a, .int .i64 k, .int .i64 verts, .int .i64 arcs, .int .i64 workers, .int .i64 room, .int .i64 res, .int .i64 lex, .int .i64 hh, .int .i64 flag, .int .i64 pending, .int .i64 ask, .int .i64 count, .int .i64 sense, .int .i64 deques, .int .i64 size, .int .i64 0, .int .i64 t, .int .i64 b, .int .i64 x, .bool true, .bool false, .bool of] 73 ∧ Upd (fun k => k = W0.heap.size) (W0.alloc (.cells #[.int .i64 0, .int .i64 0, .int .i64 0, .int .i64 0, .int .i64 0, .int .i64 0, .int .i64 0, .int .i64 0, .int .i64 0, .int .i64 0, .int .i64 0, .int .i64 0, .int .i64 0, .int .i64 0, .int .i64 0, .int .i64 0, .int .i64 0, .int .i64 0, .int .i64 0, .int .i64 0, .int .i64 0, .bool false, .bool false, .bool false] 73)) W1 := by rw [← hWm]; exact Blk.alls hZm [.int .i64 1, .int .i64 a, .int .i64 k, .int .i64 verts, .int .i64 arcs, .int .i64 workers, .int .i64 room, .int .i64 res, .int .i64 lex, .int .i64 hh, .int .i64 flag, .int .i64 pending, .int .i64 ask, .int .i64 count, .int .i64 sense, .int .i64 deques, .int .i64 size, .int .i64 0, .int .i64 t, .int .i64 b, .int .i64 x, .bool true, .bool false, .bool of] rfl
  have hKm : Kept W0 W1 := (((Upd.refl (fun _ => False) W0).alloc _).then hBm.2 (fun i hi e => by omega))
  have hsm := HZ24.out
  have HS := Lib.hid (b1.kept hKm)
  have HK := Lib.hid (k1.trans hKm)
  have HM := Lib.hid hBm.1
  clear b1 k1 hBm hKm hZm
  go_upto_region 2 with (first | (refine wpList_load_mid rfl _ _ rfl b2 3 rfl [.int .i64 1, .int .i64 a, .int .i64 k, .int .i64 verts, .int .i64 arcs, .int .i64 workers, .int .i64 room, .int .i64 res, .int .i64 lex, .int .i64 hh, .int .i64 flag, .int .i64 pending, .int .i64 ask, .int .i64 count, .int .i64 sense, .int .i64 deques, .int .i64 size, .int .i64 0, .int .i64 t, .int .i64 b, .int .i64 x, .bool true, .bool false, .bool of] _ hra Try.underlying73 rfl HZ24.out ?_) | (refine wpList_store_mid rfl _ _ _ rfl W0.heap.size 0 #[.int .i64 1, .int .i64 a, .int .i64 k, .int .i64 verts, .int .i64 arcs, .int .i64 workers, .int .i64 room, .int .i64 res, .int .i64 lex, .int .i64 hh, .int .i64 flag, .int .i64 pending, .int .i64 ask, .int .i64 count, .int .i64 sense, .int .i64 deques, .int .i64 size, .int .i64 0, .int .i64 t, .int .i64 b, .int .i64 x, .bool true, .bool false, .bool of] rfl rfl hthm hsm (all_oneCell_toArray (cs := [.int .i64 1, .int .i64 a, .int .i64 k, .int .i64 verts, .int .i64 arcs, .int .i64 workers, .int .i64 room, .int .i64 res, .int .i64 lex, .int .i64 hh, .int .i64 flag, .int .i64 pending, .int .i64 ask, .int .i64 count, .int .i64 sense, .int .i64 deques, .int .i64 size, .int .i64 0, .int .i64 t, .int .i64 b, .int .i64 x, .bool true, .bool false, .bool of]) (by simp [Value.oneCell'])) ?_; simp only [hWm]) | fail)
  simp only [Act.put]
  clear hra hthm hWm hsm
  generalize W0.heap.size = mx at HM ⊢
  have cm : ∀ i : Nat, W1.cell? ⟨mx, i, none⟩ = (#[.int .i64 1, .int .i64 a, .int .i64 k, .int .i64 verts, .int .i64 arcs, .int .i64 workers, .int .i64 room, .int .i64 res, .int .i64 lex, .int .i64 hh, .int .i64 flag, .int .i64 pending, .int .i64 ask, .int .i64 count, .int .i64 sense, .int .i64 deques, .int .i64 size, .int .i64 0, .int .i64 t, .int .i64 b, .int .i64 x, .bool true, .bool false, .bool of] : Array Value)[i]? := HM.out.cell
  have cs : ∀ i : Nat, W1.cell? ⟨b2, i, none⟩ = (#[.pointer none, .pointer (some ⟨mb, 0, none⟩), .pointer none, .int .i64 1, .int .i64 a, .int .i64 k, .int .i64 verts, .int .i64 arcs, .int .i64 workers, .int .i64 room, .int .i64 res, .int .i64 lex, .int .i64 hh, .int .i64 flag, .int .i64 pending, .int .i64 ask, .int .i64 count, .int .i64 sense, .int .i64 deques, .int .i64 size, .int .i64 0, .int .i64 t, .int .i64 b, .int .i64 x, .bool true, .bool false, .bool of] : Array Value)[i]? := HS.out.cell
  go_wp2_with fail
  refine (HC _ HK.out).out.mono ?_
  rintro e w5 ⟨rfl, rfl⟩
  go_wp2_with fail
  go_ret
  exact ⟨by simp, HK.out⟩

set_option maxRecDepth 100000 in
set_option maxHeartbeats 8000000 in
theorem fits_pop_tt {w : World} {mb : Nat} {l : Lay} {k : Int} (a t b x : Int) (of : Bool) (h : PB w mb 51 l k ⟨a, t, b, x, true, true⟩ []) :
    Calls Try.prog 52 #[.agg (([.pointer none, .pointer (some ⟨mb, 0, none⟩), .pointer none] : List Value) ++ RMA l k 0 1 a t b x true true of).toArray, .bool true] w fun e w' => e = .returned (.bool true) ∧ Kept w w' := by
  have HC := fun (w1 : World) (hk : Kept w w1) => Lib.hid (show Calls Try.prog 22 #[.pointer (some ⟨mb, 0, none⟩)] w1 (fun e w' => e = .returned (.tuple #[.int .i64 x, .bool true]) ∧ w1 = w') from pop_got (PB.kept h hk))
  clear h
  obtain ⟨verts, arcs, workers, room, res, lex, hh, flag, pending, ask, count, sense, deques, size⟩ := l
  simp only [RMA, List.cons_append, List.nil_append]
  have HZ24 : Hid ((Try.prog.info? 73).map (·.size) = some 24) := Lib.hid (by kernel_rfl)
  have b1 := Blk.new w #[.pointer none, .pointer (some ⟨mb, 0, none⟩), .pointer none, .int .i64 1, .int .i64 a, .int .i64 k, .int .i64 verts, .int .i64 arcs, .int .i64 workers, .int .i64 room, .int .i64 res, .int .i64 lex, .int .i64 hh, .int .i64 flag, .int .i64 pending, .int .i64 ask, .int .i64 count, .int .i64 sense, .int .i64 deques, .int .i64 size, .int .i64 0, .int .i64 t, .int .i64 b, .int .i64 x, .bool true, .bool true, .bool of] 75
  have k1 := (Upd.refl (fun _ => False) w).alloc (.cells #[.pointer none, .pointer (some ⟨mb, 0, none⟩), .pointer none, .int .i64 1, .int .i64 a, .int .i64 k, .int .i64 verts, .int .i64 arcs, .int .i64 workers, .int .i64 room, .int .i64 res, .int .i64 lex, .int .i64 hh, .int .i64 flag, .int .i64 pending, .int .i64 ask, .int .i64 count, .int .i64 sense, .int .i64 deques, .int .i64 size, .int .i64 0, .int .i64 t, .int .i64 b, .int .i64 x, .bool true, .bool true, .bool of] 75)
  go_enter Try.func52, Try.ntmps52
  go_upto_region 1 with (fail)
  generalize (w.alloc (.cells #[.pointer none, .pointer (some ⟨mb, 0, none⟩), .pointer none, .int .i64 1, .int .i64 a, .int .i64 k, .int .i64 verts, .int .i64 arcs, .int .i64 workers, .int .i64 room, .int .i64 res, .int .i64 lex, .int .i64 hh, .int .i64 flag, .int .i64 pending, .int .i64 ask, .int .i64 count, .int .i64 sense, .int .i64 deques, .int .i64 size, .int .i64 0, .int .i64 t, .int .i64 b, .int .i64 x, .bool true, .bool true, .bool of] 75)) = W0 at b1 k1 ⊢
  generalize w.heap.size = b2 at b1 ⊢
  have hra : W0.rangeAt b2 3 [.int .i64 1, .int .i64 a, .int .i64 k, .int .i64 verts, .int .i64 arcs, .int .i64 workers, .int .i64 room, .int .i64 res, .int .i64 lex, .int .i64 hh, .int .i64 flag, .int .i64 pending, .int .i64 ask, .int .i64 count, .int .i64 sense, .int .i64 deques, .int .i64 size, .int .i64 0, .int .i64 t, .int .i64 b, .int .i64 x, .bool true, .bool true, .bool of] := by
    intro j u hj
    rw [b1.cell, Nat.add_comm]
    simpa using hj
  have hZm := Blk.new W0 #[.int .i64 0, .int .i64 0, .int .i64 0, .int .i64 0, .int .i64 0, .int .i64 0, .int .i64 0, .int .i64 0, .int .i64 0, .int .i64 0, .int .i64 0, .int .i64 0, .int .i64 0, .int .i64 0, .int .i64 0, .int .i64 0, .int .i64 0, .int .i64 0, .int .i64 0, .int .i64 0, .int .i64 0, .bool false, .bool false, .bool false] 73
  have hthm := Blk.there hZm 24 rfl
  obtain ⟨W1, hWm⟩ : ∃ W', (W0.alloc (.cells #[.int .i64 0, .int .i64 0, .int .i64 0, .int .i64 0, .int .i64 0, .int .i64 0, .int .i64 0, .int .i64 0, .int .i64 0, .int .i64 0, .int .i64 0, .int .i64 0, .int .i64 0, .int .i64 0, .int .i64 0, .int .i64 0, .int .i64 0, .int .i64 0, .int .i64 0, .int .i64 0, .int .i64 0, .bool false, .bool false, .bool false] 73)).setCells W0.heap.size 0 [.int .i64 1, .int .i64 a, .int .i64 k, .int .i64 verts, .int .i64 arcs, .int .i64 workers, .int .i64 room, .int .i64 res, .int .i64 lex, .int .i64 hh, .int .i64 flag, .int .i64 pending, .int .i64 ask, .int .i64 count, .int .i64 sense, .int .i64 deques, .int .i64 size, .int .i64 0, .int .i64 t, .int .i64 b, .int .i64 x, .bool true, .bool true, .bool of] = W' := ⟨_, rfl⟩
  have hBm : Blk W1 W0.heap.size #[.int .i64 1, .int .i64 a, .int .i64 k, .int .i64 verts, .int .i64 arcs, .int .i64 workers, .int .i64 room, .int .i64 res, .int .i64 lex, .int .i64 hh, .int .i64 flag, .int .i64 pending, .int .i64 ask, .int .i64 count, .int .i64 sense, .int .i64 deques, .int .i64 size, .int .i64 0, .int .i64 t, .int .i64 b, .int .i64 x, .bool true, .bool true, .bool of] 73 ∧ Upd (fun k => k = W0.heap.size) (W0.alloc (.cells #[.int .i64 0, .int .i64 0, .int .i64 0, .int .i64 0, .int .i64 0, .int .i64 0, .int .i64 0, .int .i64 0, .int .i64 0, .int .i64 0, .int .i64 0, .int .i64 0, .int .i64 0, .int .i64 0, .int .i64 0, .int .i64 0, .int .i64 0, .int .i64 0, .int .i64 0, .int .i64 0, .int .i64 0, .bool false, .bool false, .bool false] 73)) W1 := by rw [← hWm]; exact Blk.alls hZm [.int .i64 1, .int .i64 a, .int .i64 k, .int .i64 verts, .int .i64 arcs, .int .i64 workers, .int .i64 room, .int .i64 res, .int .i64 lex, .int .i64 hh, .int .i64 flag, .int .i64 pending, .int .i64 ask, .int .i64 count, .int .i64 sense, .int .i64 deques, .int .i64 size, .int .i64 0, .int .i64 t, .int .i64 b, .int .i64 x, .bool true, .bool true, .bool of] rfl
  have hKm : Kept W0 W1 := (((Upd.refl (fun _ => False) W0).alloc _).then hBm.2 (fun i hi e => by omega))
  have hsm := HZ24.out
  have HS := Lib.hid (b1.kept hKm)
  have HK := Lib.hid (k1.trans hKm)
  have HM := Lib.hid hBm.1
  clear b1 k1 hBm hKm hZm
  go_upto_region 2 with (first | (refine wpList_load_mid rfl _ _ rfl b2 3 rfl [.int .i64 1, .int .i64 a, .int .i64 k, .int .i64 verts, .int .i64 arcs, .int .i64 workers, .int .i64 room, .int .i64 res, .int .i64 lex, .int .i64 hh, .int .i64 flag, .int .i64 pending, .int .i64 ask, .int .i64 count, .int .i64 sense, .int .i64 deques, .int .i64 size, .int .i64 0, .int .i64 t, .int .i64 b, .int .i64 x, .bool true, .bool true, .bool of] _ hra Try.underlying73 rfl HZ24.out ?_) | (refine wpList_store_mid rfl _ _ _ rfl W0.heap.size 0 #[.int .i64 1, .int .i64 a, .int .i64 k, .int .i64 verts, .int .i64 arcs, .int .i64 workers, .int .i64 room, .int .i64 res, .int .i64 lex, .int .i64 hh, .int .i64 flag, .int .i64 pending, .int .i64 ask, .int .i64 count, .int .i64 sense, .int .i64 deques, .int .i64 size, .int .i64 0, .int .i64 t, .int .i64 b, .int .i64 x, .bool true, .bool true, .bool of] rfl rfl hthm hsm (all_oneCell_toArray (cs := [.int .i64 1, .int .i64 a, .int .i64 k, .int .i64 verts, .int .i64 arcs, .int .i64 workers, .int .i64 room, .int .i64 res, .int .i64 lex, .int .i64 hh, .int .i64 flag, .int .i64 pending, .int .i64 ask, .int .i64 count, .int .i64 sense, .int .i64 deques, .int .i64 size, .int .i64 0, .int .i64 t, .int .i64 b, .int .i64 x, .bool true, .bool true, .bool of]) (by simp [Value.oneCell'])) ?_; simp only [hWm]) | fail)
  simp only [Act.put]
  clear hra hthm hWm hsm
  generalize W0.heap.size = mx at HM ⊢
  have cm : ∀ i : Nat, W1.cell? ⟨mx, i, none⟩ = (#[.int .i64 1, .int .i64 a, .int .i64 k, .int .i64 verts, .int .i64 arcs, .int .i64 workers, .int .i64 room, .int .i64 res, .int .i64 lex, .int .i64 hh, .int .i64 flag, .int .i64 pending, .int .i64 ask, .int .i64 count, .int .i64 sense, .int .i64 deques, .int .i64 size, .int .i64 0, .int .i64 t, .int .i64 b, .int .i64 x, .bool true, .bool true, .bool of] : Array Value)[i]? := HM.out.cell
  have cs : ∀ i : Nat, W1.cell? ⟨b2, i, none⟩ = (#[.pointer none, .pointer (some ⟨mb, 0, none⟩), .pointer none, .int .i64 1, .int .i64 a, .int .i64 k, .int .i64 verts, .int .i64 arcs, .int .i64 workers, .int .i64 room, .int .i64 res, .int .i64 lex, .int .i64 hh, .int .i64 flag, .int .i64 pending, .int .i64 ask, .int .i64 count, .int .i64 sense, .int .i64 deques, .int .i64 size, .int .i64 0, .int .i64 t, .int .i64 b, .int .i64 x, .bool true, .bool true, .bool of] : Array Value)[i]? := HS.out.cell
  go_wp2_with fail
  refine (HC _ HK.out).out.mono ?_
  rintro e w5 ⟨rfl, rfl⟩
  go_wp2_with fail
  go_ret
  exact ⟨by simp, HK.out⟩

set_option maxRecDepth 100000 in
set_option maxHeartbeats 8000000 in
theorem fits_steal_fg {w : World} {mb : Nat} {l : Lay} {k : Int} (a t b x : Int) (g : Bool) (of : Bool) (h : PB w mb 45 l k ⟨a, t, b, x, false, g⟩ [.bool of]) :
    Calls Try.prog 52 #[.agg (([.pointer none, .pointer none, .pointer (some ⟨mb, 0, none⟩)] : List Value) ++ RMA l k 0 2 a t b x false g of).toArray, .bool false] w fun e w' => e = .returned (.bool true) ∧ Kept w w' := by
  have HC := fun (w1 : World) (hk : Kept w w1) => Lib.hid (show Calls Try.prog 23 #[.pointer (some ⟨mb, 0, none⟩)] w1 (fun e w' => e = .returned (.tuple #[.int .i64 0, .bool false]) ∧ w1 = w') from steal_got (PB.kept h hk))
  have HD := fun (w1 : World) (hk : Kept w w1) => Lib.hid (steal_lost (PB.kept h hk))
  clear h
  obtain ⟨verts, arcs, workers, room, res, lex, hh, flag, pending, ask, count, sense, deques, size⟩ := l
  simp only [RMA, List.cons_append, List.nil_append]
  have HZ24 : Hid ((Try.prog.info? 73).map (·.size) = some 24) := Lib.hid (by kernel_rfl)
  have b1 := Blk.new w #[.pointer none, .pointer none, .pointer (some ⟨mb, 0, none⟩), .int .i64 2, .int .i64 a, .int .i64 k, .int .i64 verts, .int .i64 arcs, .int .i64 workers, .int .i64 room, .int .i64 res, .int .i64 lex, .int .i64 hh, .int .i64 flag, .int .i64 pending, .int .i64 ask, .int .i64 count, .int .i64 sense, .int .i64 deques, .int .i64 size, .int .i64 0, .int .i64 t, .int .i64 b, .int .i64 x, .bool false, .bool g, .bool of] 75
  have k1 := (Upd.refl (fun _ => False) w).alloc (.cells #[.pointer none, .pointer none, .pointer (some ⟨mb, 0, none⟩), .int .i64 2, .int .i64 a, .int .i64 k, .int .i64 verts, .int .i64 arcs, .int .i64 workers, .int .i64 room, .int .i64 res, .int .i64 lex, .int .i64 hh, .int .i64 flag, .int .i64 pending, .int .i64 ask, .int .i64 count, .int .i64 sense, .int .i64 deques, .int .i64 size, .int .i64 0, .int .i64 t, .int .i64 b, .int .i64 x, .bool false, .bool g, .bool of] 75)
  go_enter Try.func52, Try.ntmps52
  go_upto_region 1 with (fail)
  generalize (w.alloc (.cells #[.pointer none, .pointer none, .pointer (some ⟨mb, 0, none⟩), .int .i64 2, .int .i64 a, .int .i64 k, .int .i64 verts, .int .i64 arcs, .int .i64 workers, .int .i64 room, .int .i64 res, .int .i64 lex, .int .i64 hh, .int .i64 flag, .int .i64 pending, .int .i64 ask, .int .i64 count, .int .i64 sense, .int .i64 deques, .int .i64 size, .int .i64 0, .int .i64 t, .int .i64 b, .int .i64 x, .bool false, .bool g, .bool of] 75)) = W0 at b1 k1 ⊢
  generalize w.heap.size = b2 at b1 ⊢
  have hra : W0.rangeAt b2 3 [.int .i64 2, .int .i64 a, .int .i64 k, .int .i64 verts, .int .i64 arcs, .int .i64 workers, .int .i64 room, .int .i64 res, .int .i64 lex, .int .i64 hh, .int .i64 flag, .int .i64 pending, .int .i64 ask, .int .i64 count, .int .i64 sense, .int .i64 deques, .int .i64 size, .int .i64 0, .int .i64 t, .int .i64 b, .int .i64 x, .bool false, .bool g, .bool of] := by
    intro j u hj
    rw [b1.cell, Nat.add_comm]
    simpa using hj
  have hZm := Blk.new W0 #[.int .i64 0, .int .i64 0, .int .i64 0, .int .i64 0, .int .i64 0, .int .i64 0, .int .i64 0, .int .i64 0, .int .i64 0, .int .i64 0, .int .i64 0, .int .i64 0, .int .i64 0, .int .i64 0, .int .i64 0, .int .i64 0, .int .i64 0, .int .i64 0, .int .i64 0, .int .i64 0, .int .i64 0, .bool false, .bool false, .bool false] 73
  have hthm := Blk.there hZm 24 rfl
  obtain ⟨W1, hWm⟩ : ∃ W', (W0.alloc (.cells #[.int .i64 0, .int .i64 0, .int .i64 0, .int .i64 0, .int .i64 0, .int .i64 0, .int .i64 0, .int .i64 0, .int .i64 0, .int .i64 0, .int .i64 0, .int .i64 0, .int .i64 0, .int .i64 0, .int .i64 0, .int .i64 0, .int .i64 0, .int .i64 0, .int .i64 0, .int .i64 0, .int .i64 0, .bool false, .bool false, .bool false] 73)).setCells W0.heap.size 0 [.int .i64 2, .int .i64 a, .int .i64 k, .int .i64 verts, .int .i64 arcs, .int .i64 workers, .int .i64 room, .int .i64 res, .int .i64 lex, .int .i64 hh, .int .i64 flag, .int .i64 pending, .int .i64 ask, .int .i64 count, .int .i64 sense, .int .i64 deques, .int .i64 size, .int .i64 0, .int .i64 t, .int .i64 b, .int .i64 x, .bool false, .bool g, .bool of] = W' := ⟨_, rfl⟩
  have hBm : Blk W1 W0.heap.size #[.int .i64 2, .int .i64 a, .int .i64 k, .int .i64 verts, .int .i64 arcs, .int .i64 workers, .int .i64 room, .int .i64 res, .int .i64 lex, .int .i64 hh, .int .i64 flag, .int .i64 pending, .int .i64 ask, .int .i64 count, .int .i64 sense, .int .i64 deques, .int .i64 size, .int .i64 0, .int .i64 t, .int .i64 b, .int .i64 x, .bool false, .bool g, .bool of] 73 ∧ Upd (fun k => k = W0.heap.size) (W0.alloc (.cells #[.int .i64 0, .int .i64 0, .int .i64 0, .int .i64 0, .int .i64 0, .int .i64 0, .int .i64 0, .int .i64 0, .int .i64 0, .int .i64 0, .int .i64 0, .int .i64 0, .int .i64 0, .int .i64 0, .int .i64 0, .int .i64 0, .int .i64 0, .int .i64 0, .int .i64 0, .int .i64 0, .int .i64 0, .bool false, .bool false, .bool false] 73)) W1 := by rw [← hWm]; exact Blk.alls hZm [.int .i64 2, .int .i64 a, .int .i64 k, .int .i64 verts, .int .i64 arcs, .int .i64 workers, .int .i64 room, .int .i64 res, .int .i64 lex, .int .i64 hh, .int .i64 flag, .int .i64 pending, .int .i64 ask, .int .i64 count, .int .i64 sense, .int .i64 deques, .int .i64 size, .int .i64 0, .int .i64 t, .int .i64 b, .int .i64 x, .bool false, .bool g, .bool of] rfl
  have hKm : Kept W0 W1 := (((Upd.refl (fun _ => False) W0).alloc _).then hBm.2 (fun i hi e => by omega))
  have hsm := HZ24.out
  have HS := Lib.hid (b1.kept hKm)
  have HK := Lib.hid (k1.trans hKm)
  have HM := Lib.hid hBm.1
  clear b1 k1 hBm hKm hZm
  go_upto_region 2 with (first | (refine wpList_load_mid rfl _ _ rfl b2 3 rfl [.int .i64 2, .int .i64 a, .int .i64 k, .int .i64 verts, .int .i64 arcs, .int .i64 workers, .int .i64 room, .int .i64 res, .int .i64 lex, .int .i64 hh, .int .i64 flag, .int .i64 pending, .int .i64 ask, .int .i64 count, .int .i64 sense, .int .i64 deques, .int .i64 size, .int .i64 0, .int .i64 t, .int .i64 b, .int .i64 x, .bool false, .bool g, .bool of] _ hra Try.underlying73 rfl HZ24.out ?_) | (refine wpList_store_mid rfl _ _ _ rfl W0.heap.size 0 #[.int .i64 2, .int .i64 a, .int .i64 k, .int .i64 verts, .int .i64 arcs, .int .i64 workers, .int .i64 room, .int .i64 res, .int .i64 lex, .int .i64 hh, .int .i64 flag, .int .i64 pending, .int .i64 ask, .int .i64 count, .int .i64 sense, .int .i64 deques, .int .i64 size, .int .i64 0, .int .i64 t, .int .i64 b, .int .i64 x, .bool false, .bool g, .bool of] rfl rfl hthm hsm (all_oneCell_toArray (cs := [.int .i64 2, .int .i64 a, .int .i64 k, .int .i64 verts, .int .i64 arcs, .int .i64 workers, .int .i64 room, .int .i64 res, .int .i64 lex, .int .i64 hh, .int .i64 flag, .int .i64 pending, .int .i64 ask, .int .i64 count, .int .i64 sense, .int .i64 deques, .int .i64 size, .int .i64 0, .int .i64 t, .int .i64 b, .int .i64 x, .bool false, .bool g, .bool of]) (by simp [Value.oneCell'])) ?_; simp only [hWm]) | fail)
  simp only [Act.put]
  clear hra hthm hWm hsm
  generalize W0.heap.size = mx at HM ⊢
  have cm : ∀ i : Nat, W1.cell? ⟨mx, i, none⟩ = (#[.int .i64 2, .int .i64 a, .int .i64 k, .int .i64 verts, .int .i64 arcs, .int .i64 workers, .int .i64 room, .int .i64 res, .int .i64 lex, .int .i64 hh, .int .i64 flag, .int .i64 pending, .int .i64 ask, .int .i64 count, .int .i64 sense, .int .i64 deques, .int .i64 size, .int .i64 0, .int .i64 t, .int .i64 b, .int .i64 x, .bool false, .bool g, .bool of] : Array Value)[i]? := HM.out.cell
  have cs : ∀ i : Nat, W1.cell? ⟨b2, i, none⟩ = (#[.pointer none, .pointer none, .pointer (some ⟨mb, 0, none⟩), .int .i64 2, .int .i64 a, .int .i64 k, .int .i64 verts, .int .i64 arcs, .int .i64 workers, .int .i64 room, .int .i64 res, .int .i64 lex, .int .i64 hh, .int .i64 flag, .int .i64 pending, .int .i64 ask, .int .i64 count, .int .i64 sense, .int .i64 deques, .int .i64 size, .int .i64 0, .int .i64 t, .int .i64 b, .int .i64 x, .bool false, .bool g, .bool of] : Array Value)[i]? := HS.out.cell
  go_wp2_with fail
  refine (HC _ HK.out).out.mono ?_
  rintro e w5 ⟨rfl, rfl⟩
  go_wp2_with fail
  refine (HD _ HK.out).out.mono ?_
  rintro e w5 ⟨rfl, rfl⟩
  go_wp2_with fail
  go_ret
  exact ⟨by simp, HK.out⟩

set_option maxRecDepth 100000 in
set_option maxHeartbeats 8000000 in
theorem fits_steal_tf {w : World} {mb : Nat} {l : Lay} {k : Int} (a t b x : Int) (of : Bool) (h : PB w mb 45 l k ⟨a, t, b, x, true, false⟩ [.bool of]) :
    Calls Try.prog 52 #[.agg (([.pointer none, .pointer none, .pointer (some ⟨mb, 0, none⟩)] : List Value) ++ RMA l k 0 2 a t b x true false of).toArray, .bool true] w fun e w' => e = .returned (.bool true) ∧ Kept w w' := by
  have HC := fun (w1 : World) (hk : Kept w w1) => Lib.hid (show Calls Try.prog 23 #[.pointer (some ⟨mb, 0, none⟩)] w1 (fun e w' => e = .returned (.tuple #[.int .i64 0, .bool false]) ∧ w1 = w') from steal_got (PB.kept h hk))
  have HD := fun (w1 : World) (hk : Kept w w1) => Lib.hid (steal_lost (PB.kept h hk))
  clear h
  obtain ⟨verts, arcs, workers, room, res, lex, hh, flag, pending, ask, count, sense, deques, size⟩ := l
  simp only [RMA, List.cons_append, List.nil_append]
  have HZ24 : Hid ((Try.prog.info? 73).map (·.size) = some 24) := Lib.hid (by kernel_rfl)
  have b1 := Blk.new w #[.pointer none, .pointer none, .pointer (some ⟨mb, 0, none⟩), .int .i64 2, .int .i64 a, .int .i64 k, .int .i64 verts, .int .i64 arcs, .int .i64 workers, .int .i64 room, .int .i64 res, .int .i64 lex, .int .i64 hh, .int .i64 flag, .int .i64 pending, .int .i64 ask, .int .i64 count, .int .i64 sense, .int .i64 deques, .int .i64 size, .int .i64 0, .int .i64 t, .int .i64 b, .int .i64 x, .bool true, .bool false, .bool of] 75
  have k1 := (Upd.refl (fun _ => False) w).alloc (.cells #[.pointer none, .pointer none, .pointer (some ⟨mb, 0, none⟩), .int .i64 2, .int .i64 a, .int .i64 k, .int .i64 verts, .int .i64 arcs, .int .i64 workers, .int .i64 room, .int .i64 res, .int .i64 lex, .int .i64 hh, .int .i64 flag, .int .i64 pending, .int .i64 ask, .int .i64 count, .int .i64 sense, .int .i64 deques, .int .i64 size, .int .i64 0, .int .i64 t, .int .i64 b, .int .i64 x, .bool true, .bool false, .bool of] 75)
  go_enter Try.func52, Try.ntmps52
  go_upto_region 1 with (fail)
  generalize (w.alloc (.cells #[.pointer none, .pointer none, .pointer (some ⟨mb, 0, none⟩), .int .i64 2, .int .i64 a, .int .i64 k, .int .i64 verts, .int .i64 arcs, .int .i64 workers, .int .i64 room, .int .i64 res, .int .i64 lex, .int .i64 hh, .int .i64 flag, .int .i64 pending, .int .i64 ask, .int .i64 count, .int .i64 sense, .int .i64 deques, .int .i64 size, .int .i64 0, .int .i64 t, .int .i64 b, .int .i64 x, .bool true, .bool false, .bool of] 75)) = W0 at b1 k1 ⊢
  generalize w.heap.size = b2 at b1 ⊢
  have hra : W0.rangeAt b2 3 [.int .i64 2, .int .i64 a, .int .i64 k, .int .i64 verts, .int .i64 arcs, .int .i64 workers, .int .i64 room, .int .i64 res, .int .i64 lex, .int .i64 hh, .int .i64 flag, .int .i64 pending, .int .i64 ask, .int .i64 count, .int .i64 sense, .int .i64 deques, .int .i64 size, .int .i64 0, .int .i64 t, .int .i64 b, .int .i64 x, .bool true, .bool false, .bool of] := by
    intro j u hj
    rw [b1.cell, Nat.add_comm]
    simpa using hj
  have hZm := Blk.new W0 #[.int .i64 0, .int .i64 0, .int .i64 0, .int .i64 0, .int .i64 0, .int .i64 0, .int .i64 0, .int .i64 0, .int .i64 0, .int .i64 0, .int .i64 0, .int .i64 0, .int .i64 0, .int .i64 0, .int .i64 0, .int .i64 0, .int .i64 0, .int .i64 0, .int .i64 0, .int .i64 0, .int .i64 0, .bool false, .bool false, .bool false] 73
  have hthm := Blk.there hZm 24 rfl
  obtain ⟨W1, hWm⟩ : ∃ W', (W0.alloc (.cells #[.int .i64 0, .int .i64 0, .int .i64 0, .int .i64 0, .int .i64 0, .int .i64 0, .int .i64 0, .int .i64 0, .int .i64 0, .int .i64 0, .int .i64 0, .int .i64 0, .int .i64 0, .int .i64 0, .int .i64 0, .int .i64 0, .int .i64 0, .int .i64 0, .int .i64 0, .int .i64 0, .int .i64 0, .bool false, .bool false, .bool false] 73)).setCells W0.heap.size 0 [.int .i64 2, .int .i64 a, .int .i64 k, .int .i64 verts, .int .i64 arcs, .int .i64 workers, .int .i64 room, .int .i64 res, .int .i64 lex, .int .i64 hh, .int .i64 flag, .int .i64 pending, .int .i64 ask, .int .i64 count, .int .i64 sense, .int .i64 deques, .int .i64 size, .int .i64 0, .int .i64 t, .int .i64 b, .int .i64 x, .bool true, .bool false, .bool of] = W' := ⟨_, rfl⟩
  have hBm : Blk W1 W0.heap.size #[.int .i64 2, .int .i64 a, .int .i64 k, .int .i64 verts, .int .i64 arcs, .int .i64 workers, .int .i64 room, .int .i64 res, .int .i64 lex, .int .i64 hh, .int .i64 flag, .int .i64 pending, .int .i64 ask, .int .i64 count, .int .i64 sense, .int .i64 deques, .int .i64 size, .int .i64 0, .int .i64 t, .int .i64 b, .int .i64 x, .bool true, .bool false, .bool of] 73 ∧ Upd (fun k => k = W0.heap.size) (W0.alloc (.cells #[.int .i64 0, .int .i64 0, .int .i64 0, .int .i64 0, .int .i64 0, .int .i64 0, .int .i64 0, .int .i64 0, .int .i64 0, .int .i64 0, .int .i64 0, .int .i64 0, .int .i64 0, .int .i64 0, .int .i64 0, .int .i64 0, .int .i64 0, .int .i64 0, .int .i64 0, .int .i64 0, .int .i64 0, .bool false, .bool false, .bool false] 73)) W1 := by rw [← hWm]; exact Blk.alls hZm [.int .i64 2, .int .i64 a, .int .i64 k, .int .i64 verts, .int .i64 arcs, .int .i64 workers, .int .i64 room, .int .i64 res, .int .i64 lex, .int .i64 hh, .int .i64 flag, .int .i64 pending, .int .i64 ask, .int .i64 count, .int .i64 sense, .int .i64 deques, .int .i64 size, .int .i64 0, .int .i64 t, .int .i64 b, .int .i64 x, .bool true, .bool false, .bool of] rfl
  have hKm : Kept W0 W1 := (((Upd.refl (fun _ => False) W0).alloc _).then hBm.2 (fun i hi e => by omega))
  have hsm := HZ24.out
  have HS := Lib.hid (b1.kept hKm)
  have HK := Lib.hid (k1.trans hKm)
  have HM := Lib.hid hBm.1
  clear b1 k1 hBm hKm hZm
  go_upto_region 2 with (first | (refine wpList_load_mid rfl _ _ rfl b2 3 rfl [.int .i64 2, .int .i64 a, .int .i64 k, .int .i64 verts, .int .i64 arcs, .int .i64 workers, .int .i64 room, .int .i64 res, .int .i64 lex, .int .i64 hh, .int .i64 flag, .int .i64 pending, .int .i64 ask, .int .i64 count, .int .i64 sense, .int .i64 deques, .int .i64 size, .int .i64 0, .int .i64 t, .int .i64 b, .int .i64 x, .bool true, .bool false, .bool of] _ hra Try.underlying73 rfl HZ24.out ?_) | (refine wpList_store_mid rfl _ _ _ rfl W0.heap.size 0 #[.int .i64 2, .int .i64 a, .int .i64 k, .int .i64 verts, .int .i64 arcs, .int .i64 workers, .int .i64 room, .int .i64 res, .int .i64 lex, .int .i64 hh, .int .i64 flag, .int .i64 pending, .int .i64 ask, .int .i64 count, .int .i64 sense, .int .i64 deques, .int .i64 size, .int .i64 0, .int .i64 t, .int .i64 b, .int .i64 x, .bool true, .bool false, .bool of] rfl rfl hthm hsm (all_oneCell_toArray (cs := [.int .i64 2, .int .i64 a, .int .i64 k, .int .i64 verts, .int .i64 arcs, .int .i64 workers, .int .i64 room, .int .i64 res, .int .i64 lex, .int .i64 hh, .int .i64 flag, .int .i64 pending, .int .i64 ask, .int .i64 count, .int .i64 sense, .int .i64 deques, .int .i64 size, .int .i64 0, .int .i64 t, .int .i64 b, .int .i64 x, .bool true, .bool false, .bool of]) (by simp [Value.oneCell'])) ?_; simp only [hWm]) | fail)
  simp only [Act.put]
  clear hra hthm hWm hsm
  generalize W0.heap.size = mx at HM ⊢
  have cm : ∀ i : Nat, W1.cell? ⟨mx, i, none⟩ = (#[.int .i64 2, .int .i64 a, .int .i64 k, .int .i64 verts, .int .i64 arcs, .int .i64 workers, .int .i64 room, .int .i64 res, .int .i64 lex, .int .i64 hh, .int .i64 flag, .int .i64 pending, .int .i64 ask, .int .i64 count, .int .i64 sense, .int .i64 deques, .int .i64 size, .int .i64 0, .int .i64 t, .int .i64 b, .int .i64 x, .bool true, .bool false, .bool of] : Array Value)[i]? := HM.out.cell
  have cs : ∀ i : Nat, W1.cell? ⟨b2, i, none⟩ = (#[.pointer none, .pointer none, .pointer (some ⟨mb, 0, none⟩), .int .i64 2, .int .i64 a, .int .i64 k, .int .i64 verts, .int .i64 arcs, .int .i64 workers, .int .i64 room, .int .i64 res, .int .i64 lex, .int .i64 hh, .int .i64 flag, .int .i64 pending, .int .i64 ask, .int .i64 count, .int .i64 sense, .int .i64 deques, .int .i64 size, .int .i64 0, .int .i64 t, .int .i64 b, .int .i64 x, .bool true, .bool false, .bool of] : Array Value)[i]? := HS.out.cell
  go_wp2_with fail
  refine (HC _ HK.out).out.mono ?_
  rintro e w5 ⟨rfl, rfl⟩
  go_wp2_with fail
  refine (HD _ HK.out).out.mono ?_
  rintro e w5 ⟨rfl, rfl⟩
  go_wp2_with fail
  go_ret
  exact ⟨by simp, HK.out⟩

set_option maxRecDepth 100000 in
set_option maxHeartbeats 8000000 in
theorem fits_steal_tt {w : World} {mb : Nat} {l : Lay} {k : Int} (a t b x : Int) (of : Bool) (h : PB w mb 45 l k ⟨a, t, b, x, true, true⟩ [.bool of]) :
    Calls Try.prog 52 #[.agg (([.pointer none, .pointer none, .pointer (some ⟨mb, 0, none⟩)] : List Value) ++ RMA l k 0 2 a t b x true true of).toArray, .bool true] w fun e w' => e = .returned (.bool true) ∧ Kept w w' := by
  have HC := fun (w1 : World) (hk : Kept w w1) => Lib.hid (show Calls Try.prog 23 #[.pointer (some ⟨mb, 0, none⟩)] w1 (fun e w' => e = .returned (.tuple #[.int .i64 x, .bool true]) ∧ w1 = w') from steal_got (PB.kept h hk))
  have HD := fun (w1 : World) (hk : Kept w w1) => Lib.hid (steal_lost (PB.kept h hk))
  clear h
  obtain ⟨verts, arcs, workers, room, res, lex, hh, flag, pending, ask, count, sense, deques, size⟩ := l
  simp only [RMA, List.cons_append, List.nil_append]
  have HZ24 : Hid ((Try.prog.info? 73).map (·.size) = some 24) := Lib.hid (by kernel_rfl)
  have b1 := Blk.new w #[.pointer none, .pointer none, .pointer (some ⟨mb, 0, none⟩), .int .i64 2, .int .i64 a, .int .i64 k, .int .i64 verts, .int .i64 arcs, .int .i64 workers, .int .i64 room, .int .i64 res, .int .i64 lex, .int .i64 hh, .int .i64 flag, .int .i64 pending, .int .i64 ask, .int .i64 count, .int .i64 sense, .int .i64 deques, .int .i64 size, .int .i64 0, .int .i64 t, .int .i64 b, .int .i64 x, .bool true, .bool true, .bool of] 75
  have k1 := (Upd.refl (fun _ => False) w).alloc (.cells #[.pointer none, .pointer none, .pointer (some ⟨mb, 0, none⟩), .int .i64 2, .int .i64 a, .int .i64 k, .int .i64 verts, .int .i64 arcs, .int .i64 workers, .int .i64 room, .int .i64 res, .int .i64 lex, .int .i64 hh, .int .i64 flag, .int .i64 pending, .int .i64 ask, .int .i64 count, .int .i64 sense, .int .i64 deques, .int .i64 size, .int .i64 0, .int .i64 t, .int .i64 b, .int .i64 x, .bool true, .bool true, .bool of] 75)
  go_enter Try.func52, Try.ntmps52
  go_upto_region 1 with (fail)
  generalize (w.alloc (.cells #[.pointer none, .pointer none, .pointer (some ⟨mb, 0, none⟩), .int .i64 2, .int .i64 a, .int .i64 k, .int .i64 verts, .int .i64 arcs, .int .i64 workers, .int .i64 room, .int .i64 res, .int .i64 lex, .int .i64 hh, .int .i64 flag, .int .i64 pending, .int .i64 ask, .int .i64 count, .int .i64 sense, .int .i64 deques, .int .i64 size, .int .i64 0, .int .i64 t, .int .i64 b, .int .i64 x, .bool true, .bool true, .bool of] 75)) = W0 at b1 k1 ⊢
  generalize w.heap.size = b2 at b1 ⊢
  have hra : W0.rangeAt b2 3 [.int .i64 2, .int .i64 a, .int .i64 k, .int .i64 verts, .int .i64 arcs, .int .i64 workers, .int .i64 room, .int .i64 res, .int .i64 lex, .int .i64 hh, .int .i64 flag, .int .i64 pending, .int .i64 ask, .int .i64 count, .int .i64 sense, .int .i64 deques, .int .i64 size, .int .i64 0, .int .i64 t, .int .i64 b, .int .i64 x, .bool true, .bool true, .bool of] := by
    intro j u hj
    rw [b1.cell, Nat.add_comm]
    simpa using hj
  have hZm := Blk.new W0 #[.int .i64 0, .int .i64 0, .int .i64 0, .int .i64 0, .int .i64 0, .int .i64 0, .int .i64 0, .int .i64 0, .int .i64 0, .int .i64 0, .int .i64 0, .int .i64 0, .int .i64 0, .int .i64 0, .int .i64 0, .int .i64 0, .int .i64 0, .int .i64 0, .int .i64 0, .int .i64 0, .int .i64 0, .bool false, .bool false, .bool false] 73
  have hthm := Blk.there hZm 24 rfl
  obtain ⟨W1, hWm⟩ : ∃ W', (W0.alloc (.cells #[.int .i64 0, .int .i64 0, .int .i64 0, .int .i64 0, .int .i64 0, .int .i64 0, .int .i64 0, .int .i64 0, .int .i64 0, .int .i64 0, .int .i64 0, .int .i64 0, .int .i64 0, .int .i64 0, .int .i64 0, .int .i64 0, .int .i64 0, .int .i64 0, .int .i64 0, .int .i64 0, .int .i64 0, .bool false, .bool false, .bool false] 73)).setCells W0.heap.size 0 [.int .i64 2, .int .i64 a, .int .i64 k, .int .i64 verts, .int .i64 arcs, .int .i64 workers, .int .i64 room, .int .i64 res, .int .i64 lex, .int .i64 hh, .int .i64 flag, .int .i64 pending, .int .i64 ask, .int .i64 count, .int .i64 sense, .int .i64 deques, .int .i64 size, .int .i64 0, .int .i64 t, .int .i64 b, .int .i64 x, .bool true, .bool true, .bool of] = W' := ⟨_, rfl⟩
  have hBm : Blk W1 W0.heap.size #[.int .i64 2, .int .i64 a, .int .i64 k, .int .i64 verts, .int .i64 arcs, .int .i64 workers, .int .i64 room, .int .i64 res, .int .i64 lex, .int .i64 hh, .int .i64 flag, .int .i64 pending, .int .i64 ask, .int .i64 count, .int .i64 sense, .int .i64 deques, .int .i64 size, .int .i64 0, .int .i64 t, .int .i64 b, .int .i64 x, .bool true, .bool true, .bool of] 73 ∧ Upd (fun k => k = W0.heap.size) (W0.alloc (.cells #[.int .i64 0, .int .i64 0, .int .i64 0, .int .i64 0, .int .i64 0, .int .i64 0, .int .i64 0, .int .i64 0, .int .i64 0, .int .i64 0, .int .i64 0, .int .i64 0, .int .i64 0, .int .i64 0, .int .i64 0, .int .i64 0, .int .i64 0, .int .i64 0, .int .i64 0, .int .i64 0, .int .i64 0, .bool false, .bool false, .bool false] 73)) W1 := by rw [← hWm]; exact Blk.alls hZm [.int .i64 2, .int .i64 a, .int .i64 k, .int .i64 verts, .int .i64 arcs, .int .i64 workers, .int .i64 room, .int .i64 res, .int .i64 lex, .int .i64 hh, .int .i64 flag, .int .i64 pending, .int .i64 ask, .int .i64 count, .int .i64 sense, .int .i64 deques, .int .i64 size, .int .i64 0, .int .i64 t, .int .i64 b, .int .i64 x, .bool true, .bool true, .bool of] rfl
  have hKm : Kept W0 W1 := (((Upd.refl (fun _ => False) W0).alloc _).then hBm.2 (fun i hi e => by omega))
  have hsm := HZ24.out
  have HS := Lib.hid (b1.kept hKm)
  have HK := Lib.hid (k1.trans hKm)
  have HM := Lib.hid hBm.1
  clear b1 k1 hBm hKm hZm
  go_upto_region 2 with (first | (refine wpList_load_mid rfl _ _ rfl b2 3 rfl [.int .i64 2, .int .i64 a, .int .i64 k, .int .i64 verts, .int .i64 arcs, .int .i64 workers, .int .i64 room, .int .i64 res, .int .i64 lex, .int .i64 hh, .int .i64 flag, .int .i64 pending, .int .i64 ask, .int .i64 count, .int .i64 sense, .int .i64 deques, .int .i64 size, .int .i64 0, .int .i64 t, .int .i64 b, .int .i64 x, .bool true, .bool true, .bool of] _ hra Try.underlying73 rfl HZ24.out ?_) | (refine wpList_store_mid rfl _ _ _ rfl W0.heap.size 0 #[.int .i64 2, .int .i64 a, .int .i64 k, .int .i64 verts, .int .i64 arcs, .int .i64 workers, .int .i64 room, .int .i64 res, .int .i64 lex, .int .i64 hh, .int .i64 flag, .int .i64 pending, .int .i64 ask, .int .i64 count, .int .i64 sense, .int .i64 deques, .int .i64 size, .int .i64 0, .int .i64 t, .int .i64 b, .int .i64 x, .bool true, .bool true, .bool of] rfl rfl hthm hsm (all_oneCell_toArray (cs := [.int .i64 2, .int .i64 a, .int .i64 k, .int .i64 verts, .int .i64 arcs, .int .i64 workers, .int .i64 room, .int .i64 res, .int .i64 lex, .int .i64 hh, .int .i64 flag, .int .i64 pending, .int .i64 ask, .int .i64 count, .int .i64 sense, .int .i64 deques, .int .i64 size, .int .i64 0, .int .i64 t, .int .i64 b, .int .i64 x, .bool true, .bool true, .bool of]) (by simp [Value.oneCell'])) ?_; simp only [hWm]) | fail)
  simp only [Act.put]
  clear hra hthm hWm hsm
  generalize W0.heap.size = mx at HM ⊢
  have cm : ∀ i : Nat, W1.cell? ⟨mx, i, none⟩ = (#[.int .i64 2, .int .i64 a, .int .i64 k, .int .i64 verts, .int .i64 arcs, .int .i64 workers, .int .i64 room, .int .i64 res, .int .i64 lex, .int .i64 hh, .int .i64 flag, .int .i64 pending, .int .i64 ask, .int .i64 count, .int .i64 sense, .int .i64 deques, .int .i64 size, .int .i64 0, .int .i64 t, .int .i64 b, .int .i64 x, .bool true, .bool true, .bool of] : Array Value)[i]? := HM.out.cell
  have cs : ∀ i : Nat, W1.cell? ⟨b2, i, none⟩ = (#[.pointer none, .pointer none, .pointer (some ⟨mb, 0, none⟩), .int .i64 2, .int .i64 a, .int .i64 k, .int .i64 verts, .int .i64 arcs, .int .i64 workers, .int .i64 room, .int .i64 res, .int .i64 lex, .int .i64 hh, .int .i64 flag, .int .i64 pending, .int .i64 ask, .int .i64 count, .int .i64 sense, .int .i64 deques, .int .i64 size, .int .i64 0, .int .i64 t, .int .i64 b, .int .i64 x, .bool true, .bool true, .bool of] : Array Value)[i]? := HS.out.cell
  go_wp2_with fail
  refine (HC _ HK.out).out.mono ?_
  rintro e w5 ⟨rfl, rfl⟩
  go_wp2_with fail
  refine (HD _ HK.out).out.mono ?_
  rintro e w5 ⟨rfl, rfl⟩
  go_wp2_with fail
  go_ret
  exact ⟨by simp, HK.out⟩

theorem fits_any {w : World} {mb : Nat} {l : Lay} {k : Int} (kd : Kd) (s : KS) (h : PB w mb kd.T l k s.m (kd.ex s.lo)) :
    Calls Try.prog 52 #[.agg (SC kd mb l k s).toArray, .bool s.m.done] w fun e w' => e = .returned (.bool true) ∧ Kept w w' := by
  obtain ⟨⟨a, t, b, x, d, g⟩, lo, xs⟩ := s
  cases kd with
  | push v =>
    cases d with
    | false => exact fits_push_fg v a t b x g _ h
    | true => cases g with
      | false => exact fits_push_tf v a t b x _ h
      | true => exact fits_push_tt v a t b x _ h
  | pop =>
    cases d with
    | false => exact fits_pop_fg a t b x g _ h
    | true => cases g with
      | false => exact fits_pop_tf a t b x _ h
      | true => exact fits_pop_tt a t b x _ h
  | steal =>
    cases d with
    | false => exact fits_steal_fg a t b x g lo h
    | true => cases g with
      | false => exact fits_steal_tf a t b x lo h
      | true => exact fits_steal_tt a t b x lo h
end Go.Proofs.Ytdgkemadhooogaa
