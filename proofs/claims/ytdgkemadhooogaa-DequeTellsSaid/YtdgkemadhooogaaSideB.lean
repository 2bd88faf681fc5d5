/- acequialaw11.begin (printed by gen_refstep11.py). -/
import Derived.Test.YtdgkemadhooogaaDeqLaw
import Derived.Test.YtdgkemadhooogaaRefStep11A
import Derived.Test.YtdgkemadhooogaaRowsG
import Derived.Deep.RegionHeld3
import Derived.Deep.CutRange
import Derived.StillTailTactics
import Derived.Deep.MidRow
namespace Go.Proofs.Ytdgkemadhooogaa
set_option linter.unusedVariables false
set_option linter.unusedSimpArgs false
open Go.RowKit
attribute [local go_sem] cell?_ext

/-- The cells of a side: its machine's pointer, the reference's machine. -/
def SC (kd : Kd) (mb : Nat) (l : Lay) (k : Int) (s : KS) : List Value :=
  (match kd with
    | .push _ => [.pointer (some ⟨mb, 0, none⟩), .pointer none, .pointer none]
    | .pop => [.pointer none, .pointer (some ⟨mb, 0, none⟩), .pointer none]
    | .steal => [.pointer none, .pointer none, .pointer (some ⟨mb, 0, none⟩)]) ++ RMA l k (vOf kd) (knOf kd) s.m.a s.m.t s.m.b s.m.x s.m.done s.m.got (offOf kd s)
def newKS (xs : List Int) : KS := ⟨⟨0, 0, 0, 0, false, false⟩, false, xs⟩
def BeginEnd (kd : Kd) (l : Lay) (k : Int) (w : World) (e : Ending) (w' : World) : Prop := ∃ mb, e = .returned (.agg (SC kd mb l k (newKS [])).toArray) ∧ PB w' mb kd.T l k ⟨0, 0, 0, 0, false, false⟩ (kd.ex false) ∧ w.heap.size ≤ mb ∧ Kept w w'
set_option maxRecDepth 100000 in
set_option maxHeartbeats 8000000 in
theorem begin_steal (l : Lay) (k who what v : Int) (w : World) : Calls Try.prog 26 #[l.val, .int .i64 k, .agg #[.int .u8 who, .int .u8 what, .int .i64 v], .bool false] w (BeginEnd .steal l k w) := by
  have HNU := fun v w => Lib.hid (NewPush_any l k v w)
  have HNP := fun w => Lib.hid (NewPop_any l k w)
  have HNS := fun w => Lib.hid (NewSteal_any l k w)
  obtain ⟨verts, arcs, workers, room, res, lex, hh, flag, pending, ask, count, sense, deques, size⟩ := l
  simp only [Lay.val, Lay.vals, PL] at HNU HNP HNS ⊢
  have HZ14 : Hid ((Try.prog.info? 24).map (·.size) = some 14) := Lib.hid (by kernel_rfl)
  have HZ24 : Hid ((Try.prog.info? 73).map (·.size) = some 24) := Lib.hid (by kernel_rfl)
  have HZ27 : Hid ((Try.prog.info? 75).map (·.size) = some 27) := Lib.hid (by kernel_rfl)
  have HZo : Hid ((Try.prog.info? 51).map (·.size) = some 21) := Lib.hid (by kernel_rfl)
  have HZt : Hid ((Try.prog.info? 45).map (·.size) = some 22) := Lib.hid (by kernel_rfl)
  have HZu : Hid ((Try.prog.info? 48).map (·.size) = some 22) := Lib.hid (by kernel_rfl)
  have b1 := Blk.new w #[.int .i64 verts, .int .i64 arcs, .int .i64 workers, .int .i64 room, .int .i64 res, .int .i64 lex, .int .i64 hh, .int .i64 flag, .int .i64 pending, .int .i64 ask, .int .i64 count, .int .i64 sense, .int .i64 deques, .int .i64 size] 24
  have b2 := Blk.new (w.alloc (.cells #[.int .i64 verts, .int .i64 arcs, .int .i64 workers, .int .i64 room, .int .i64 res, .int .i64 lex, .int .i64 hh, .int .i64 flag, .int .i64 pending, .int .i64 ask, .int .i64 count, .int .i64 sense, .int .i64 deques, .int .i64 size] 24)) #[.int .u8 who, .int .u8 what, .int .i64 v] 34
  have b3 := Blk.new ((w.alloc (.cells #[.int .i64 verts, .int .i64 arcs, .int .i64 workers, .int .i64 room, .int .i64 res, .int .i64 lex, .int .i64 hh, .int .i64 flag, .int .i64 pending, .int .i64 ask, .int .i64 count, .int .i64 sense, .int .i64 deques, .int .i64 size] 24)).alloc (.cells #[.int .u8 who, .int .u8 what, .int .i64 v] 34)) #[.pointer none, .pointer none, .pointer none, .int .i64 0, .int .i64 0, .int .i64 0, .int .i64 0, .int .i64 0, .int .i64 0, .int .i64 0, .int .i64 0, .int .i64 0, .int .i64 0, .int .i64 0, .int .i64 0, .int .i64 0, .int .i64 0, .int .i64 0, .int .i64 0, .int .i64 0, .int .i64 0, .int .i64 0, .int .i64 0, .int .i64 0, .bool false, .bool false, .bool false] 75
  have k3 : Kept w (((w.alloc (.cells #[.int .i64 verts, .int .i64 arcs, .int .i64 workers, .int .i64 room, .int .i64 res, .int .i64 lex, .int .i64 hh, .int .i64 flag, .int .i64 pending, .int .i64 ask, .int .i64 count, .int .i64 sense, .int .i64 deques, .int .i64 size] 24)).alloc (.cells #[.int .u8 who, .int .u8 what, .int .i64 v] 34)).alloc (.cells #[.pointer none, .pointer none, .pointer none, .int .i64 0, .int .i64 0, .int .i64 0, .int .i64 0, .int .i64 0, .int .i64 0, .int .i64 0, .int .i64 0, .int .i64 0, .int .i64 0, .int .i64 0, .int .i64 0, .int .i64 0, .int .i64 0, .int .i64 0, .int .i64 0, .int .i64 0, .int .i64 0, .int .i64 0, .int .i64 0, .int .i64 0, .bool false, .bool false, .bool false] 75)) := (((Upd.refl _ _).alloc _).alloc _).alloc _
  have b1' := (b1.alloc (.cells #[.int .u8 who, .int .u8 what, .int .i64 v] 34)).alloc (.cells #[.pointer none, .pointer none, .pointer none, .int .i64 0, .int .i64 0, .int .i64 0, .int .i64 0, .int .i64 0, .int .i64 0, .int .i64 0, .int .i64 0, .int .i64 0, .int .i64 0, .int .i64 0, .int .i64 0, .int .i64 0, .int .i64 0, .int .i64 0, .int .i64 0, .int .i64 0, .int .i64 0, .int .i64 0, .int .i64 0, .int .i64 0, .bool false, .bool false, .bool false] 75)
  have b2' := b2.alloc (.cells #[.pointer none, .pointer none, .pointer none, .int .i64 0, .int .i64 0, .int .i64 0, .int .i64 0, .int .i64 0, .int .i64 0, .int .i64 0, .int .i64 0, .int .i64 0, .int .i64 0, .int .i64 0, .int .i64 0, .int .i64 0, .int .i64 0, .int .i64 0, .int .i64 0, .int .i64 0, .int .i64 0, .int .i64 0, .int .i64 0, .int .i64 0, .bool false, .bool false, .bool false] 75)
  rw [World.size_alloc] at b2'
  rw [World.size_alloc, World.size_alloc] at b3
  clear b1 b2
  go_enter Try.func26, Try.ntmps26
  go_upto_region 1 with (fail)
  generalize (((w.alloc (.cells #[.int .i64 verts, .int .i64 arcs, .int .i64 workers, .int .i64 room, .int .i64 res, .int .i64 lex, .int .i64 hh, .int .i64 flag, .int .i64 pending, .int .i64 ask, .int .i64 count, .int .i64 sense, .int .i64 deques, .int .i64 size] 24)).alloc (.cells #[.int .u8 who, .int .u8 what, .int .i64 v] 34)).alloc (.cells #[.pointer none, .pointer none, .pointer none, .int .i64 0, .int .i64 0, .int .i64 0, .int .i64 0, .int .i64 0, .int .i64 0, .int .i64 0, .int .i64 0, .int .i64 0, .int .i64 0, .int .i64 0, .int .i64 0, .int .i64 0, .int .i64 0, .int .i64 0, .int .i64 0, .int .i64 0, .int .i64 0, .int .i64 0, .int .i64 0, .int .i64 0, .bool false, .bool false, .bool false] 75)) = W0 at b1' b2' b3 k3 ⊢
  generalize hrb : w.heap.size + 1 + 1 = rb at b3 ⊢
  generalize hob : w.heap.size + 1 = ob at b2' hrb ⊢
  generalize hlb : w.heap.size = lb at b1' hob ⊢
  have HL := Lib.hid b1'
  have HO := Lib.hid b2'
  have HR := Lib.hid b3
  have HK := Lib.hid k3
  have HNE : Hid (w.heap.size = lb ∧ lb + 1 = ob ∧ ob + 1 = rb ∧ rb < W0.heap.size) := Lib.hid ⟨hlb, hob, hrb, b3.lt⟩
  clear b1' b2' b3 k3 hlb hob hrb
  have hra : W0.rangeAt lb 0 [.int .i64 verts, .int .i64 arcs, .int .i64 workers, .int .i64 room, .int .i64 res, .int .i64 lex, .int .i64 hh, .int .i64 flag, .int .i64 pending, .int .i64 ask, .int .i64 count, .int .i64 sense, .int .i64 deques, .int .i64 size] := Blk.range HL.out
  have hZm := Blk.new W0 #[.int .i64 0, .int .i64 0, .int .i64 0, .int .i64 0, .int .i64 0, .int .i64 0, .int .i64 0, .int .i64 0, .int .i64 0, .int .i64 0, .int .i64 0, .int .i64 0, .int .i64 0, .int .i64 0, .int .i64 0, .int .i64 0, .int .i64 0, .int .i64 0, .int .i64 0, .int .i64 0, .int .i64 0, .bool false, .bool false, .bool false] 73
  have hthm := Blk.there hZm 24 rfl
  obtain ⟨W1, hWm⟩ : ∃ W', (W0.alloc (.cells #[.int .i64 0, .int .i64 0, .int .i64 0, .int .i64 0, .int .i64 0, .int .i64 0, .int .i64 0, .int .i64 0, .int .i64 0, .int .i64 0, .int .i64 0, .int .i64 0, .int .i64 0, .int .i64 0, .int .i64 0, .int .i64 0, .int .i64 0, .int .i64 0, .int .i64 0, .int .i64 0, .int .i64 0, .bool false, .bool false, .bool false] 73)).setCells W0.heap.size 0 [.int .i64 2, .int .i64 0, .int .i64 k, .int .i64 verts, .int .i64 arcs, .int .i64 workers, .int .i64 room, .int .i64 res, .int .i64 lex, .int .i64 hh, .int .i64 flag, .int .i64 pending, .int .i64 ask, .int .i64 count, .int .i64 sense, .int .i64 deques, .int .i64 size, .int .i64 0, .int .i64 0, .int .i64 0, .int .i64 0, .bool false, .bool false, .bool false] = W' := ⟨_, rfl⟩
  have hBm : Blk W1 W0.heap.size #[.int .i64 2, .int .i64 0, .int .i64 k, .int .i64 verts, .int .i64 arcs, .int .i64 workers, .int .i64 room, .int .i64 res, .int .i64 lex, .int .i64 hh, .int .i64 flag, .int .i64 pending, .int .i64 ask, .int .i64 count, .int .i64 sense, .int .i64 deques, .int .i64 size, .int .i64 0, .int .i64 0, .int .i64 0, .int .i64 0, .bool false, .bool false, .bool false] 73 ∧ Upd (fun k => k = W0.heap.size) (W0.alloc (.cells #[.int .i64 0, .int .i64 0, .int .i64 0, .int .i64 0, .int .i64 0, .int .i64 0, .int .i64 0, .int .i64 0, .int .i64 0, .int .i64 0, .int .i64 0, .int .i64 0, .int .i64 0, .int .i64 0, .int .i64 0, .int .i64 0, .int .i64 0, .int .i64 0, .int .i64 0, .int .i64 0, .int .i64 0, .bool false, .bool false, .bool false] 73)) W1 := by rw [← hWm]; exact Blk.alls hZm [.int .i64 2, .int .i64 0, .int .i64 k, .int .i64 verts, .int .i64 arcs, .int .i64 workers, .int .i64 room, .int .i64 res, .int .i64 lex, .int .i64 hh, .int .i64 flag, .int .i64 pending, .int .i64 ask, .int .i64 count, .int .i64 sense, .int .i64 deques, .int .i64 size, .int .i64 0, .int .i64 0, .int .i64 0, .int .i64 0, .bool false, .bool false, .bool false] rfl
  have hKm : Kept W0 W1 := (((Upd.refl (fun _ => False) W0).alloc _).then hBm.2 (fun i hi e => by omega))
  have hsm := HZ24.out
  go_upto_region 2 with (first | (refine wpList_load_mid rfl _ _ rfl lb 0 rfl [.int .i64 verts, .int .i64 arcs, .int .i64 workers, .int .i64 room, .int .i64 res, .int .i64 lex, .int .i64 hh, .int .i64 flag, .int .i64 pending, .int .i64 ask, .int .i64 count, .int .i64 sense, .int .i64 deques, .int .i64 size] _ hra Try.underlying24 rfl HZ14.out ?_) | (refine wpList_store_mid rfl _ _ _ rfl W0.heap.size 0 #[.int .i64 2, .int .i64 0, .int .i64 k, .int .i64 verts, .int .i64 arcs, .int .i64 workers, .int .i64 room, .int .i64 res, .int .i64 lex, .int .i64 hh, .int .i64 flag, .int .i64 pending, .int .i64 ask, .int .i64 count, .int .i64 sense, .int .i64 deques, .int .i64 size, .int .i64 0, .int .i64 0, .int .i64 0, .int .i64 0, .bool false, .bool false, .bool false] rfl rfl hthm hsm (all_oneCell_toArray (cs := [.int .i64 2, .int .i64 0, .int .i64 k, .int .i64 verts, .int .i64 arcs, .int .i64 workers, .int .i64 room, .int .i64 res, .int .i64 lex, .int .i64 hh, .int .i64 flag, .int .i64 pending, .int .i64 ask, .int .i64 count, .int .i64 sense, .int .i64 deques, .int .i64 size, .int .i64 0, .int .i64 0, .int .i64 0, .int .i64 0, .bool false, .bool false, .bool false]) (by simp [Value.oneCell'])) ?_; simp only [hWm]) | fail)
  have HL1 := Lib.hid (HL.out.kept hKm)
  have HO1 := Lib.hid (HO.out.kept hKm)
  have HR1 := Lib.hid (HR.out.kept hKm)
  have HK1 := Lib.hid (HK.out.trans hKm)
  have HM1 := Lib.hid hBm.1
  have HNE1 : Hid (w.heap.size = lb ∧ lb + 1 = ob ∧ ob + 1 = rb ∧ rb < W0.heap.size ∧ W0.heap.size < W1.heap.size) := Lib.hid (by have h := HNE.out; have h2 := hBm.1.lt; omega)
  clear hra hZm hthm hWm hBm hKm hsm HL HO HR HK HNE
  simp only [Act.put]
  generalize W0.heap.size = mb at HM1 HNE1 ⊢
  have hra : W1.rangeAt lb 0 [.int .i64 verts, .int .i64 arcs, .int .i64 workers, .int .i64 room, .int .i64 res, .int .i64 lex, .int .i64 hh, .int .i64 flag, .int .i64 pending, .int .i64 ask, .int .i64 count, .int .i64 sense, .int .i64 deques, .int .i64 size] := Blk.range HL1.out
  go_upto_region 3 with (fail)
  go_wp2_with (first | (refine wpList_load_mid rfl _ _ rfl lb 0 rfl [.int .i64 verts, .int .i64 arcs, .int .i64 workers, .int .i64 room, .int .i64 res, .int .i64 lex, .int .i64 hh, .int .i64 flag, .int .i64 pending, .int .i64 ask, .int .i64 count, .int .i64 sense, .int .i64 deques, .int .i64 size] _ hra Try.underlying24 rfl HZ14.out ?_) | fail)
  refine (HNS _).out.mono ?_
  rintro e w2 ⟨rfl, hk⟩
  have HO2 := Lib.hid (HO1.out.kept hk)
  have HR2 := Lib.hid (HR1.out.kept hk)
  have HK2 := Lib.hid (HK1.out.trans hk)
  have HM2 := Lib.hid (HM1.out.kept hk)
  have HNE2 : Hid (w.heap.size = lb ∧ lb + 1 = ob ∧ ob + 1 = rb ∧ rb < mb ∧ mb < w2.heap.size) := Lib.hid (by have h := HNE1.out; have h2 := hk.size; omega)
  clear hra hk HL1 HO1 HR1 HK1 HM1 HNE1
  have hZt := Blk.new w2 #[.int .i64 0, .int .i64 0, .int .i64 0, .int .i64 0, .int .i64 0, .int .i64 0, .int .i64 0, .int .i64 0, .int .i64 0, .int .i64 0, .int .i64 0, .int .i64 0, .int .i64 0, .int .i64 0, .int .i64 0, .int .i64 0, .int .i64 0, .int .i64 0, .int .i64 0, .bool false, .bool false, .bool false] 45
  have htht := Blk.there hZt 22 rfl
  obtain ⟨W3, hWt⟩ : ∃ W', (w2.alloc (.cells #[.int .i64 0, .int .i64 0, .int .i64 0, .int .i64 0, .int .i64 0, .int .i64 0, .int .i64 0, .int .i64 0, .int .i64 0, .int .i64 0, .int .i64 0, .int .i64 0, .int .i64 0, .int .i64 0, .int .i64 0, .int .i64 0, .int .i64 0, .int .i64 0, .int .i64 0, .bool false, .bool false, .bool false] 45)).setCells w2.heap.size 0 [.int .i64 verts, .int .i64 arcs, .int .i64 workers, .int .i64 room, .int .i64 res, .int .i64 lex, .int .i64 hh, .int .i64 flag, .int .i64 pending, .int .i64 ask, .int .i64 count, .int .i64 sense, .int .i64 deques, .int .i64 size, .int .i64 k, .int .i64 0, .int .i64 0, .int .i64 0, .int .i64 0, .bool false, .bool false, .bool false] = W' := ⟨_, rfl⟩
  have hBt : Blk W3 w2.heap.size #[.int .i64 verts, .int .i64 arcs, .int .i64 workers, .int .i64 room, .int .i64 res, .int .i64 lex, .int .i64 hh, .int .i64 flag, .int .i64 pending, .int .i64 ask, .int .i64 count, .int .i64 sense, .int .i64 deques, .int .i64 size, .int .i64 k, .int .i64 0, .int .i64 0, .int .i64 0, .int .i64 0, .bool false, .bool false, .bool false] 45 ∧ Upd (fun k => k = w2.heap.size) (w2.alloc (.cells #[.int .i64 0, .int .i64 0, .int .i64 0, .int .i64 0, .int .i64 0, .int .i64 0, .int .i64 0, .int .i64 0, .int .i64 0, .int .i64 0, .int .i64 0, .int .i64 0, .int .i64 0, .int .i64 0, .int .i64 0, .int .i64 0, .int .i64 0, .int .i64 0, .int .i64 0, .bool false, .bool false, .bool false] 45)) W3 := by rw [← hWt]; exact Blk.alls hZt [.int .i64 verts, .int .i64 arcs, .int .i64 workers, .int .i64 room, .int .i64 res, .int .i64 lex, .int .i64 hh, .int .i64 flag, .int .i64 pending, .int .i64 ask, .int .i64 count, .int .i64 sense, .int .i64 deques, .int .i64 size, .int .i64 k, .int .i64 0, .int .i64 0, .int .i64 0, .int .i64 0, .bool false, .bool false, .bool false] rfl
  have hKt : Kept w2 W3 := (((Upd.refl (fun _ => False) w2).alloc _).then hBt.2 (fun i hi e => by omega))
  have hst := HZt.out
  have HO3 := Lib.hid (HO2.out.kept hKt)
  have HR3 := Lib.hid (HR2.out.kept hKt)
  have HK3 := Lib.hid (HK2.out.trans hKt)
  have HM3 := Lib.hid (HM2.out.kept hKt)
  have HB3 := Lib.hid hBt.1
  have HNE3 : Hid (w.heap.size = lb ∧ lb + 1 = ob ∧ ob + 1 = rb ∧ rb < mb ∧ mb < w2.heap.size ∧ w2.heap.size < W3.heap.size) := Lib.hid (by have h := HNE2.out; have h2 := hBt.1.lt; omega)
  clear hBt hKt hZt HO2 HR2 HK2 HM2 HNE2
  go_upto_region 4 with (first | (refine wpList_store_mid rfl _ _ _ rfl w2.heap.size 0 #[.int .i64 verts, .int .i64 arcs, .int .i64 workers, .int .i64 room, .int .i64 res, .int .i64 lex, .int .i64 hh, .int .i64 flag, .int .i64 pending, .int .i64 ask, .int .i64 count, .int .i64 sense, .int .i64 deques, .int .i64 size, .int .i64 k, .int .i64 0, .int .i64 0, .int .i64 0, .int .i64 0, .bool false, .bool false, .bool false] rfl rfl htht hst (all_oneCell_toArray (cs := [.int .i64 verts, .int .i64 arcs, .int .i64 workers, .int .i64 room, .int .i64 res, .int .i64 lex, .int .i64 hh, .int .i64 flag, .int .i64 pending, .int .i64 ask, .int .i64 count, .int .i64 sense, .int .i64 deques, .int .i64 size, .int .i64 k, .int .i64 0, .int .i64 0, .int .i64 0, .int .i64 0, .bool false, .bool false, .bool false]) (by simp [Value.oneCell'])) ?_; simp only [hWt]) | fail)
  clear htht hWt hst
  simp only [Act.put]
  generalize w2.heap.size = nb at HB3 HNE3 ⊢
  have hrm : W3.rangeAt mb 0 [.int .i64 2, .int .i64 0, .int .i64 k, .int .i64 verts, .int .i64 arcs, .int .i64 workers, .int .i64 room, .int .i64 res, .int .i64 lex, .int .i64 hh, .int .i64 flag, .int .i64 pending, .int .i64 ask, .int .i64 count, .int .i64 sense, .int .i64 deques, .int .i64 size, .int .i64 0, .int .i64 0, .int .i64 0, .int .i64 0, .bool false, .bool false, .bool false] := Blk.range HM3.out
  have hth := Blk.there HR3.out 27 rfl
  obtain ⟨W9, hW9⟩ : ∃ W', W3.setCells rb 0 [.pointer none, .pointer none, .pointer (some ⟨nb, 0, none⟩), .int .i64 2, .int .i64 0, .int .i64 k, .int .i64 verts, .int .i64 arcs, .int .i64 workers, .int .i64 room, .int .i64 res, .int .i64 lex, .int .i64 hh, .int .i64 flag, .int .i64 pending, .int .i64 ask, .int .i64 count, .int .i64 sense, .int .i64 deques, .int .i64 size, .int .i64 0, .int .i64 0, .int .i64 0, .int .i64 0, .bool false, .bool false, .bool false] = W' := ⟨_, rfl⟩
  have hB9 : Blk W9 rb #[.pointer none, .pointer none, .pointer (some ⟨nb, 0, none⟩), .int .i64 2, .int .i64 0, .int .i64 k, .int .i64 verts, .int .i64 arcs, .int .i64 workers, .int .i64 room, .int .i64 res, .int .i64 lex, .int .i64 hh, .int .i64 flag, .int .i64 pending, .int .i64 ask, .int .i64 count, .int .i64 sense, .int .i64 deques, .int .i64 size, .int .i64 0, .int .i64 0, .int .i64 0, .int .i64 0, .bool false, .bool false, .bool false] 75 ∧ Upd (fun k => k = rb) W3 W9 := by rw [← hW9]; exact Blk.alls HR3.out [.pointer none, .pointer none, .pointer (some ⟨nb, 0, none⟩), .int .i64 2, .int .i64 0, .int .i64 k, .int .i64 verts, .int .i64 arcs, .int .i64 workers, .int .i64 room, .int .i64 res, .int .i64 lex, .int .i64 hh, .int .i64 flag, .int .i64 pending, .int .i64 ask, .int .i64 count, .int .i64 sense, .int .i64 deques, .int .i64 size, .int .i64 0, .int .i64 0, .int .i64 0, .int .i64 0, .bool false, .bool false, .bool false] rfl
  have hr9 : W9.rangeAt rb 0 [.pointer none, .pointer none, .pointer (some ⟨nb, 0, none⟩), .int .i64 2, .int .i64 0, .int .i64 k, .int .i64 verts, .int .i64 arcs, .int .i64 workers, .int .i64 room, .int .i64 res, .int .i64 lex, .int .i64 hh, .int .i64 flag, .int .i64 pending, .int .i64 ask, .int .i64 count, .int .i64 sense, .int .i64 deques, .int .i64 size, .int .i64 0, .int .i64 0, .int .i64 0, .int .i64 0, .bool false, .bool false, .bool false] := Blk.range hB9.1
  have hz27 := HZ27.out
  have hz24 := HZ24.out
  have hlv := run_loadVar_mid (P := Try.prog) W9 rb 0 75 [.pointer none, .pointer none, .pointer (some ⟨nb, 0, none⟩), .int .i64 2, .int .i64 0, .int .i64 k, .int .i64 verts, .int .i64 arcs, .int .i64 workers, .int .i64 room, .int .i64 res, .int .i64 lex, .int .i64 hh, .int .i64 flag, .int .i64 pending, .int .i64 ask, .int .i64 count, .int .i64 sense, .int .i64 deques, .int .i64 size, .int .i64 0, .int .i64 0, .int .i64 0, .int .i64 0, .bool false, .bool false, .bool false] _ hr9 Try.underlying75 rfl hz27
  have HF : Hid (BeginEnd .steal (⟨verts, arcs, workers, room, res, lex, hh, flag, pending, ask, count, sense, deques, size⟩ : Lay) k w (.returned (.agg #[.pointer none, .pointer none, .pointer (some ⟨nb, 0, none⟩), .int .i64 2, .int .i64 0, .int .i64 k, .int .i64 verts, .int .i64 arcs, .int .i64 workers, .int .i64 room, .int .i64 res, .int .i64 lex, .int .i64 hh, .int .i64 flag, .int .i64 pending, .int .i64 ask, .int .i64 count, .int .i64 sense, .int .i64 deques, .int .i64 size, .int .i64 0, .int .i64 0, .int .i64 0, .int .i64 0, .bool false, .bool false, .bool false])) W9) := Lib.hid ⟨nb, rfl, PB.upd HB3.out hB9.2 (by have h := HNE3.out; omega), by have h := HNE3.out; omega, HK3.out.then hB9.2 (fun i hi e => by have h := HNE3.out; omega)⟩
  clear hB9 hr9 HR3 HM3 HB3 HK3
  go_wp2_with (first | (refine wpList_load_mid rfl _ _ rfl mb 0 rfl [.int .i64 2, .int .i64 0, .int .i64 k, .int .i64 verts, .int .i64 arcs, .int .i64 workers, .int .i64 room, .int .i64 res, .int .i64 lex, .int .i64 hh, .int .i64 flag, .int .i64 pending, .int .i64 ask, .int .i64 count, .int .i64 sense, .int .i64 deques, .int .i64 size, .int .i64 0, .int .i64 0, .int .i64 0, .int .i64 0, .bool false, .bool false, .bool false] _ hrm Try.underlying73 rfl hz24 ?_) | (refine wpList_store_mid rfl _ _ _ rfl rb 0 #[.pointer none, .pointer none, .pointer (some ⟨nb, 0, none⟩), .int .i64 2, .int .i64 0, .int .i64 k, .int .i64 verts, .int .i64 arcs, .int .i64 workers, .int .i64 room, .int .i64 res, .int .i64 lex, .int .i64 hh, .int .i64 flag, .int .i64 pending, .int .i64 ask, .int .i64 count, .int .i64 sense, .int .i64 deques, .int .i64 size, .int .i64 0, .int .i64 0, .int .i64 0, .int .i64 0, .bool false, .bool false, .bool false] rfl rfl hth hz27 (all_oneCell_toArray (cs := [.pointer none, .pointer none, .pointer (some ⟨nb, 0, none⟩), .int .i64 2, .int .i64 0, .int .i64 k, .int .i64 verts, .int .i64 arcs, .int .i64 workers, .int .i64 room, .int .i64 res, .int .i64 lex, .int .i64 hh, .int .i64 flag, .int .i64 pending, .int .i64 ask, .int .i64 count, .int .i64 sense, .int .i64 deques, .int .i64 size, .int .i64 0, .int .i64 0, .int .i64 0, .int .i64 0, .bool false, .bool false, .bool false]) (by simp [Value.oneCell'])) ?_; simp only [hW9]) | fail)
  clear hth hW9 hrm
  exact bodyPost_ret (v := .agg #[.pointer none, .pointer none, .pointer (some ⟨nb, 0, none⟩), .int .i64 2, .int .i64 0, .int .i64 k, .int .i64 verts, .int .i64 arcs, .int .i64 workers, .int .i64 room, .int .i64 res, .int .i64 lex, .int .i64 hh, .int .i64 flag, .int .i64 pending, .int .i64 ask, .int .i64 count, .int .i64 sense, .int .i64 deques, .int .i64 size, .int .i64 0, .int .i64 0, .int .i64 0, .int .i64 0, .bool false, .bool false, .bool false]) (by simp [results, Try.results26, hlv, asAddr, Act.put]) rfl HF.out

set_option maxRecDepth 100000 in
set_option maxHeartbeats 8000000 in
theorem begin_push (l : Lay) (k who what v : Int) (w : World) (hw : what % 3 < 2) (hw0 : 0 ≤ what) (hw1 : what ≤ 255) : Calls Try.prog 26 #[l.val, .int .i64 k, .agg #[.int .u8 who, .int .u8 what, .int .i64 v], .bool true] w (BeginEnd (.push v) l k w) := by
  have HNU := fun v w => Lib.hid (NewPush_any l k v w)
  have HNP := fun w => Lib.hid (NewPop_any l k w)
  have HNS := fun w => Lib.hid (NewSteal_any l k w)
  obtain ⟨verts, arcs, workers, room, res, lex, hh, flag, pending, ask, count, sense, deques, size⟩ := l
  simp only [Lay.val, Lay.vals, PL] at HNU HNP HNS ⊢
  have HZ14 : Hid ((Try.prog.info? 24).map (·.size) = some 14) := Lib.hid (by kernel_rfl)
  have HZ24 : Hid ((Try.prog.info? 73).map (·.size) = some 24) := Lib.hid (by kernel_rfl)
  have HZ27 : Hid ((Try.prog.info? 75).map (·.size) = some 27) := Lib.hid (by kernel_rfl)
  have HZo : Hid ((Try.prog.info? 51).map (·.size) = some 21) := Lib.hid (by kernel_rfl)
  have HZt : Hid ((Try.prog.info? 45).map (·.size) = some 22) := Lib.hid (by kernel_rfl)
  have HZu : Hid ((Try.prog.info? 48).map (·.size) = some 22) := Lib.hid (by kernel_rfl)
  have b1 := Blk.new w #[.int .i64 verts, .int .i64 arcs, .int .i64 workers, .int .i64 room, .int .i64 res, .int .i64 lex, .int .i64 hh, .int .i64 flag, .int .i64 pending, .int .i64 ask, .int .i64 count, .int .i64 sense, .int .i64 deques, .int .i64 size] 24
  have b2 := Blk.new (w.alloc (.cells #[.int .i64 verts, .int .i64 arcs, .int .i64 workers, .int .i64 room, .int .i64 res, .int .i64 lex, .int .i64 hh, .int .i64 flag, .int .i64 pending, .int .i64 ask, .int .i64 count, .int .i64 sense, .int .i64 deques, .int .i64 size] 24)) #[.int .u8 who, .int .u8 what, .int .i64 v] 34
  have b3 := Blk.new ((w.alloc (.cells #[.int .i64 verts, .int .i64 arcs, .int .i64 workers, .int .i64 room, .int .i64 res, .int .i64 lex, .int .i64 hh, .int .i64 flag, .int .i64 pending, .int .i64 ask, .int .i64 count, .int .i64 sense, .int .i64 deques, .int .i64 size] 24)).alloc (.cells #[.int .u8 who, .int .u8 what, .int .i64 v] 34)) #[.pointer none, .pointer none, .pointer none, .int .i64 0, .int .i64 0, .int .i64 0, .int .i64 0, .int .i64 0, .int .i64 0, .int .i64 0, .int .i64 0, .int .i64 0, .int .i64 0, .int .i64 0, .int .i64 0, .int .i64 0, .int .i64 0, .int .i64 0, .int .i64 0, .int .i64 0, .int .i64 0, .int .i64 0, .int .i64 0, .int .i64 0, .bool false, .bool false, .bool false] 75
  have k3 : Kept w (((w.alloc (.cells #[.int .i64 verts, .int .i64 arcs, .int .i64 workers, .int .i64 room, .int .i64 res, .int .i64 lex, .int .i64 hh, .int .i64 flag, .int .i64 pending, .int .i64 ask, .int .i64 count, .int .i64 sense, .int .i64 deques, .int .i64 size] 24)).alloc (.cells #[.int .u8 who, .int .u8 what, .int .i64 v] 34)).alloc (.cells #[.pointer none, .pointer none, .pointer none, .int .i64 0, .int .i64 0, .int .i64 0, .int .i64 0, .int .i64 0, .int .i64 0, .int .i64 0, .int .i64 0, .int .i64 0, .int .i64 0, .int .i64 0, .int .i64 0, .int .i64 0, .int .i64 0, .int .i64 0, .int .i64 0, .int .i64 0, .int .i64 0, .int .i64 0, .int .i64 0, .int .i64 0, .bool false, .bool false, .bool false] 75)) := (((Upd.refl _ _).alloc _).alloc _).alloc _
  have b1' := (b1.alloc (.cells #[.int .u8 who, .int .u8 what, .int .i64 v] 34)).alloc (.cells #[.pointer none, .pointer none, .pointer none, .int .i64 0, .int .i64 0, .int .i64 0, .int .i64 0, .int .i64 0, .int .i64 0, .int .i64 0, .int .i64 0, .int .i64 0, .int .i64 0, .int .i64 0, .int .i64 0, .int .i64 0, .int .i64 0, .int .i64 0, .int .i64 0, .int .i64 0, .int .i64 0, .int .i64 0, .int .i64 0, .int .i64 0, .bool false, .bool false, .bool false] 75)
  have b2' := b2.alloc (.cells #[.pointer none, .pointer none, .pointer none, .int .i64 0, .int .i64 0, .int .i64 0, .int .i64 0, .int .i64 0, .int .i64 0, .int .i64 0, .int .i64 0, .int .i64 0, .int .i64 0, .int .i64 0, .int .i64 0, .int .i64 0, .int .i64 0, .int .i64 0, .int .i64 0, .int .i64 0, .int .i64 0, .int .i64 0, .int .i64 0, .int .i64 0, .bool false, .bool false, .bool false] 75)
  rw [World.size_alloc] at b2'
  rw [World.size_alloc, World.size_alloc] at b3
  clear b1 b2
  go_enter Try.func26, Try.ntmps26
  go_upto_region 1 with (fail)
  generalize (((w.alloc (.cells #[.int .i64 verts, .int .i64 arcs, .int .i64 workers, .int .i64 room, .int .i64 res, .int .i64 lex, .int .i64 hh, .int .i64 flag, .int .i64 pending, .int .i64 ask, .int .i64 count, .int .i64 sense, .int .i64 deques, .int .i64 size] 24)).alloc (.cells #[.int .u8 who, .int .u8 what, .int .i64 v] 34)).alloc (.cells #[.pointer none, .pointer none, .pointer none, .int .i64 0, .int .i64 0, .int .i64 0, .int .i64 0, .int .i64 0, .int .i64 0, .int .i64 0, .int .i64 0, .int .i64 0, .int .i64 0, .int .i64 0, .int .i64 0, .int .i64 0, .int .i64 0, .int .i64 0, .int .i64 0, .int .i64 0, .int .i64 0, .int .i64 0, .int .i64 0, .int .i64 0, .bool false, .bool false, .bool false] 75)) = W0 at b1' b2' b3 k3 ⊢
  generalize hrb : w.heap.size + 1 + 1 = rb at b3 ⊢
  generalize hob : w.heap.size + 1 = ob at b2' hrb ⊢
  generalize hlb : w.heap.size = lb at b1' hob ⊢
  have HL := Lib.hid b1'
  have HO := Lib.hid b2'
  have HR := Lib.hid b3
  have HK := Lib.hid k3
  have HNE : Hid (w.heap.size = lb ∧ lb + 1 = ob ∧ ob + 1 = rb ∧ rb < W0.heap.size) := Lib.hid ⟨hlb, hob, hrb, b3.lt⟩
  clear b1' b2' b3 k3 hlb hob hrb
  have hra : W0.rangeAt lb 0 [.int .i64 verts, .int .i64 arcs, .int .i64 workers, .int .i64 room, .int .i64 res, .int .i64 lex, .int .i64 hh, .int .i64 flag, .int .i64 pending, .int .i64 ask, .int .i64 count, .int .i64 sense, .int .i64 deques, .int .i64 size] := Blk.range HL.out
  have hZm := Blk.new W0 #[.int .i64 0, .int .i64 0, .int .i64 0, .int .i64 0, .int .i64 0, .int .i64 0, .int .i64 0, .int .i64 0, .int .i64 0, .int .i64 0, .int .i64 0, .int .i64 0, .int .i64 0, .int .i64 0, .int .i64 0, .int .i64 0, .int .i64 0, .int .i64 0, .int .i64 0, .int .i64 0, .int .i64 0, .bool false, .bool false, .bool false] 73
  have hthm := Blk.there hZm 24 rfl
  obtain ⟨W1, hWm⟩ : ∃ W', (W0.alloc (.cells #[.int .i64 0, .int .i64 0, .int .i64 0, .int .i64 0, .int .i64 0, .int .i64 0, .int .i64 0, .int .i64 0, .int .i64 0, .int .i64 0, .int .i64 0, .int .i64 0, .int .i64 0, .int .i64 0, .int .i64 0, .int .i64 0, .int .i64 0, .int .i64 0, .int .i64 0, .int .i64 0, .int .i64 0, .bool false, .bool false, .bool false] 73)).setCells W0.heap.size 0 [.int .i64 2, .int .i64 0, .int .i64 k, .int .i64 verts, .int .i64 arcs, .int .i64 workers, .int .i64 room, .int .i64 res, .int .i64 lex, .int .i64 hh, .int .i64 flag, .int .i64 pending, .int .i64 ask, .int .i64 count, .int .i64 sense, .int .i64 deques, .int .i64 size, .int .i64 0, .int .i64 0, .int .i64 0, .int .i64 0, .bool false, .bool false, .bool false] = W' := ⟨_, rfl⟩
  have hBm : Blk W1 W0.heap.size #[.int .i64 2, .int .i64 0, .int .i64 k, .int .i64 verts, .int .i64 arcs, .int .i64 workers, .int .i64 room, .int .i64 res, .int .i64 lex, .int .i64 hh, .int .i64 flag, .int .i64 pending, .int .i64 ask, .int .i64 count, .int .i64 sense, .int .i64 deques, .int .i64 size, .int .i64 0, .int .i64 0, .int .i64 0, .int .i64 0, .bool false, .bool false, .bool false] 73 ∧ Upd (fun k => k = W0.heap.size) (W0.alloc (.cells #[.int .i64 0, .int .i64 0, .int .i64 0, .int .i64 0, .int .i64 0, .int .i64 0, .int .i64 0, .int .i64 0, .int .i64 0, .int .i64 0, .int .i64 0, .int .i64 0, .int .i64 0, .int .i64 0, .int .i64 0, .int .i64 0, .int .i64 0, .int .i64 0, .int .i64 0, .int .i64 0, .int .i64 0, .bool false, .bool false, .bool false] 73)) W1 := by rw [← hWm]; exact Blk.alls hZm [.int .i64 2, .int .i64 0, .int .i64 k, .int .i64 verts, .int .i64 arcs, .int .i64 workers, .int .i64 room, .int .i64 res, .int .i64 lex, .int .i64 hh, .int .i64 flag, .int .i64 pending, .int .i64 ask, .int .i64 count, .int .i64 sense, .int .i64 deques, .int .i64 size, .int .i64 0, .int .i64 0, .int .i64 0, .int .i64 0, .bool false, .bool false, .bool false] rfl
  have hKm : Kept W0 W1 := (((Upd.refl (fun _ => False) W0).alloc _).then hBm.2 (fun i hi e => by omega))
  have hsm := HZ24.out
  go_upto_region 2 with (first | (refine wpList_load_mid rfl _ _ rfl lb 0 rfl [.int .i64 verts, .int .i64 arcs, .int .i64 workers, .int .i64 room, .int .i64 res, .int .i64 lex, .int .i64 hh, .int .i64 flag, .int .i64 pending, .int .i64 ask, .int .i64 count, .int .i64 sense, .int .i64 deques, .int .i64 size] _ hra Try.underlying24 rfl HZ14.out ?_) | (refine wpList_store_mid rfl _ _ _ rfl W0.heap.size 0 #[.int .i64 2, .int .i64 0, .int .i64 k, .int .i64 verts, .int .i64 arcs, .int .i64 workers, .int .i64 room, .int .i64 res, .int .i64 lex, .int .i64 hh, .int .i64 flag, .int .i64 pending, .int .i64 ask, .int .i64 count, .int .i64 sense, .int .i64 deques, .int .i64 size, .int .i64 0, .int .i64 0, .int .i64 0, .int .i64 0, .bool false, .bool false, .bool false] rfl rfl hthm hsm (all_oneCell_toArray (cs := [.int .i64 2, .int .i64 0, .int .i64 k, .int .i64 verts, .int .i64 arcs, .int .i64 workers, .int .i64 room, .int .i64 res, .int .i64 lex, .int .i64 hh, .int .i64 flag, .int .i64 pending, .int .i64 ask, .int .i64 count, .int .i64 sense, .int .i64 deques, .int .i64 size, .int .i64 0, .int .i64 0, .int .i64 0, .int .i64 0, .bool false, .bool false, .bool false]) (by simp [Value.oneCell'])) ?_; simp only [hWm]) | fail)
  have HL1 := Lib.hid (HL.out.kept hKm)
  have HO1 := Lib.hid (HO.out.kept hKm)
  have HR1 := Lib.hid (HR.out.kept hKm)
  have HK1 := Lib.hid (HK.out.trans hKm)
  have HM1 := Lib.hid hBm.1
  have HNE1 : Hid (w.heap.size = lb ∧ lb + 1 = ob ∧ ob + 1 = rb ∧ rb < W0.heap.size ∧ W0.heap.size < W1.heap.size) := Lib.hid (by have h := HNE.out; have h2 := hBm.1.lt; omega)
  clear hra hZm hthm hWm hBm hKm hsm HL HO HR HK HNE
  simp only [Act.put]
  generalize W0.heap.size = mb at HM1 HNE1 ⊢
  have hd : decide (what % 3 < 2) = true := by simpa using hw
  have cO : ∀ i : Nat, W1.cell? ⟨ob, i, none⟩ = (#[.int .u8 who, .int .u8 what, .int .i64 v] : Array Value)[i]? := HO1.out.cell
  go_upto_region 6 with (fail)
  clear hd
  have hra : W1.rangeAt lb 0 [.int .i64 verts, .int .i64 arcs, .int .i64 workers, .int .i64 room, .int .i64 res, .int .i64 lex, .int .i64 hh, .int .i64 flag, .int .i64 pending, .int .i64 ask, .int .i64 count, .int .i64 sense, .int .i64 deques, .int .i64 size] := Blk.range HL1.out
  go_wp2_with (first | (refine wpList_load_mid rfl _ _ rfl lb 0 rfl [.int .i64 verts, .int .i64 arcs, .int .i64 workers, .int .i64 room, .int .i64 res, .int .i64 lex, .int .i64 hh, .int .i64 flag, .int .i64 pending, .int .i64 ask, .int .i64 count, .int .i64 sense, .int .i64 deques, .int .i64 size] _ hra Try.underlying24 rfl HZ14.out ?_) | fail)
  refine (HNU v _).out.mono ?_
  rintro e w2 ⟨rfl, hk⟩
  have HO2 := Lib.hid (HO1.out.kept hk)
  have HR2 := Lib.hid (HR1.out.kept hk)
  have HK2 := Lib.hid (HK1.out.trans hk)
  have HM2 := Lib.hid (HM1.out.kept hk)
  have HNE2 : Hid (w.heap.size = lb ∧ lb + 1 = ob ∧ ob + 1 = rb ∧ rb < mb ∧ mb < w2.heap.size) := Lib.hid (by have h := HNE1.out; have h2 := hk.size; omega)
  clear cO hra hk HL1 HO1 HR1 HK1 HM1 HNE1
  have hZu := Blk.new w2 #[.int .i64 0, .int .i64 0, .int .i64 0, .int .i64 0, .int .i64 0, .int .i64 0, .int .i64 0, .int .i64 0, .int .i64 0, .int .i64 0, .int .i64 0, .int .i64 0, .int .i64 0, .int .i64 0, .int .i64 0, .int .i64 0, .int .i64 0, .int .i64 0, .int .i64 0, .bool false, .bool false, .int .i64 0] 48
  have hthu := Blk.there hZu 22 rfl
  obtain ⟨W3, hWu⟩ : ∃ W', (w2.alloc (.cells #[.int .i64 0, .int .i64 0, .int .i64 0, .int .i64 0, .int .i64 0, .int .i64 0, .int .i64 0, .int .i64 0, .int .i64 0, .int .i64 0, .int .i64 0, .int .i64 0, .int .i64 0, .int .i64 0, .int .i64 0, .int .i64 0, .int .i64 0, .int .i64 0, .int .i64 0, .bool false, .bool false, .int .i64 0] 48)).setCells w2.heap.size 0 [.int .i64 verts, .int .i64 arcs, .int .i64 workers, .int .i64 room, .int .i64 res, .int .i64 lex, .int .i64 hh, .int .i64 flag, .int .i64 pending, .int .i64 ask, .int .i64 count, .int .i64 sense, .int .i64 deques, .int .i64 size, .int .i64 k, .int .i64 0, .int .i64 0, .int .i64 0, .int .i64 0, .bool false, .bool false, .int .i64 v] = W' := ⟨_, rfl⟩
  have hBu : Blk W3 w2.heap.size #[.int .i64 verts, .int .i64 arcs, .int .i64 workers, .int .i64 room, .int .i64 res, .int .i64 lex, .int .i64 hh, .int .i64 flag, .int .i64 pending, .int .i64 ask, .int .i64 count, .int .i64 sense, .int .i64 deques, .int .i64 size, .int .i64 k, .int .i64 0, .int .i64 0, .int .i64 0, .int .i64 0, .bool false, .bool false, .int .i64 v] 48 ∧ Upd (fun k => k = w2.heap.size) (w2.alloc (.cells #[.int .i64 0, .int .i64 0, .int .i64 0, .int .i64 0, .int .i64 0, .int .i64 0, .int .i64 0, .int .i64 0, .int .i64 0, .int .i64 0, .int .i64 0, .int .i64 0, .int .i64 0, .int .i64 0, .int .i64 0, .int .i64 0, .int .i64 0, .int .i64 0, .int .i64 0, .bool false, .bool false, .int .i64 0] 48)) W3 := by rw [← hWu]; exact Blk.alls hZu [.int .i64 verts, .int .i64 arcs, .int .i64 workers, .int .i64 room, .int .i64 res, .int .i64 lex, .int .i64 hh, .int .i64 flag, .int .i64 pending, .int .i64 ask, .int .i64 count, .int .i64 sense, .int .i64 deques, .int .i64 size, .int .i64 k, .int .i64 0, .int .i64 0, .int .i64 0, .int .i64 0, .bool false, .bool false, .int .i64 v] rfl
  have hKu : Kept w2 W3 := (((Upd.refl (fun _ => False) w2).alloc _).then hBu.2 (fun i hi e => by omega))
  have hsu := HZu.out
  have HO3 := Lib.hid (HO2.out.kept hKu)
  have HR3 := Lib.hid (HR2.out.kept hKu)
  have HK3 := Lib.hid (HK2.out.trans hKu)
  have HM3 := Lib.hid (HM2.out.kept hKu)
  have HB3 := Lib.hid hBu.1
  have HNE3 : Hid (w.heap.size = lb ∧ lb + 1 = ob ∧ ob + 1 = rb ∧ rb < mb ∧ mb < w2.heap.size ∧ w2.heap.size < W3.heap.size) := Lib.hid (by have h := HNE2.out; have h2 := hBu.1.lt; omega)
  clear hBu hKu hZu HO2 HR2 HK2 HM2 HNE2
  go_upto_region 7 with (first | (refine wpList_store_mid rfl _ _ _ rfl w2.heap.size 0 #[.int .i64 verts, .int .i64 arcs, .int .i64 workers, .int .i64 room, .int .i64 res, .int .i64 lex, .int .i64 hh, .int .i64 flag, .int .i64 pending, .int .i64 ask, .int .i64 count, .int .i64 sense, .int .i64 deques, .int .i64 size, .int .i64 k, .int .i64 0, .int .i64 0, .int .i64 0, .int .i64 0, .bool false, .bool false, .int .i64 v] rfl rfl hthu hsu (all_oneCell_toArray (cs := [.int .i64 verts, .int .i64 arcs, .int .i64 workers, .int .i64 room, .int .i64 res, .int .i64 lex, .int .i64 hh, .int .i64 flag, .int .i64 pending, .int .i64 ask, .int .i64 count, .int .i64 sense, .int .i64 deques, .int .i64 size, .int .i64 k, .int .i64 0, .int .i64 0, .int .i64 0, .int .i64 0, .bool false, .bool false, .int .i64 v]) (by simp [Value.oneCell'])) ?_; simp only [hWu]) | fail)
  clear hthu hWu hsu
  simp only [Act.put]
  generalize w2.heap.size = nb at HB3 HNE3 ⊢
  have C0 : W3.drew.cell? ⟨ob, 2, none⟩ = some (.int .i64 v) := HO3.out.cell 2
  have m0 : W3.cell? ⟨mb, 0, none⟩ = some (.int .i64 2) := HM3.out.cell 0
  have m17 : W3.cell? ⟨mb, 17, none⟩ = some (.int .i64 0) := HM3.out.cell 17
  have f0 : W3.frozen? ⟨mb, 0, none⟩ = false := HM3.out.free 0
  have f17 : W3.frozen? ⟨mb, 17, none⟩ = false := HM3.out.free 17
  have hu1 : Upd (fun i => i = mb) W3 ((W3.setCell ⟨mb, 0, none⟩ (.int .i64 0)).setCell ⟨mb, 17, none⟩ (.int .i64 v)) := (updCell W3 mb 0 _).trans (updCell _ mb 17 _)
  have C1 : (W3.setCell ⟨mb, 0, none⟩ (.int .i64 0)).drew.cell? ⟨ob, 2, none⟩ = some (.int .i64 v) := (HO3.out.upd (updCell W3 mb 0 (.int .i64 0)) (by have h := HNE3.out; omega)).cell 2
  have C2 : ((W3.setCell ⟨mb, 0, none⟩ (.int .i64 0)).setCell ⟨mb, 17, none⟩ (.int .i64 v)).drew.cell? ⟨ob, 2, none⟩ = some (.int .i64 v) := (HO3.out.upd hu1 (by have h := HNE3.out; omega)).cell 2
  have HM4 : Hid (Blk ((W3.setCell ⟨mb, 0, none⟩ (.int .i64 0)).setCell ⟨mb, 17, none⟩ (.int .i64 v)).drew mb #[.int .i64 0, .int .i64 0, .int .i64 k, .int .i64 verts, .int .i64 arcs, .int .i64 workers, .int .i64 room, .int .i64 res, .int .i64 lex, .int .i64 hh, .int .i64 flag, .int .i64 pending, .int .i64 ask, .int .i64 count, .int .i64 sense, .int .i64 deques, .int .i64 size, .int .i64 v, .int .i64 0, .int .i64 0, .int .i64 0, .bool false, .bool false, .bool false] 73) := Lib.hid (by have h := (HM3.out.set 0 (.int .i64 0)).set 17 (.int .i64 v); exact h)
  have HU1 := Lib.hid hu1
  go_region_held3 (fun w' => w'.cell? ⟨ob, 2, none⟩ = some (.int .i64 v))
    (first | exact C0 | exact C1 | exact C2)
    (fail)
  all_goals
    clear C0 C1 C2 m0 m17 f0 f17 hu1
    have HR4 := Lib.hid ((HR3.out.upd HU1.out (by have h := HNE3.out; omega)).drew)
    have HB4 := Lib.hid (Blk.drew (Blk.upd HB3.out HU1.out (by have h := HNE3.out; omega)))
    have HK4 := Lib.hid ((HK3.out.then HU1.out (fun i hi e => by have h := HNE3.out; omega)).drew)
    clear HM3 HR3 HB3 HK3 HU1 HO3
    generalize (World.setCell (World.setCell _ ⟨mb, 0, none⟩ _) ⟨mb, 17, none⟩ _).drew = W4 at HM4 HR4 HB4 HK4 ⊢
    have hrm : W4.rangeAt mb 0 [.int .i64 0, .int .i64 0, .int .i64 k, .int .i64 verts, .int .i64 arcs, .int .i64 workers, .int .i64 room, .int .i64 res, .int .i64 lex, .int .i64 hh, .int .i64 flag, .int .i64 pending, .int .i64 ask, .int .i64 count, .int .i64 sense, .int .i64 deques, .int .i64 size, .int .i64 v, .int .i64 0, .int .i64 0, .int .i64 0, .bool false, .bool false, .bool false] := Blk.range HM4.out
    have hth := Blk.there HR4.out 27 rfl
    obtain ⟨W9, hW9⟩ : ∃ W', W4.setCells rb 0 [.pointer (some ⟨nb, 0, none⟩), .pointer none, .pointer none, .int .i64 0, .int .i64 0, .int .i64 k, .int .i64 verts, .int .i64 arcs, .int .i64 workers, .int .i64 room, .int .i64 res, .int .i64 lex, .int .i64 hh, .int .i64 flag, .int .i64 pending, .int .i64 ask, .int .i64 count, .int .i64 sense, .int .i64 deques, .int .i64 size, .int .i64 v, .int .i64 0, .int .i64 0, .int .i64 0, .bool false, .bool false, .bool false] = W' := ⟨_, rfl⟩
    have hB9 : Blk W9 rb #[.pointer (some ⟨nb, 0, none⟩), .pointer none, .pointer none, .int .i64 0, .int .i64 0, .int .i64 k, .int .i64 verts, .int .i64 arcs, .int .i64 workers, .int .i64 room, .int .i64 res, .int .i64 lex, .int .i64 hh, .int .i64 flag, .int .i64 pending, .int .i64 ask, .int .i64 count, .int .i64 sense, .int .i64 deques, .int .i64 size, .int .i64 v, .int .i64 0, .int .i64 0, .int .i64 0, .bool false, .bool false, .bool false] 75 ∧ Upd (fun k => k = rb) W4 W9 := by rw [← hW9]; exact Blk.alls HR4.out [.pointer (some ⟨nb, 0, none⟩), .pointer none, .pointer none, .int .i64 0, .int .i64 0, .int .i64 k, .int .i64 verts, .int .i64 arcs, .int .i64 workers, .int .i64 room, .int .i64 res, .int .i64 lex, .int .i64 hh, .int .i64 flag, .int .i64 pending, .int .i64 ask, .int .i64 count, .int .i64 sense, .int .i64 deques, .int .i64 size, .int .i64 v, .int .i64 0, .int .i64 0, .int .i64 0, .bool false, .bool false, .bool false] rfl
    have hr9 : W9.rangeAt rb 0 [.pointer (some ⟨nb, 0, none⟩), .pointer none, .pointer none, .int .i64 0, .int .i64 0, .int .i64 k, .int .i64 verts, .int .i64 arcs, .int .i64 workers, .int .i64 room, .int .i64 res, .int .i64 lex, .int .i64 hh, .int .i64 flag, .int .i64 pending, .int .i64 ask, .int .i64 count, .int .i64 sense, .int .i64 deques, .int .i64 size, .int .i64 v, .int .i64 0, .int .i64 0, .int .i64 0, .bool false, .bool false, .bool false] := Blk.range hB9.1
    have hz27 := HZ27.out
    have hz24 := HZ24.out
    have hlv := run_loadVar_mid (P := Try.prog) W9 rb 0 75 [.pointer (some ⟨nb, 0, none⟩), .pointer none, .pointer none, .int .i64 0, .int .i64 0, .int .i64 k, .int .i64 verts, .int .i64 arcs, .int .i64 workers, .int .i64 room, .int .i64 res, .int .i64 lex, .int .i64 hh, .int .i64 flag, .int .i64 pending, .int .i64 ask, .int .i64 count, .int .i64 sense, .int .i64 deques, .int .i64 size, .int .i64 v, .int .i64 0, .int .i64 0, .int .i64 0, .bool false, .bool false, .bool false] _ hr9 Try.underlying75 rfl hz27
    have HF : Hid (BeginEnd (.push v) (⟨verts, arcs, workers, room, res, lex, hh, flag, pending, ask, count, sense, deques, size⟩ : Lay) k w (.returned (.agg #[.pointer (some ⟨nb, 0, none⟩), .pointer none, .pointer none, .int .i64 0, .int .i64 0, .int .i64 k, .int .i64 verts, .int .i64 arcs, .int .i64 workers, .int .i64 room, .int .i64 res, .int .i64 lex, .int .i64 hh, .int .i64 flag, .int .i64 pending, .int .i64 ask, .int .i64 count, .int .i64 sense, .int .i64 deques, .int .i64 size, .int .i64 v, .int .i64 0, .int .i64 0, .int .i64 0, .bool false, .bool false, .bool false])) W9) := Lib.hid ⟨nb, rfl, PB.upd HB4.out hB9.2 (by have h := HNE3.out; omega), by have h := HNE3.out; omega, HK4.out.then hB9.2 (fun i hi e => by have h := HNE3.out; omega)⟩
    clear hB9 hr9 HR4 HM4 HB4 HK4
    go_wp2_with (first | (refine wpList_load_mid rfl _ _ rfl mb 0 rfl [.int .i64 0, .int .i64 0, .int .i64 k, .int .i64 verts, .int .i64 arcs, .int .i64 workers, .int .i64 room, .int .i64 res, .int .i64 lex, .int .i64 hh, .int .i64 flag, .int .i64 pending, .int .i64 ask, .int .i64 count, .int .i64 sense, .int .i64 deques, .int .i64 size, .int .i64 v, .int .i64 0, .int .i64 0, .int .i64 0, .bool false, .bool false, .bool false] _ hrm Try.underlying73 rfl hz24 ?_) | (refine wpList_store_mid rfl _ _ _ rfl rb 0 #[.pointer (some ⟨nb, 0, none⟩), .pointer none, .pointer none, .int .i64 0, .int .i64 0, .int .i64 k, .int .i64 verts, .int .i64 arcs, .int .i64 workers, .int .i64 room, .int .i64 res, .int .i64 lex, .int .i64 hh, .int .i64 flag, .int .i64 pending, .int .i64 ask, .int .i64 count, .int .i64 sense, .int .i64 deques, .int .i64 size, .int .i64 v, .int .i64 0, .int .i64 0, .int .i64 0, .bool false, .bool false, .bool false] rfl rfl hth hz27 (all_oneCell_toArray (cs := [.pointer (some ⟨nb, 0, none⟩), .pointer none, .pointer none, .int .i64 0, .int .i64 0, .int .i64 k, .int .i64 verts, .int .i64 arcs, .int .i64 workers, .int .i64 room, .int .i64 res, .int .i64 lex, .int .i64 hh, .int .i64 flag, .int .i64 pending, .int .i64 ask, .int .i64 count, .int .i64 sense, .int .i64 deques, .int .i64 size, .int .i64 v, .int .i64 0, .int .i64 0, .int .i64 0, .bool false, .bool false, .bool false]) (by simp [Value.oneCell'])) ?_; simp only [hW9]) | fail)
    clear hth hW9 hrm
    exact bodyPost_ret (v := .agg #[.pointer (some ⟨nb, 0, none⟩), .pointer none, .pointer none, .int .i64 0, .int .i64 0, .int .i64 k, .int .i64 verts, .int .i64 arcs, .int .i64 workers, .int .i64 room, .int .i64 res, .int .i64 lex, .int .i64 hh, .int .i64 flag, .int .i64 pending, .int .i64 ask, .int .i64 count, .int .i64 sense, .int .i64 deques, .int .i64 size, .int .i64 v, .int .i64 0, .int .i64 0, .int .i64 0, .bool false, .bool false, .bool false]) (by simp [results, Try.results26, hlv, asAddr, Act.put]) rfl HF.out

set_option maxRecDepth 100000 in
set_option maxHeartbeats 8000000 in
theorem begin_pop (l : Lay) (k who what v : Int) (w : World) (hw : ¬ what % 3 < 2) (hw0 : 0 ≤ what) (hw1 : what ≤ 255) : Calls Try.prog 26 #[l.val, .int .i64 k, .agg #[.int .u8 who, .int .u8 what, .int .i64 v], .bool true] w (BeginEnd .pop l k w) := by
  have HNU := fun v w => Lib.hid (NewPush_any l k v w)
  have HNP := fun w => Lib.hid (NewPop_any l k w)
  have HNS := fun w => Lib.hid (NewSteal_any l k w)
  obtain ⟨verts, arcs, workers, room, res, lex, hh, flag, pending, ask, count, sense, deques, size⟩ := l
  simp only [Lay.val, Lay.vals, PL] at HNU HNP HNS ⊢
  have HZ14 : Hid ((Try.prog.info? 24).map (·.size) = some 14) := Lib.hid (by kernel_rfl)
  have HZ24 : Hid ((Try.prog.info? 73).map (·.size) = some 24) := Lib.hid (by kernel_rfl)
  have HZ27 : Hid ((Try.prog.info? 75).map (·.size) = some 27) := Lib.hid (by kernel_rfl)
  have HZo : Hid ((Try.prog.info? 51).map (·.size) = some 21) := Lib.hid (by kernel_rfl)
  have HZt : Hid ((Try.prog.info? 45).map (·.size) = some 22) := Lib.hid (by kernel_rfl)
  have HZu : Hid ((Try.prog.info? 48).map (·.size) = some 22) := Lib.hid (by kernel_rfl)
  have b1 := Blk.new w #[.int .i64 verts, .int .i64 arcs, .int .i64 workers, .int .i64 room, .int .i64 res, .int .i64 lex, .int .i64 hh, .int .i64 flag, .int .i64 pending, .int .i64 ask, .int .i64 count, .int .i64 sense, .int .i64 deques, .int .i64 size] 24
  have b2 := Blk.new (w.alloc (.cells #[.int .i64 verts, .int .i64 arcs, .int .i64 workers, .int .i64 room, .int .i64 res, .int .i64 lex, .int .i64 hh, .int .i64 flag, .int .i64 pending, .int .i64 ask, .int .i64 count, .int .i64 sense, .int .i64 deques, .int .i64 size] 24)) #[.int .u8 who, .int .u8 what, .int .i64 v] 34
  have b3 := Blk.new ((w.alloc (.cells #[.int .i64 verts, .int .i64 arcs, .int .i64 workers, .int .i64 room, .int .i64 res, .int .i64 lex, .int .i64 hh, .int .i64 flag, .int .i64 pending, .int .i64 ask, .int .i64 count, .int .i64 sense, .int .i64 deques, .int .i64 size] 24)).alloc (.cells #[.int .u8 who, .int .u8 what, .int .i64 v] 34)) #[.pointer none, .pointer none, .pointer none, .int .i64 0, .int .i64 0, .int .i64 0, .int .i64 0, .int .i64 0, .int .i64 0, .int .i64 0, .int .i64 0, .int .i64 0, .int .i64 0, .int .i64 0, .int .i64 0, .int .i64 0, .int .i64 0, .int .i64 0, .int .i64 0, .int .i64 0, .int .i64 0, .int .i64 0, .int .i64 0, .int .i64 0, .bool false, .bool false, .bool false] 75
  have k3 : Kept w (((w.alloc (.cells #[.int .i64 verts, .int .i64 arcs, .int .i64 workers, .int .i64 room, .int .i64 res, .int .i64 lex, .int .i64 hh, .int .i64 flag, .int .i64 pending, .int .i64 ask, .int .i64 count, .int .i64 sense, .int .i64 deques, .int .i64 size] 24)).alloc (.cells #[.int .u8 who, .int .u8 what, .int .i64 v] 34)).alloc (.cells #[.pointer none, .pointer none, .pointer none, .int .i64 0, .int .i64 0, .int .i64 0, .int .i64 0, .int .i64 0, .int .i64 0, .int .i64 0, .int .i64 0, .int .i64 0, .int .i64 0, .int .i64 0, .int .i64 0, .int .i64 0, .int .i64 0, .int .i64 0, .int .i64 0, .int .i64 0, .int .i64 0, .int .i64 0, .int .i64 0, .int .i64 0, .bool false, .bool false, .bool false] 75)) := (((Upd.refl _ _).alloc _).alloc _).alloc _
  have b1' := (b1.alloc (.cells #[.int .u8 who, .int .u8 what, .int .i64 v] 34)).alloc (.cells #[.pointer none, .pointer none, .pointer none, .int .i64 0, .int .i64 0, .int .i64 0, .int .i64 0, .int .i64 0, .int .i64 0, .int .i64 0, .int .i64 0, .int .i64 0, .int .i64 0, .int .i64 0, .int .i64 0, .int .i64 0, .int .i64 0, .int .i64 0, .int .i64 0, .int .i64 0, .int .i64 0, .int .i64 0, .int .i64 0, .int .i64 0, .bool false, .bool false, .bool false] 75)
  have b2' := b2.alloc (.cells #[.pointer none, .pointer none, .pointer none, .int .i64 0, .int .i64 0, .int .i64 0, .int .i64 0, .int .i64 0, .int .i64 0, .int .i64 0, .int .i64 0, .int .i64 0, .int .i64 0, .int .i64 0, .int .i64 0, .int .i64 0, .int .i64 0, .int .i64 0, .int .i64 0, .int .i64 0, .int .i64 0, .int .i64 0, .int .i64 0, .int .i64 0, .bool false, .bool false, .bool false] 75)
  rw [World.size_alloc] at b2'
  rw [World.size_alloc, World.size_alloc] at b3
  clear b1 b2
  go_enter Try.func26, Try.ntmps26
  go_upto_region 1 with (fail)
  generalize (((w.alloc (.cells #[.int .i64 verts, .int .i64 arcs, .int .i64 workers, .int .i64 room, .int .i64 res, .int .i64 lex, .int .i64 hh, .int .i64 flag, .int .i64 pending, .int .i64 ask, .int .i64 count, .int .i64 sense, .int .i64 deques, .int .i64 size] 24)).alloc (.cells #[.int .u8 who, .int .u8 what, .int .i64 v] 34)).alloc (.cells #[.pointer none, .pointer none, .pointer none, .int .i64 0, .int .i64 0, .int .i64 0, .int .i64 0, .int .i64 0, .int .i64 0, .int .i64 0, .int .i64 0, .int .i64 0, .int .i64 0, .int .i64 0, .int .i64 0, .int .i64 0, .int .i64 0, .int .i64 0, .int .i64 0, .int .i64 0, .int .i64 0, .int .i64 0, .int .i64 0, .int .i64 0, .bool false, .bool false, .bool false] 75)) = W0 at b1' b2' b3 k3 ⊢
  generalize hrb : w.heap.size + 1 + 1 = rb at b3 ⊢
  generalize hob : w.heap.size + 1 = ob at b2' hrb ⊢
  generalize hlb : w.heap.size = lb at b1' hob ⊢
  have HL := Lib.hid b1'
  have HO := Lib.hid b2'
  have HR := Lib.hid b3
  have HK := Lib.hid k3
  have HNE : Hid (w.heap.size = lb ∧ lb + 1 = ob ∧ ob + 1 = rb ∧ rb < W0.heap.size) := Lib.hid ⟨hlb, hob, hrb, b3.lt⟩
  clear b1' b2' b3 k3 hlb hob hrb
  have hra : W0.rangeAt lb 0 [.int .i64 verts, .int .i64 arcs, .int .i64 workers, .int .i64 room, .int .i64 res, .int .i64 lex, .int .i64 hh, .int .i64 flag, .int .i64 pending, .int .i64 ask, .int .i64 count, .int .i64 sense, .int .i64 deques, .int .i64 size] := Blk.range HL.out
  have hZm := Blk.new W0 #[.int .i64 0, .int .i64 0, .int .i64 0, .int .i64 0, .int .i64 0, .int .i64 0, .int .i64 0, .int .i64 0, .int .i64 0, .int .i64 0, .int .i64 0, .int .i64 0, .int .i64 0, .int .i64 0, .int .i64 0, .int .i64 0, .int .i64 0, .int .i64 0, .int .i64 0, .int .i64 0, .int .i64 0, .bool false, .bool false, .bool false] 73
  have hthm := Blk.there hZm 24 rfl
  obtain ⟨W1, hWm⟩ : ∃ W', (W0.alloc (.cells #[.int .i64 0, .int .i64 0, .int .i64 0, .int .i64 0, .int .i64 0, .int .i64 0, .int .i64 0, .int .i64 0, .int .i64 0, .int .i64 0, .int .i64 0, .int .i64 0, .int .i64 0, .int .i64 0, .int .i64 0, .int .i64 0, .int .i64 0, .int .i64 0, .int .i64 0, .int .i64 0, .int .i64 0, .bool false, .bool false, .bool false] 73)).setCells W0.heap.size 0 [.int .i64 2, .int .i64 0, .int .i64 k, .int .i64 verts, .int .i64 arcs, .int .i64 workers, .int .i64 room, .int .i64 res, .int .i64 lex, .int .i64 hh, .int .i64 flag, .int .i64 pending, .int .i64 ask, .int .i64 count, .int .i64 sense, .int .i64 deques, .int .i64 size, .int .i64 0, .int .i64 0, .int .i64 0, .int .i64 0, .bool false, .bool false, .bool false] = W' := ⟨_, rfl⟩
  have hBm : Blk W1 W0.heap.size #[.int .i64 2, .int .i64 0, .int .i64 k, .int .i64 verts, .int .i64 arcs, .int .i64 workers, .int .i64 room, .int .i64 res, .int .i64 lex, .int .i64 hh, .int .i64 flag, .int .i64 pending, .int .i64 ask, .int .i64 count, .int .i64 sense, .int .i64 deques, .int .i64 size, .int .i64 0, .int .i64 0, .int .i64 0, .int .i64 0, .bool false, .bool false, .bool false] 73 ∧ Upd (fun k => k = W0.heap.size) (W0.alloc (.cells #[.int .i64 0, .int .i64 0, .int .i64 0, .int .i64 0, .int .i64 0, .int .i64 0, .int .i64 0, .int .i64 0, .int .i64 0, .int .i64 0, .int .i64 0, .int .i64 0, .int .i64 0, .int .i64 0, .int .i64 0, .int .i64 0, .int .i64 0, .int .i64 0, .int .i64 0, .int .i64 0, .int .i64 0, .bool false, .bool false, .bool false] 73)) W1 := by rw [← hWm]; exact Blk.alls hZm [.int .i64 2, .int .i64 0, .int .i64 k, .int .i64 verts, .int .i64 arcs, .int .i64 workers, .int .i64 room, .int .i64 res, .int .i64 lex, .int .i64 hh, .int .i64 flag, .int .i64 pending, .int .i64 ask, .int .i64 count, .int .i64 sense, .int .i64 deques, .int .i64 size, .int .i64 0, .int .i64 0, .int .i64 0, .int .i64 0, .bool false, .bool false, .bool false] rfl
  have hKm : Kept W0 W1 := (((Upd.refl (fun _ => False) W0).alloc _).then hBm.2 (fun i hi e => by omega))
  have hsm := HZ24.out
  go_upto_region 2 with (first | (refine wpList_load_mid rfl _ _ rfl lb 0 rfl [.int .i64 verts, .int .i64 arcs, .int .i64 workers, .int .i64 room, .int .i64 res, .int .i64 lex, .int .i64 hh, .int .i64 flag, .int .i64 pending, .int .i64 ask, .int .i64 count, .int .i64 sense, .int .i64 deques, .int .i64 size] _ hra Try.underlying24 rfl HZ14.out ?_) | (refine wpList_store_mid rfl _ _ _ rfl W0.heap.size 0 #[.int .i64 2, .int .i64 0, .int .i64 k, .int .i64 verts, .int .i64 arcs, .int .i64 workers, .int .i64 room, .int .i64 res, .int .i64 lex, .int .i64 hh, .int .i64 flag, .int .i64 pending, .int .i64 ask, .int .i64 count, .int .i64 sense, .int .i64 deques, .int .i64 size, .int .i64 0, .int .i64 0, .int .i64 0, .int .i64 0, .bool false, .bool false, .bool false] rfl rfl hthm hsm (all_oneCell_toArray (cs := [.int .i64 2, .int .i64 0, .int .i64 k, .int .i64 verts, .int .i64 arcs, .int .i64 workers, .int .i64 room, .int .i64 res, .int .i64 lex, .int .i64 hh, .int .i64 flag, .int .i64 pending, .int .i64 ask, .int .i64 count, .int .i64 sense, .int .i64 deques, .int .i64 size, .int .i64 0, .int .i64 0, .int .i64 0, .int .i64 0, .bool false, .bool false, .bool false]) (by simp [Value.oneCell'])) ?_; simp only [hWm]) | fail)
  have HL1 := Lib.hid (HL.out.kept hKm)
  have HO1 := Lib.hid (HO.out.kept hKm)
  have HR1 := Lib.hid (HR.out.kept hKm)
  have HK1 := Lib.hid (HK.out.trans hKm)
  have HM1 := Lib.hid hBm.1
  have HNE1 : Hid (w.heap.size = lb ∧ lb + 1 = ob ∧ ob + 1 = rb ∧ rb < W0.heap.size ∧ W0.heap.size < W1.heap.size) := Lib.hid (by have h := HNE.out; have h2 := hBm.1.lt; omega)
  clear hra hZm hthm hWm hBm hKm hsm HL HO HR HK HNE
  simp only [Act.put]
  generalize W0.heap.size = mb at HM1 HNE1 ⊢
  have hd : decide (what % 3 < 2) = false := by simpa using hw
  have cO : ∀ i : Nat, W1.cell? ⟨ob, i, none⟩ = (#[.int .u8 who, .int .u8 what, .int .i64 v] : Array Value)[i]? := HO1.out.cell
  go_upto_region 9 with (fail)
  clear hd cO
  have hra : W1.rangeAt lb 0 [.int .i64 verts, .int .i64 arcs, .int .i64 workers, .int .i64 room, .int .i64 res, .int .i64 lex, .int .i64 hh, .int .i64 flag, .int .i64 pending, .int .i64 ask, .int .i64 count, .int .i64 sense, .int .i64 deques, .int .i64 size] := Blk.range HL1.out
  go_wp2_with (first | (refine wpList_load_mid rfl _ _ rfl lb 0 rfl [.int .i64 verts, .int .i64 arcs, .int .i64 workers, .int .i64 room, .int .i64 res, .int .i64 lex, .int .i64 hh, .int .i64 flag, .int .i64 pending, .int .i64 ask, .int .i64 count, .int .i64 sense, .int .i64 deques, .int .i64 size] _ hra Try.underlying24 rfl HZ14.out ?_) | fail)
  refine (HNP _).out.mono ?_
  rintro e w2 ⟨rfl, hk⟩
  have HO2 := Lib.hid (HO1.out.kept hk)
  have HR2 := Lib.hid (HR1.out.kept hk)
  have HK2 := Lib.hid (HK1.out.trans hk)
  have HM2 := Lib.hid (HM1.out.kept hk)
  have HNE2 : Hid (w.heap.size = lb ∧ lb + 1 = ob ∧ ob + 1 = rb ∧ rb < mb ∧ mb < w2.heap.size) := Lib.hid (by have h := HNE1.out; have h2 := hk.size; omega)
  clear hra hk HL1 HO1 HR1 HK1 HM1 HNE1
  have hZo := Blk.new w2 #[.int .i64 0, .int .i64 0, .int .i64 0, .int .i64 0, .int .i64 0, .int .i64 0, .int .i64 0, .int .i64 0, .int .i64 0, .int .i64 0, .int .i64 0, .int .i64 0, .int .i64 0, .int .i64 0, .int .i64 0, .int .i64 0, .int .i64 0, .int .i64 0, .int .i64 0, .bool false, .bool false] 51
  have htho := Blk.there hZo 21 rfl
  obtain ⟨W3, hWo⟩ : ∃ W', (w2.alloc (.cells #[.int .i64 0, .int .i64 0, .int .i64 0, .int .i64 0, .int .i64 0, .int .i64 0, .int .i64 0, .int .i64 0, .int .i64 0, .int .i64 0, .int .i64 0, .int .i64 0, .int .i64 0, .int .i64 0, .int .i64 0, .int .i64 0, .int .i64 0, .int .i64 0, .int .i64 0, .bool false, .bool false] 51)).setCells w2.heap.size 0 [.int .i64 verts, .int .i64 arcs, .int .i64 workers, .int .i64 room, .int .i64 res, .int .i64 lex, .int .i64 hh, .int .i64 flag, .int .i64 pending, .int .i64 ask, .int .i64 count, .int .i64 sense, .int .i64 deques, .int .i64 size, .int .i64 k, .int .i64 0, .int .i64 0, .int .i64 0, .int .i64 0, .bool false, .bool false] = W' := ⟨_, rfl⟩
  have hBo : Blk W3 w2.heap.size #[.int .i64 verts, .int .i64 arcs, .int .i64 workers, .int .i64 room, .int .i64 res, .int .i64 lex, .int .i64 hh, .int .i64 flag, .int .i64 pending, .int .i64 ask, .int .i64 count, .int .i64 sense, .int .i64 deques, .int .i64 size, .int .i64 k, .int .i64 0, .int .i64 0, .int .i64 0, .int .i64 0, .bool false, .bool false] 51 ∧ Upd (fun k => k = w2.heap.size) (w2.alloc (.cells #[.int .i64 0, .int .i64 0, .int .i64 0, .int .i64 0, .int .i64 0, .int .i64 0, .int .i64 0, .int .i64 0, .int .i64 0, .int .i64 0, .int .i64 0, .int .i64 0, .int .i64 0, .int .i64 0, .int .i64 0, .int .i64 0, .int .i64 0, .int .i64 0, .int .i64 0, .bool false, .bool false] 51)) W3 := by rw [← hWo]; exact Blk.alls hZo [.int .i64 verts, .int .i64 arcs, .int .i64 workers, .int .i64 room, .int .i64 res, .int .i64 lex, .int .i64 hh, .int .i64 flag, .int .i64 pending, .int .i64 ask, .int .i64 count, .int .i64 sense, .int .i64 deques, .int .i64 size, .int .i64 k, .int .i64 0, .int .i64 0, .int .i64 0, .int .i64 0, .bool false, .bool false] rfl
  have hKo : Kept w2 W3 := (((Upd.refl (fun _ => False) w2).alloc _).then hBo.2 (fun i hi e => by omega))
  have hso := HZo.out
  have HO3 := Lib.hid (HO2.out.kept hKo)
  have HR3 := Lib.hid (HR2.out.kept hKo)
  have HK3 := Lib.hid (HK2.out.trans hKo)
  have HM3 := Lib.hid (HM2.out.kept hKo)
  have HB3 := Lib.hid hBo.1
  have HNE3 : Hid (w.heap.size = lb ∧ lb + 1 = ob ∧ ob + 1 = rb ∧ rb < mb ∧ mb < w2.heap.size ∧ w2.heap.size < W3.heap.size) := Lib.hid (by have h := HNE2.out; have h2 := hBo.1.lt; omega)
  clear hBo hKo hZo HO2 HR2 HK2 HM2 HNE2
  go_upto_region 10 with (first | (refine wpList_store_mid rfl _ _ _ rfl w2.heap.size 0 #[.int .i64 verts, .int .i64 arcs, .int .i64 workers, .int .i64 room, .int .i64 res, .int .i64 lex, .int .i64 hh, .int .i64 flag, .int .i64 pending, .int .i64 ask, .int .i64 count, .int .i64 sense, .int .i64 deques, .int .i64 size, .int .i64 k, .int .i64 0, .int .i64 0, .int .i64 0, .int .i64 0, .bool false, .bool false] rfl rfl htho hso (all_oneCell_toArray (cs := [.int .i64 verts, .int .i64 arcs, .int .i64 workers, .int .i64 room, .int .i64 res, .int .i64 lex, .int .i64 hh, .int .i64 flag, .int .i64 pending, .int .i64 ask, .int .i64 count, .int .i64 sense, .int .i64 deques, .int .i64 size, .int .i64 k, .int .i64 0, .int .i64 0, .int .i64 0, .int .i64 0, .bool false, .bool false]) (by simp [Value.oneCell'])) ?_; simp only [hWo]) | fail)
  clear htho hWo hso
  simp only [Act.put]
  generalize w2.heap.size = nb at HB3 HNE3 ⊢
  have m0 : W3.cell? ⟨mb, 0, none⟩ = some (.int .i64 2) := HM3.out.cell 0
  have f0 : W3.frozen? ⟨mb, 0, none⟩ = false := HM3.out.free 0
  have hu1 := updCell W3 mb 0 (.int .i64 1)
  go_upto_region 11 with (fail)
  have HM4 : Hid (Blk (W3.setCell ⟨mb, 0, none⟩ (.int .i64 1)) mb #[.int .i64 1, .int .i64 0, .int .i64 k, .int .i64 verts, .int .i64 arcs, .int .i64 workers, .int .i64 room, .int .i64 res, .int .i64 lex, .int .i64 hh, .int .i64 flag, .int .i64 pending, .int .i64 ask, .int .i64 count, .int .i64 sense, .int .i64 deques, .int .i64 size, .int .i64 0, .int .i64 0, .int .i64 0, .int .i64 0, .bool false, .bool false, .bool false] 73) := Lib.hid (by have h := HM3.out.set 0 (.int .i64 1); exact h)
  have HR4 := Lib.hid (HR3.out.upd hu1 (by have h := HNE3.out; omega))
  have HB4 := Lib.hid (Blk.upd HB3.out hu1 (by have h := HNE3.out; omega))
  have HK4 := Lib.hid (HK3.out.then hu1 (fun i hi e => by have h := HNE3.out; omega))
  clear HM3 HR3 HB3 HK3 hu1 HO3 m0 f0
  generalize World.setCell _ ⟨mb, 0, none⟩ _ = W4 at HM4 HR4 HB4 HK4 ⊢
  have hrm : W4.rangeAt mb 0 [.int .i64 1, .int .i64 0, .int .i64 k, .int .i64 verts, .int .i64 arcs, .int .i64 workers, .int .i64 room, .int .i64 res, .int .i64 lex, .int .i64 hh, .int .i64 flag, .int .i64 pending, .int .i64 ask, .int .i64 count, .int .i64 sense, .int .i64 deques, .int .i64 size, .int .i64 0, .int .i64 0, .int .i64 0, .int .i64 0, .bool false, .bool false, .bool false] := Blk.range HM4.out
  have hth := Blk.there HR4.out 27 rfl
  obtain ⟨W9, hW9⟩ : ∃ W', W4.setCells rb 0 [.pointer none, .pointer (some ⟨nb, 0, none⟩), .pointer none, .int .i64 1, .int .i64 0, .int .i64 k, .int .i64 verts, .int .i64 arcs, .int .i64 workers, .int .i64 room, .int .i64 res, .int .i64 lex, .int .i64 hh, .int .i64 flag, .int .i64 pending, .int .i64 ask, .int .i64 count, .int .i64 sense, .int .i64 deques, .int .i64 size, .int .i64 0, .int .i64 0, .int .i64 0, .int .i64 0, .bool false, .bool false, .bool false] = W' := ⟨_, rfl⟩
  have hB9 : Blk W9 rb #[.pointer none, .pointer (some ⟨nb, 0, none⟩), .pointer none, .int .i64 1, .int .i64 0, .int .i64 k, .int .i64 verts, .int .i64 arcs, .int .i64 workers, .int .i64 room, .int .i64 res, .int .i64 lex, .int .i64 hh, .int .i64 flag, .int .i64 pending, .int .i64 ask, .int .i64 count, .int .i64 sense, .int .i64 deques, .int .i64 size, .int .i64 0, .int .i64 0, .int .i64 0, .int .i64 0, .bool false, .bool false, .bool false] 75 ∧ Upd (fun k => k = rb) W4 W9 := by rw [← hW9]; exact Blk.alls HR4.out [.pointer none, .pointer (some ⟨nb, 0, none⟩), .pointer none, .int .i64 1, .int .i64 0, .int .i64 k, .int .i64 verts, .int .i64 arcs, .int .i64 workers, .int .i64 room, .int .i64 res, .int .i64 lex, .int .i64 hh, .int .i64 flag, .int .i64 pending, .int .i64 ask, .int .i64 count, .int .i64 sense, .int .i64 deques, .int .i64 size, .int .i64 0, .int .i64 0, .int .i64 0, .int .i64 0, .bool false, .bool false, .bool false] rfl
  have hr9 : W9.rangeAt rb 0 [.pointer none, .pointer (some ⟨nb, 0, none⟩), .pointer none, .int .i64 1, .int .i64 0, .int .i64 k, .int .i64 verts, .int .i64 arcs, .int .i64 workers, .int .i64 room, .int .i64 res, .int .i64 lex, .int .i64 hh, .int .i64 flag, .int .i64 pending, .int .i64 ask, .int .i64 count, .int .i64 sense, .int .i64 deques, .int .i64 size, .int .i64 0, .int .i64 0, .int .i64 0, .int .i64 0, .bool false, .bool false, .bool false] := Blk.range hB9.1
  have hz27 := HZ27.out
  have hz24 := HZ24.out
  have hlv := run_loadVar_mid (P := Try.prog) W9 rb 0 75 [.pointer none, .pointer (some ⟨nb, 0, none⟩), .pointer none, .int .i64 1, .int .i64 0, .int .i64 k, .int .i64 verts, .int .i64 arcs, .int .i64 workers, .int .i64 room, .int .i64 res, .int .i64 lex, .int .i64 hh, .int .i64 flag, .int .i64 pending, .int .i64 ask, .int .i64 count, .int .i64 sense, .int .i64 deques, .int .i64 size, .int .i64 0, .int .i64 0, .int .i64 0, .int .i64 0, .bool false, .bool false, .bool false] _ hr9 Try.underlying75 rfl hz27
  have HF : Hid (BeginEnd .pop (⟨verts, arcs, workers, room, res, lex, hh, flag, pending, ask, count, sense, deques, size⟩ : Lay) k w (.returned (.agg #[.pointer none, .pointer (some ⟨nb, 0, none⟩), .pointer none, .int .i64 1, .int .i64 0, .int .i64 k, .int .i64 verts, .int .i64 arcs, .int .i64 workers, .int .i64 room, .int .i64 res, .int .i64 lex, .int .i64 hh, .int .i64 flag, .int .i64 pending, .int .i64 ask, .int .i64 count, .int .i64 sense, .int .i64 deques, .int .i64 size, .int .i64 0, .int .i64 0, .int .i64 0, .int .i64 0, .bool false, .bool false, .bool false])) W9) := Lib.hid ⟨nb, rfl, PB.upd HB4.out hB9.2 (by have h := HNE3.out; omega), by have h := HNE3.out; omega, HK4.out.then hB9.2 (fun i hi e => by have h := HNE3.out; omega)⟩
  clear hB9 hr9 HR4 HM4 HB4 HK4
  go_wp2_with (first | (refine wpList_load_mid rfl _ _ rfl mb 0 rfl [.int .i64 1, .int .i64 0, .int .i64 k, .int .i64 verts, .int .i64 arcs, .int .i64 workers, .int .i64 room, .int .i64 res, .int .i64 lex, .int .i64 hh, .int .i64 flag, .int .i64 pending, .int .i64 ask, .int .i64 count, .int .i64 sense, .int .i64 deques, .int .i64 size, .int .i64 0, .int .i64 0, .int .i64 0, .int .i64 0, .bool false, .bool false, .bool false] _ hrm Try.underlying73 rfl hz24 ?_) | (refine wpList_store_mid rfl _ _ _ rfl rb 0 #[.pointer none, .pointer (some ⟨nb, 0, none⟩), .pointer none, .int .i64 1, .int .i64 0, .int .i64 k, .int .i64 verts, .int .i64 arcs, .int .i64 workers, .int .i64 room, .int .i64 res, .int .i64 lex, .int .i64 hh, .int .i64 flag, .int .i64 pending, .int .i64 ask, .int .i64 count, .int .i64 sense, .int .i64 deques, .int .i64 size, .int .i64 0, .int .i64 0, .int .i64 0, .int .i64 0, .bool false, .bool false, .bool false] rfl rfl hth hz27 (all_oneCell_toArray (cs := [.pointer none, .pointer (some ⟨nb, 0, none⟩), .pointer none, .int .i64 1, .int .i64 0, .int .i64 k, .int .i64 verts, .int .i64 arcs, .int .i64 workers, .int .i64 room, .int .i64 res, .int .i64 lex, .int .i64 hh, .int .i64 flag, .int .i64 pending, .int .i64 ask, .int .i64 count, .int .i64 sense, .int .i64 deques, .int .i64 size, .int .i64 0, .int .i64 0, .int .i64 0, .int .i64 0, .bool false, .bool false, .bool false]) (by simp [Value.oneCell'])) ?_; simp only [hW9]) | fail)
  clear hth hW9 hrm
  exact bodyPost_ret (v := .agg #[.pointer none, .pointer (some ⟨nb, 0, none⟩), .pointer none, .int .i64 1, .int .i64 0, .int .i64 k, .int .i64 verts, .int .i64 arcs, .int .i64 workers, .int .i64 room, .int .i64 res, .int .i64 lex, .int .i64 hh, .int .i64 flag, .int .i64 pending, .int .i64 ask, .int .i64 count, .int .i64 sense, .int .i64 deques, .int .i64 size, .int .i64 0, .int .i64 0, .int .i64 0, .int .i64 0, .bool false, .bool false, .bool false]) (by simp [results, Try.results26, hlv, asAddr, Act.put]) rfl HF.out

end Go.Proofs.Ytdgkemadhooogaa
