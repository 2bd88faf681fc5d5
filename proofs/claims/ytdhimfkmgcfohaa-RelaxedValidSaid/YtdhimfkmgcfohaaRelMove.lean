/- relaxed.Move (printed by gen_relmove.py) -/
import Derived.Test.YtdhimfkmgcfohaaRelRun
import Derived.Deep.CutRange
import Derived.Deep.RegionHeld3
import Derived.Deep.MidRow
import Derived.Deep.Onto
import Derived.Great.BuildSlice
namespace Go.Proofs.Ytdhimfkmgcfohaa
set_option linter.unusedVariables false
set_option linter.unusedSimpArgs false
open Go.RowKit
attribute [local go_sem] cell?_ext

theorem infoEv : (Try.prog.info? 39).map (fun i => (i.zero, i.size, i.bytes)) = some (some (.agg #[.int .i64 0, .int .u8 0, .int .i64 0, .int .i64 0, .int .i64 0, .int .i64 0, .int .i64 0]), 7, 56) := by kernel_rfl
theorem fill_one7 (cells0 mc : Array Value) (h0 : cells0.size = 7) (hm : mc.size = 7) : Instr.fill (fun i => some (i * 7, 7)) cells0 [(0, .agg mc)] = some mc := by
  have := Go.Great.fill_whole (s := 7) (by omega) [.agg mc] cells0 (by simp [Value.cells, hm]) (by simp [h0])
  simpa [Value.cells] using this
/-- One move, in a row of its own. -/
theorem evr_one {w : World} {b : Nat} {T : TypeId} {e : Ev} (h : Blk w b e.cells.toArray T) : EvR w (some ⟨b, 0, none⟩) [e] := by
  refine .inr ⟨b, 0, rfl, fun i hi j v hv => ?_⟩
  have hi0 : i = 0 := by simp at hi; omega
  subst hi0
  simp only [Nat.zero_mul, Nat.zero_add]
  rw [h.cell]
  simpa using hv
theorem run_one (N S T : Int) (n : Nat) (ys : List Ar) (p : PS) (e : Ev) : (runP N S T n ys [e] p).1 = moveP N S T n ys p e ∧ (runP N S T n ys [e] p).2.2 = legalP N S T ys p e := by
  simp only [runP, moveP]
  split <;> simp_all
set_option maxRecDepth 100000 in
set_option maxHeartbeats 4000000 in
theorem move_any (N S T : Int) (n m : Nat) (a3 a4 a5 a6 a7 a8 : Option Addr) (c3 c4 c5 c6 c7 c8 : Nat) (ys : List Ar) (p : PS) (ra : Option Addr) (rc : Nat) (ea : Option Addr) (ec : Nat) (za : Option Addr) (zc : Nat) (who wt u ar d h lo : Int) (w : World) (hg : Gr N S T n m ys) (hcr : CsrR w n ys a3 a4 a5 a6 a7 a8) (hok : p.ok n m) (hr : Rd w ra (lv p.rs)) (he : Rd w ea (lv p.es)) (hz : Rd w za (lv p.hs)) (s1 : SomeOr ra m rc) (s2 : SomeOr ea n ec) (s3 : SomeOr za n zc) (hwt : (Lit.int .u8 wt).wf = true) :
    Calls Try.prog 13 #[.agg #[.int .i64 N, .int .i64 S, .int .i64 T, .slice a3 (n + 1) c3, .slice a4 m c4, .slice a5 m c5, .slice a6 m c6, .slice a7 m c7, .slice a8 m c8], .agg #[.slice ra m rc, .slice ea n ec, .slice za n zc], .agg #[.int .i64 who, .int .u8 wt, .int .i64 u, .int .i64 ar, .int .i64 d, .int .i64 h, .int .i64 lo]] w fun e w' => ∃ ra rc ea ec za zc, e = .returned (.tuple #[.agg #[.slice ra m rc, .slice ea n ec, .slice za n zc], .int .i64 (legalP N S T ys p ⟨who, wt, u, ar, d, h, lo⟩)]) ∧ OwnP w' w.heap.size (moveP N S T n ys p ⟨who, wt, u, ar, d, h, lo⟩) n m ra rc ea ec za zc ∧ Kept w w' := by
  have hs1 : (w.alloc (.cells #[.int .i64 N, .int .i64 S, .int .i64 T, .slice a3 (n + 1) c3, .slice a4 m c4, .slice a5 m c5, .slice a6 m c6, .slice a7 m c7, .slice a8 m c8] 32)).heap.size = w.heap.size + 1 := World.size_alloc _ _
  have hs2 : ((w.alloc (.cells #[.int .i64 N, .int .i64 S, .int .i64 T, .slice a3 (n + 1) c3, .slice a4 m c4, .slice a5 m c5, .slice a6 m c6, .slice a7 m c7, .slice a8 m c8] 32)).alloc (.cells #[.slice ra m rc, .slice ea n ec, .slice za n zc] 29)).heap.size = w.heap.size + 1 + 1 := by rw [← hs1]; exact World.size_alloc _ _
  have hs3 : (((w.alloc (.cells #[.int .i64 N, .int .i64 S, .int .i64 T, .slice a3 (n + 1) c3, .slice a4 m c4, .slice a5 m c5, .slice a6 m c6, .slice a7 m c7, .slice a8 m c8] 32)).alloc (.cells #[.slice ra m rc, .slice ea n ec, .slice za n zc] 29)).alloc (.cells #[.int .i64 who, .int .u8 wt, .int .i64 u, .int .i64 ar, .int .i64 d, .int .i64 h, .int .i64 lo] 39)).heap.size = w.heap.size + 1 + 1 + 1 := by rw [← hs2]; exact World.size_alloc _ _
  have HK := Lib.hid (((((Upd.refl (fun _ => False) w).alloc (.cells #[.int .i64 N, .int .i64 S, .int .i64 T, .slice a3 (n + 1) c3, .slice a4 m c4, .slice a5 m c5, .slice a6 m c6, .slice a7 m c7, .slice a8 m c8] 32)).alloc (.cells #[.slice ra m rc, .slice ea n ec, .slice za n zc] 29)).alloc (.cells #[.int .i64 who, .int .u8 wt, .int .i64 u, .int .i64 ar, .int .i64 d, .int .i64 h, .int .i64 lo] 39)).alloc (.cells #[.slice none 0 0, .slice none 0 0, .slice none 0 0] 29))
  have HB := Lib.hid ((((Blk.new w #[.int .i64 N, .int .i64 S, .int .i64 T, .slice a3 (n + 1) c3, .slice a4 m c4, .slice a5 m c5, .slice a6 m c6, .slice a7 m c7, .slice a8 m c8] 32).alloc (.cells #[.slice ra m rc, .slice ea n ec, .slice za n zc] 29)).alloc (.cells #[.int .i64 who, .int .u8 wt, .int .i64 u, .int .i64 ar, .int .i64 d, .int .i64 h, .int .i64 lo] 39)).alloc (.cells #[.slice none 0 0, .slice none 0 0, .slice none 0 0] 29))
  have HP := Lib.hid (((Blk.new (w.alloc (.cells #[.int .i64 N, .int .i64 S, .int .i64 T, .slice a3 (n + 1) c3, .slice a4 m c4, .slice a5 m c5, .slice a6 m c6, .slice a7 m c7, .slice a8 m c8] 32)) #[.slice ra m rc, .slice ea n ec, .slice za n zc] 29).alloc (.cells #[.int .i64 who, .int .u8 wt, .int .i64 u, .int .i64 ar, .int .i64 d, .int .i64 h, .int .i64 lo] 39)).alloc (.cells #[.slice none 0 0, .slice none 0 0, .slice none 0 0] 29))
  have HE := Lib.hid ((Blk.new ((w.alloc (.cells #[.int .i64 N, .int .i64 S, .int .i64 T, .slice a3 (n + 1) c3, .slice a4 m c4, .slice a5 m c5, .slice a6 m c6, .slice a7 m c7, .slice a8 m c8] 32)).alloc (.cells #[.slice ra m rc, .slice ea n ec, .slice za n zc] 29)) #[.int .i64 who, .int .u8 wt, .int .i64 u, .int .i64 ar, .int .i64 d, .int .i64 h, .int .i64 lo] 39).alloc (.cells #[.slice none 0 0, .slice none 0 0, .slice none 0 0] 29))
  have HQ := Lib.hid (Blk.new (((w.alloc (.cells #[.int .i64 N, .int .i64 S, .int .i64 T, .slice a3 (n + 1) c3, .slice a4 m c4, .slice a5 m c5, .slice a6 m c6, .slice a7 m c7, .slice a8 m c8] 32)).alloc (.cells #[.slice ra m rc, .slice ea n ec, .slice za n zc] 29)).alloc (.cells #[.int .i64 who, .int .u8 wt, .int .i64 u, .int .i64 ar, .int .i64 d, .int .i64 h, .int .i64 lo] 39)) #[.slice none 0 0, .slice none 0 0, .slice none 0 0] 29)
  rw [hs1] at HP
  rw [hs2] at HE
  rw [hs3] at HQ
  have hro := run_one N S T n ys p ⟨who, wt, u, ar, d, h, lo⟩
  obtain ⟨RR, hRR⟩ : ∃ r, runP N S T n ys [⟨who, wt, u, ar, d, h, lo⟩] p = r := ⟨_, rfl⟩
  rw [hRR] at hro
  have HRU := fun (W : World) (la : Option Addr) (k : Kept w W) (hl : EvR W la [⟨who, wt, u, ar, d, h, lo⟩]) => Lib.hid (show Calls Try.prog 19 #[.agg #[.int .i64 N, .int .i64 S, .int .i64 T, .slice a3 (n + 1) c3, .slice a4 m c4, .slice a5 m c5, .slice a6 m c6, .slice a7 m c7, .slice a8 m c8], .agg #[.slice ra m rc, .slice ea n ec, .slice za n zc], .slice la 1 1] W (RunOut n m RR W) by rw [← hRR]; exact run_any N S T n m a3 a4 a5 a6 a7 a8 c3 c4 c5 c6 c7 c8 ys p ra rc ea ec za zc la 1 [⟨who, wt, u, ar, d, h, lo⟩] W hg (hcr.kept k) hok (hr.kept k) (he.kept k) (hz.kept k) s1 s2 s3 hl (fun e he => by simp at he; subst he; exact hwt) (by simp))
  obtain ⟨LL, hLL⟩ : ∃ q, legalP N S T ys p ⟨who, wt, u, ar, d, h, lo⟩ = q := ⟨_, rfl⟩
  obtain ⟨MM, hMM⟩ : ∃ q, moveP N S T n ys p ⟨who, wt, u, ar, d, h, lo⟩ = q := ⟨_, rfl⟩
  rw [hLL, hMM] at hro ⊢
  have HRO := Lib.hid hro
  clear hg hcr hok hr he hz s1 s2 s3 hwt hRR hLL hMM hro
  obtain ⟨ie, hie, hz0, hz1, -⟩ := info_parts infoEv
  go_enter Try.func13, Try.ntmps13
  go_upto_region 1 with (fail)
  try rw [hs3]
  try rw [hs2]
  try rw [hs1]
  clear hs1 hs2 hs3
  generalize ((((w.alloc (.cells #[.int .i64 N, .int .i64 S, .int .i64 T, .slice a3 (n + 1) c3, .slice a4 m c4, .slice a5 m c5, .slice a6 m c6, .slice a7 m c7, .slice a8 m c8] 32)).alloc (.cells #[.slice ra m rc, .slice ea n ec, .slice za n zc] 29)).alloc (.cells #[.int .i64 who, .int .u8 wt, .int .i64 u, .int .i64 ar, .int .i64 d, .int .i64 h, .int .i64 lo] 39)).alloc (.cells #[.slice none 0 0, .slice none 0 0, .slice none 0 0] 29)) = W3 at HK HB HP HE HQ ⊢
  have HQB : Hid (w.heap.size ≤ w.heap.size + 1 + 1 + 1) := Lib.hid (by omega)
  generalize w.heap.size + 1 + 1 + 1 = qb at HQ HQB ⊢
  generalize w.heap.size + 1 + 1 = eb at HE ⊢
  generalize w.heap.size + 1 = pb at HP ⊢
  generalize hcb : w.heap.size = cb at HB HQB ⊢
  have HCB := Lib.hid hcb
  clear hcb
  have hra9 := Blk.range HB.out
  have hra7 := Blk.range HE.out
  have px := HP.out.cell
  have hz9 : (Try.prog.info? 32).map (·.size) = some 9 := by kernel_rfl
  have hz7 : (Try.prog.info? 39).map (·.size) = some 7 := by kernel_rfl
  have hal := (Upd.refl (fun _ => False) W3).alloc (.cells #[.int .i64 who, .int .u8 wt, .int .i64 u, .int .i64 ar, .int .i64 d, .int .i64 h, .int .i64 lo] 39)
  have HRC := HRU (W3.alloc (.cells #[.int .i64 who, .int .u8 wt, .int .i64 u, .int .i64 ar, .int .i64 d, .int .i64 h, .int .i64 lo] 39)) (some ⟨W3.heap.size, 0, none⟩) (HK.out.trans hal) (evr_one (e := ⟨who, wt, u, ar, d, h, lo⟩) (Blk.new W3 #[.int .i64 who, .int .u8 wt, .int .i64 u, .int .i64 ar, .int .i64 d, .int .i64 h, .int .i64 lo] 39))
  have HQ4 := Lib.hid (HQ.out.kept hal)
  have HK4 := Lib.hid (HK.out.trans hal)
  go_wp2_with (first | (refine wpList_load_mid rfl _ _ rfl cb 0 rfl [.int .i64 N, .int .i64 S, .int .i64 T, .slice a3 (n + 1) c3, .slice a4 m c4, .slice a5 m c5, .slice a6 m c6, .slice a7 m c7, .slice a8 m c8] _ hra9 Try.underlying32 rfl hz9 ?_) | (refine wpList_load_mid rfl _ _ rfl eb 0 rfl [.int .i64 who, .int .u8 wt, .int .i64 u, .int .i64 ar, .int .i64 d, .int .i64 h, .int .i64 lo] _ hra7 Try.underlying39 rfl hz7 ?_) | (refine wpList_buildSlice rfl 37 39 1 _ rfl #[.int .i64 who, .int .u8 wt, .int .i64 u, .int .i64 ar, .int .i64 d, .int .i64 h, .int .i64 lo] ie (.agg #[.int .i64 0, .int .u8 0, .int .i64 0, .int .i64 0, .int .i64 0, .int .i64 0, .int .i64 0]) Try.underlying37 hie hz0 (by rw [hz1]; decide) (by rw [hz1]; decide) (by rw [hz1]; refine (congrArg _ ?_).trans (fill_one7 _ #[.int .i64 who, .int .u8 wt, .int .i64 u, .int .i64 ar, .int .i64 d, .int .i64 h, .int .i64 lo] (by simp) rfl); simp [Act.eval, Act.put]) ?_) | fail)
  refine HRC.out.mono ?_
  rintro e w1 ⟨oa, oc, qa, qc, ha, hc, rfl, hO, hk1⟩
  rw [HRO.out.1] at hO
  have HO1 := Lib.hid hO
  have HQ1 := Lib.hid (HQ4.out.kept hk1)
  have HK1 := Lib.hid (HK4.out.trans hk1)
  have HR2 := HRO.out.2
  rw [HR2]
  have HSZ := Lib.hid (show w.heap.size ≤ (W3.alloc (.cells #[.int .i64 who, .int .u8 wt, .int .i64 u, .int .i64 ar, .int .i64 d, .int .i64 h, .int .i64 lo] 39)).heap.size from HK4.out.size)
  clear hO hk1 HRC HQ4 HK4 hal px hra9 hra7 HB HP HE HQ HK HRU hie hz0 hz1 HR2 hz9 hz7
  have hKN := (Upd.refl (fun _ => False) w1).alloc (.cells #[.slice oa m oc, .slice qa n qc, .slice ha n hc] 29)
  have HN3 := Lib.hid (Blk.new w1 #[.slice oa m oc, .slice qa n qc, .slice ha n hc] 29)
  have HO2 := Lib.hid (HO1.out.kept hKN)
  have HQ2 := Lib.hid (HQ1.out.kept hKN)
  have HK2 := Lib.hid (HK1.out.trans hKN)
  go_upto_region 2 with (fail)
  clear hKN HO1 HQ1 HK1
  generalize (w1.alloc (.cells #[.slice oa m oc, .slice qa n qc, .slice ha n hc] 29)) = W5 at HN3 HO2 HQ2 HK2 ⊢
  generalize w1.heap.size = xb at HN3 ⊢
  have nx := HN3.out.cell
  have qx := HQ2.out.cell
  have qf := HQ2.out.free
  have HU : Hid (Upd (fun j => j = qb) W5 (((W5.setCell ⟨qb, 0, none⟩ (.slice oa m oc)).setCell ⟨qb, 1, none⟩ (.slice qa n qc)).setCell ⟨qb, 2, none⟩ (.slice ha n hc))) := Lib.hid ((((Upd.refl (fun j => j = qb) W5).setCell (p := ⟨qb, 0, none⟩) (.inl rfl) (.slice oa m oc)).setCell (p := ⟨qb, 1, none⟩) (.inl rfl) (.slice qa n qc)).setCell (p := ⟨qb, 2, none⟩) (.inl rfl) (.slice ha n hc))
  have HQ3 : Hid (Blk (((W5.setCell ⟨qb, 0, none⟩ (.slice oa m oc)).setCell ⟨qb, 1, none⟩ (.slice qa n qc)).setCell ⟨qb, 2, none⟩ (.slice ha n hc)) qb #[.slice oa m oc, .slice qa n qc, .slice ha n hc] 29) := Lib.hid (((HQ2.out.set 0 (.slice oa m oc)).set 1 (.slice qa n qc)).set 2 (.slice ha n hc))
  have HFO : Hid (OwnP (((W5.setCell ⟨qb, 0, none⟩ (.slice oa m oc)).setCell ⟨qb, 1, none⟩ (.slice qa n qc)).setCell ⟨qb, 2, none⟩ (.slice ha n hc)) w.heap.size MM n m oa oc qa qc ha hc ∧ Kept w (((W5.setCell ⟨qb, 0, none⟩ (.slice oa m oc)).setCell ⟨qb, 1, none⟩ (.slice qa n qc)).setCell ⟨qb, 2, none⟩ (.slice ha n hc))) := Lib.hid ⟨(HO2.out.upd HU.out (fun j hj e => by subst e; exact HO2.out.box HQ2.out (by decide) (by decide) hj)).mono HSZ.out, HK2.out.then HU.out (fun i hi e => by have := HQB.out; have := HCB.out; omega)⟩
  clear HU HO2 HQ2 HK2 HN3
  go_wp2_with fail
  generalize (((W5.setCell ⟨qb, 0, none⟩ (.slice oa m oc)).setCell ⟨qb, 1, none⟩ (.slice qa n qc)).setCell ⟨qb, 2, none⟩ (.slice ha n hc)) = WF at HQ3 HFO ⊢
  have e0 : WF.cell? ⟨qb, 0, none⟩ = some (.slice oa m oc) := HQ3.out.cell 0
  have e1 : WF.cell? ⟨qb, 1, none⟩ = some (.slice qa n qc) := HQ3.out.cell 1
  have e2 : WF.cell? ⟨qb, 2, none⟩ = some (.slice ha n hc) := HQ3.out.cell 2
  refine bodyPost_ret (v := .tuple #[.agg #[.slice oa m oc, .slice qa n qc, .slice ha n hc], .int .i64 LL]) (by simp [results, Try.results13, go_sem, e0, e1, e2]) rfl ?_
  exact ⟨oa, oc, qa, qc, ha, hc, rfl, HFO.out.1, HFO.out.2⟩
end Go.Proofs.Ytdhimfkmgcfohaa
