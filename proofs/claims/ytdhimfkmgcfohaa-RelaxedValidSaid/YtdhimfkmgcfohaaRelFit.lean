/- acequialaw09.fitted (printed by gen_relfit.py) -/
import Derived.Test.YtdhimfkmgcfohaaRelLegal2
import Derived.Test.YtdhimfkmgcfohaaAmong
import Derived.Test.YtdhimfkmgcfohaaQuietTail
import Derived.Deep.CutRange
import Derived.Deep.RegionHeld3
import Derived.Deep.MidRow
import Derived.Deep.Onto
namespace Go.Proofs.Ytdhimfkmgcfohaa
set_option linter.unusedVariables false
set_option linter.unusedSimpArgs false
open Go.RowKit
attribute [local go_sem] cell?_ext

/-- What fitted hands back: some move. -/
def FitEnd (w : World) (e : Ending) (w' : World) : Prop := ∃ ev : Ev, e = .returned (.agg ev.cells.toArray) ∧ (Lit.int .u8 ev.wt).wf = true ∧ Kept w w'
set_option maxRecDepth 100000 in
set_option maxHeartbeats 4000000 in
theorem fitted_any (N S T : Int) (n m : Nat) (a3 a4 a5 a6 a7 a8 : Option Addr) (c3 c4 c5 c6 c7 c8 : Nat) (ys : List Ar) (p : PS) (ra : Option Addr) (rc : Nat) (ea : Option Addr) (ec : Nat) (za : Option Addr) (zc : Nat) (who wt u ar d h lo : Int) (raw : Bool) (ft : Int) (w : World) (hg : Gr N S T n m ys) (hcr : CsrR w n ys a3 a4 a5 a6 a7 a8) (hok : p.ok n m) (hr : Rd w ra (lv p.rs)) (he : Rd w ea (lv p.es)) (hz : Rd w za (lv p.hs)) (hwt : (Lit.int .u8 wt).wf = true) :
    Calls Try.prog 12 #[.agg #[.int .i64 N, .int .i64 S, .int .i64 T, .slice a3 (n + 1) c3, .slice a4 m c4, .slice a5 m c5, .slice a6 m c6, .slice a7 m c7, .slice a8 m c8], .agg #[.slice ra m rc, .slice ea n ec, .slice za n zc], .agg #[.int .i64 who, .int .u8 wt, .int .i64 u, .int .i64 ar, .int .i64 d, .int .i64 h, .int .i64 lo, .bool raw, .int .u8 ft]] w (FitEnd w) := by
  have hs1 : (w.alloc (.cells #[.int .i64 N, .int .i64 S, .int .i64 T, .slice a3 (n + 1) c3, .slice a4 m c4, .slice a5 m c5, .slice a6 m c6, .slice a7 m c7, .slice a8 m c8] 32)).heap.size = w.heap.size + 1 := World.size_alloc _ _
  have hs2 : ((w.alloc (.cells #[.int .i64 N, .int .i64 S, .int .i64 T, .slice a3 (n + 1) c3, .slice a4 m c4, .slice a5 m c5, .slice a6 m c6, .slice a7 m c7, .slice a8 m c8] 32)).alloc (.cells #[.slice ra m rc, .slice ea n ec, .slice za n zc] 29)).heap.size = w.heap.size + 1 + 1 := by rw [← hs1]; exact World.size_alloc _ _
  have hs3 : (((w.alloc (.cells #[.int .i64 N, .int .i64 S, .int .i64 T, .slice a3 (n + 1) c3, .slice a4 m c4, .slice a5 m c5, .slice a6 m c6, .slice a7 m c7, .slice a8 m c8] 32)).alloc (.cells #[.slice ra m rc, .slice ea n ec, .slice za n zc] 29)).alloc (.cells #[.int .i64 who, .int .u8 wt, .int .i64 u, .int .i64 ar, .int .i64 d, .int .i64 h, .int .i64 lo, .bool raw, .int .u8 ft] 41)).heap.size = w.heap.size + 1 + 1 + 1 := by rw [← hs2]; exact World.size_alloc _ _
  have hs4 : ((((w.alloc (.cells #[.int .i64 N, .int .i64 S, .int .i64 T, .slice a3 (n + 1) c3, .slice a4 m c4, .slice a5 m c5, .slice a6 m c6, .slice a7 m c7, .slice a8 m c8] 32)).alloc (.cells #[.slice ra m rc, .slice ea n ec, .slice za n zc] 29)).alloc (.cells #[.int .i64 who, .int .u8 wt, .int .i64 u, .int .i64 ar, .int .i64 d, .int .i64 h, .int .i64 lo, .bool raw, .int .u8 ft] 41)).alloc (.cells #[.int .i64 0, .int .u8 0, .int .i64 0, .int .i64 0, .int .i64 0, .int .i64 0, .int .i64 0] 39)).heap.size = w.heap.size + 1 + 1 + 1 + 1 := by rw [← hs3]; exact World.size_alloc _ _
  have HK := Lib.hid ((((((Upd.refl (fun _ => False) w).alloc (.cells #[.int .i64 N, .int .i64 S, .int .i64 T, .slice a3 (n + 1) c3, .slice a4 m c4, .slice a5 m c5, .slice a6 m c6, .slice a7 m c7, .slice a8 m c8] 32)).alloc (.cells #[.slice ra m rc, .slice ea n ec, .slice za n zc] 29)).alloc (.cells #[.int .i64 who, .int .u8 wt, .int .i64 u, .int .i64 ar, .int .i64 d, .int .i64 h, .int .i64 lo, .bool raw, .int .u8 ft] 41)).alloc (.cells #[.int .i64 0, .int .u8 0, .int .i64 0, .int .i64 0, .int .i64 0, .int .i64 0, .int .i64 0] 39)).alloc (.cells #[.int .i64 who, .int .u8 wt, .int .i64 u, .int .i64 ar, .int .i64 d, .int .i64 h, .int .i64 lo] 39))
  have HB := Lib.hid (((((Blk.new w #[.int .i64 N, .int .i64 S, .int .i64 T, .slice a3 (n + 1) c3, .slice a4 m c4, .slice a5 m c5, .slice a6 m c6, .slice a7 m c7, .slice a8 m c8] 32).alloc (.cells #[.slice ra m rc, .slice ea n ec, .slice za n zc] 29)).alloc (.cells #[.int .i64 who, .int .u8 wt, .int .i64 u, .int .i64 ar, .int .i64 d, .int .i64 h, .int .i64 lo, .bool raw, .int .u8 ft] 41)).alloc (.cells #[.int .i64 0, .int .u8 0, .int .i64 0, .int .i64 0, .int .i64 0, .int .i64 0, .int .i64 0] 39)).alloc (.cells #[.int .i64 who, .int .u8 wt, .int .i64 u, .int .i64 ar, .int .i64 d, .int .i64 h, .int .i64 lo] 39))
  have HP := Lib.hid ((((Blk.new (w.alloc (.cells #[.int .i64 N, .int .i64 S, .int .i64 T, .slice a3 (n + 1) c3, .slice a4 m c4, .slice a5 m c5, .slice a6 m c6, .slice a7 m c7, .slice a8 m c8] 32)) #[.slice ra m rc, .slice ea n ec, .slice za n zc] 29).alloc (.cells #[.int .i64 who, .int .u8 wt, .int .i64 u, .int .i64 ar, .int .i64 d, .int .i64 h, .int .i64 lo, .bool raw, .int .u8 ft] 41)).alloc (.cells #[.int .i64 0, .int .u8 0, .int .i64 0, .int .i64 0, .int .i64 0, .int .i64 0, .int .i64 0] 39)).alloc (.cells #[.int .i64 who, .int .u8 wt, .int .i64 u, .int .i64 ar, .int .i64 d, .int .i64 h, .int .i64 lo] 39))
  have HX := Lib.hid (((Blk.new ((w.alloc (.cells #[.int .i64 N, .int .i64 S, .int .i64 T, .slice a3 (n + 1) c3, .slice a4 m c4, .slice a5 m c5, .slice a6 m c6, .slice a7 m c7, .slice a8 m c8] 32)).alloc (.cells #[.slice ra m rc, .slice ea n ec, .slice za n zc] 29)) #[.int .i64 who, .int .u8 wt, .int .i64 u, .int .i64 ar, .int .i64 d, .int .i64 h, .int .i64 lo, .bool raw, .int .u8 ft] 41).alloc (.cells #[.int .i64 0, .int .u8 0, .int .i64 0, .int .i64 0, .int .i64 0, .int .i64 0, .int .i64 0] 39)).alloc (.cells #[.int .i64 who, .int .u8 wt, .int .i64 u, .int .i64 ar, .int .i64 d, .int .i64 h, .int .i64 lo] 39))
  have HR := Lib.hid ((Blk.new (((w.alloc (.cells #[.int .i64 N, .int .i64 S, .int .i64 T, .slice a3 (n + 1) c3, .slice a4 m c4, .slice a5 m c5, .slice a6 m c6, .slice a7 m c7, .slice a8 m c8] 32)).alloc (.cells #[.slice ra m rc, .slice ea n ec, .slice za n zc] 29)).alloc (.cells #[.int .i64 who, .int .u8 wt, .int .i64 u, .int .i64 ar, .int .i64 d, .int .i64 h, .int .i64 lo, .bool raw, .int .u8 ft] 41)) #[.int .i64 0, .int .u8 0, .int .i64 0, .int .i64 0, .int .i64 0, .int .i64 0, .int .i64 0] 39).alloc (.cells #[.int .i64 who, .int .u8 wt, .int .i64 u, .int .i64 ar, .int .i64 d, .int .i64 h, .int .i64 lo] 39))
  have HE := Lib.hid (Blk.new ((((w.alloc (.cells #[.int .i64 N, .int .i64 S, .int .i64 T, .slice a3 (n + 1) c3, .slice a4 m c4, .slice a5 m c5, .slice a6 m c6, .slice a7 m c7, .slice a8 m c8] 32)).alloc (.cells #[.slice ra m rc, .slice ea n ec, .slice za n zc] 29)).alloc (.cells #[.int .i64 who, .int .u8 wt, .int .i64 u, .int .i64 ar, .int .i64 d, .int .i64 h, .int .i64 lo, .bool raw, .int .u8 ft] 41)).alloc (.cells #[.int .i64 0, .int .u8 0, .int .i64 0, .int .i64 0, .int .i64 0, .int .i64 0, .int .i64 0] 39)) #[.int .i64 who, .int .u8 wt, .int .i64 u, .int .i64 ar, .int .i64 d, .int .i64 h, .int .i64 lo] 39)
  rw [hs1] at HP
  rw [hs2] at HX
  rw [hs3] at HR
  rw [hs4] at HE
  go_enter Try.func12, Try.ntmps12
  go_upto_region 2 with (fail)
  try rw [hs4]
  try rw [hs3]
  try rw [hs2]
  try rw [hs1]
  clear hs1 hs2 hs3 hs4
  generalize (((((w.alloc (.cells #[.int .i64 N, .int .i64 S, .int .i64 T, .slice a3 (n + 1) c3, .slice a4 m c4, .slice a5 m c5, .slice a6 m c6, .slice a7 m c7, .slice a8 m c8] 32)).alloc (.cells #[.slice ra m rc, .slice ea n ec, .slice za n zc] 29)).alloc (.cells #[.int .i64 who, .int .u8 wt, .int .i64 u, .int .i64 ar, .int .i64 d, .int .i64 h, .int .i64 lo, .bool raw, .int .u8 ft] 41)).alloc (.cells #[.int .i64 0, .int .u8 0, .int .i64 0, .int .i64 0, .int .i64 0, .int .i64 0, .int .i64 0] 39)).alloc (.cells #[.int .i64 who, .int .u8 wt, .int .i64 u, .int .i64 ar, .int .i64 d, .int .i64 h, .int .i64 lo] 39)) = W0 at HK HB HP HX HR HE ⊢
  have HRB : Hid (w.heap.size ≤ w.heap.size + 1 + 1 + 1 ∧ w.heap.size ≤ w.heap.size + 1 + 1 + 1 + 1) := Lib.hid (by omega)
  have X0 : Hid (Kept w W0 ∧ Blk W0 w.heap.size #[.int .i64 N, .int .i64 S, .int .i64 T, .slice a3 (n + 1) c3, .slice a4 m c4, .slice a5 m c5, .slice a6 m c6, .slice a7 m c7, .slice a8 m c8] 32 ∧ Blk W0 (w.heap.size + 1) #[.slice ra m rc, .slice ea n ec, .slice za n zc] 29 ∧ Blk W0 (w.heap.size + 1 + 1) #[.int .i64 who, .int .u8 wt, .int .i64 u, .int .i64 ar, .int .i64 d, .int .i64 h, .int .i64 lo, .bool raw, .int .u8 ft] 41 ∧ Blk W0 (w.heap.size + 1 + 1 + 1) #[.int .i64 0, .int .u8 0, .int .i64 0, .int .i64 0, .int .i64 0, .int .i64 0, .int .i64 0] 39 ∧ Blk W0 (w.heap.size + 1 + 1 + 1 + 1) #[.int .i64 who, .int .u8 wt, .int .i64 u, .int .i64 ar, .int .i64 d, .int .i64 h, .int .i64 lo] 39) := Lib.hid ⟨HK.out, HB.out, HP.out, HX.out, HR.out, HE.out⟩
  have HNE : Hid (¬ w.heap.size + 1 + 1 + 1 + 1 = w.heap.size ∧ ¬ w.heap.size + 1 + 1 + 1 + 1 = w.heap.size + 1 ∧ ¬ w.heap.size + 1 + 1 + 1 + 1 = w.heap.size + 1 + 1 ∧ ¬ w.heap.size + 1 + 1 + 1 + 1 = w.heap.size + 1 + 1 + 1) := Lib.hid (by omega)
  have HG := Lib.hid hg
  have HCR := Lib.hid hcr
  have HOK : Hid (p.rs.length = m ∧ p.es.length = n ∧ p.hs.length = n) := Lib.hid hok
  have HRR := Lib.hid hr
  have HEE := Lib.hid he
  have HZZ := Lib.hid hz
  have HWT := Lib.hid hwt
  clear HK HB HP HX HR HE hg hcr hok hr he hz hwt
  generalize w.heap.size + 1 + 1 + 1 + 1 = xb at X0 HRB HNE ⊢
  generalize w.heap.size + 1 + 1 + 1 = rb at X0 HRB HNE ⊢
  generalize w.heap.size + 1 + 1 = ab at X0 HNE ⊢
  generalize w.heap.size + 1 = pb at X0 HNE ⊢
  generalize hcb : w.heap.size = cb at X0 HRB HNE ⊢
  have HCB := Lib.hid hcb
  clear hcb
  have hz7 : (Try.prog.info? 39).map (·.size) = some 7 := by kernel_rfl
  have ax := X0.out.2.2.2.1.cell
  cases raw
  · as_aux_lemma =>
    have hl := HG.out.len
    have hAM := fun x w => Among_any x N (by omega) (by omega) w
    have HAU := Lib.hid (am_in (x := u) (n := N) (by omega))
    clear hl
    have ex := X0.out.2.2.2.2.2.cell
    have ef := X0.out.2.2.2.2.2.free
    go_upto_region 5 with (fail)
    obtain ⟨wv, hwv⟩ : ∃ q, (1 + bits BinOp.and IntKind.u8 ft 1) % 256 = q := ⟨_, rfl⟩
    have HWV : Hid ((Lit.int .u8 wv).wf = true) := Lib.hid (WalkArith.wf_u8 (by omega))
    rw [hwv]
    clear hwv
    have X1 : Hid (Kept w (W0.setCell ⟨xb, 1, none⟩ (.int .u8 wv)) ∧ Blk (W0.setCell ⟨xb, 1, none⟩ (.int .u8 wv)) cb #[.int .i64 N, .int .i64 S, .int .i64 T, .slice a3 (n + 1) c3, .slice a4 m c4, .slice a5 m c5, .slice a6 m c6, .slice a7 m c7, .slice a8 m c8] 32 ∧ Blk (W0.setCell ⟨xb, 1, none⟩ (.int .u8 wv)) pb #[.slice ra m rc, .slice ea n ec, .slice za n zc] 29 ∧ Blk (W0.setCell ⟨xb, 1, none⟩ (.int .u8 wv)) ab #[.int .i64 who, .int .u8 wt, .int .i64 u, .int .i64 ar, .int .i64 d, .int .i64 h, .int .i64 lo, .bool false, .int .u8 ft] 41 ∧ Blk (W0.setCell ⟨xb, 1, none⟩ (.int .u8 wv)) rb #[.int .i64 0, .int .u8 0, .int .i64 0, .int .i64 0, .int .i64 0, .int .i64 0, .int .i64 0] 39 ∧ Blk (W0.setCell ⟨xb, 1, none⟩ (.int .u8 wv)) xb #[.int .i64 who, .int .u8 wv, .int .i64 u, .int .i64 ar, .int .i64 d, .int .i64 h, .int .i64 lo] 39) := Lib.hid (by
      have hu := Upd.setCell (S := fun k => k = xb) (p := ⟨xb, 1, none⟩) (Upd.refl _ W0) (.inl rfl) (.int .u8 wv)
      have x := X0.out
      have q := HNE.out
      exact ⟨x.1.then hu (fun i hi e => by have := HRB.out; have := HCB.out; omega), x.2.1.upd hu (by omega), x.2.2.1.upd hu (by omega), x.2.2.2.1.upd hu (by omega), x.2.2.2.2.1.upd hu (by omega), x.2.2.2.2.2.set 1 (.int .u8 wv)⟩)
    clear X0
    generalize W0.setCell ⟨xb, 1, none⟩ (.int .u8 wv) = W1 at X1 ⊢
    have ex := X1.out.2.2.2.2.2.cell
    have ef := X1.out.2.2.2.2.2.free
    have bx := X1.out.2.1.cell
    go_wp2_with fail
    refine (hAM u _).mono ?_
    rintro e w1 ⟨rfl, rfl⟩
    go_upto_region 6 with (fail)
    clear ex ef bx
    generalize am u N = uu at HAU ⊢
    have X2 : Hid (Kept w (w1.setCell ⟨xb, 2, none⟩ (.int .i64 uu)) ∧ Blk (w1.setCell ⟨xb, 2, none⟩ (.int .i64 uu)) cb #[.int .i64 N, .int .i64 S, .int .i64 T, .slice a3 (n + 1) c3, .slice a4 m c4, .slice a5 m c5, .slice a6 m c6, .slice a7 m c7, .slice a8 m c8] 32 ∧ Blk (w1.setCell ⟨xb, 2, none⟩ (.int .i64 uu)) pb #[.slice ra m rc, .slice ea n ec, .slice za n zc] 29 ∧ Blk (w1.setCell ⟨xb, 2, none⟩ (.int .i64 uu)) ab #[.int .i64 who, .int .u8 wt, .int .i64 u, .int .i64 ar, .int .i64 d, .int .i64 h, .int .i64 lo, .bool false, .int .u8 ft] 41 ∧ Blk (w1.setCell ⟨xb, 2, none⟩ (.int .i64 uu)) rb #[.int .i64 0, .int .u8 0, .int .i64 0, .int .i64 0, .int .i64 0, .int .i64 0, .int .i64 0] 39 ∧ Blk (w1.setCell ⟨xb, 2, none⟩ (.int .i64 uu)) xb #[.int .i64 who, .int .u8 wv, .int .i64 uu, .int .i64 ar, .int .i64 d, .int .i64 h, .int .i64 lo] 39) := Lib.hid (by
      have hu := Upd.setCell (S := fun k => k = xb) (p := ⟨xb, 2, none⟩) (Upd.refl _ w1) (.inl rfl) (.int .i64 uu)
      have x := X1.out
      have q := HNE.out
      exact ⟨x.1.then hu (fun i hi e => by have := HRB.out; have := HCB.out; omega), x.2.1.upd hu (by omega), x.2.2.1.upd hu (by omega), x.2.2.2.1.upd hu (by omega), x.2.2.2.2.1.upd hu (by omega), x.2.2.2.2.2.set 2 (.int .i64 uu)⟩)
    clear X1
    generalize w1.setCell ⟨xb, 2, none⟩ (.int .i64 uu) = W2 at X2 ⊢
    obtain ⟨un, hun⟩ : ∃ k : Nat, uu = (k : Int) := ⟨uu.toNat, by have := HAU.out; omega⟩
    subst hun
    have hunn : un < n := by have := HAU.out; have := HG.out.len.1; omega
    obtain ⟨zb, zo, ez, cz0⟩ := HZZ.out.num (i := un) (by have := HOK.out; omega)
    have HEZ := Lib.hid ez
    clear ez
    generalize p.hs.getD un 0 = xh at cz0
    have cz := (keptCells X2.out.1 _ (by rw [cz0]; rfl)).trans cz0
    have ex := X2.out.2.2.2.2.2.cell
    have ef := X2.out.2.2.2.2.2.free
    have px := X2.out.2.2.1.cell
    rw [HEZ.out] at px
    have i1 : (un : Int) < (n : Int) := by omega
    have i2 : (0 : Int) ≤ (un : Int) := by omega
    by_cases hw2 : wv = 2
    · as_aux_lemma =>
      have b1 : (wv == 2) = true := by simpa using hw2
      clear hw2
      have hA3 := fun x w => Among_any x 3 (by omega) (by omega) w
      go_upto_region 7 with (fail)
      refine wp_region_quiet_tail 12 (by kernel_rfl) (by kernel_rfl) ?_
      simp only [List.take_succ_cons, List.take_zero, List.drop_succ_cons, List.drop_zero]
      repeat (first | go_big_quiet_step (fail) | (go_big_quiet_want; go_big_quiet_op; refine ⟨_, hA3 _ _, ?_⟩; go_big_quiet_on))
      refine wpQuiet_nil ?_
      go_upto_region 8 with (fail)
      clear ex ef px cz
      have X3 : Hid (Kept w (W2.setCell ⟨xb, 5, none⟩ (.int .i64 (wrap64 (wrap64 (xh + 1) + am h 3)))) ∧ Blk (W2.setCell ⟨xb, 5, none⟩ (.int .i64 (wrap64 (wrap64 (xh + 1) + am h 3)))) cb #[.int .i64 N, .int .i64 S, .int .i64 T, .slice a3 (n + 1) c3, .slice a4 m c4, .slice a5 m c5, .slice a6 m c6, .slice a7 m c7, .slice a8 m c8] 32 ∧ Blk (W2.setCell ⟨xb, 5, none⟩ (.int .i64 (wrap64 (wrap64 (xh + 1) + am h 3)))) pb #[.slice ra m rc, .slice ea n ec, .slice za n zc] 29 ∧ Blk (W2.setCell ⟨xb, 5, none⟩ (.int .i64 (wrap64 (wrap64 (xh + 1) + am h 3)))) ab #[.int .i64 who, .int .u8 wt, .int .i64 u, .int .i64 ar, .int .i64 d, .int .i64 h, .int .i64 lo, .bool false, .int .u8 ft] 41 ∧ Blk (W2.setCell ⟨xb, 5, none⟩ (.int .i64 (wrap64 (wrap64 (xh + 1) + am h 3)))) rb #[.int .i64 0, .int .u8 0, .int .i64 0, .int .i64 0, .int .i64 0, .int .i64 0, .int .i64 0] 39 ∧ Blk (W2.setCell ⟨xb, 5, none⟩ (.int .i64 (wrap64 (wrap64 (xh + 1) + am h 3)))) xb #[.int .i64 who, .int .u8 wv, .int .i64 (un : Int), .int .i64 ar, .int .i64 d, .int .i64 (wrap64 (wrap64 (xh + 1) + am h 3)), .int .i64 lo] 39) := Lib.hid (by
        have hu := Upd.setCell (S := fun k => k = xb) (p := ⟨xb, 5, none⟩) (Upd.refl _ W2) (.inl rfl) (.int .i64 (wrap64 (wrap64 (xh + 1) + am h 3)))
        have x := X2.out
        have q := HNE.out
        exact ⟨x.1.then hu (fun i hi e => by have := HRB.out; have := HCB.out; omega), x.2.1.upd hu (by omega), x.2.2.1.upd hu (by omega), x.2.2.2.1.upd hu (by omega), x.2.2.2.2.1.upd hu (by omega), x.2.2.2.2.2.set 5 (.int .i64 (wrap64 (wrap64 (xh + 1) + am h 3)))⟩)
      clear X2
      have X3 : Hid (Kept w (W2.setCell ⟨xb, 5, none⟩ (.int .i64 (wrap64 (wrap64 (xh + 1) + am h 3)))).drew ∧ Blk (W2.setCell ⟨xb, 5, none⟩ (.int .i64 (wrap64 (wrap64 (xh + 1) + am h 3)))).drew cb #[.int .i64 N, .int .i64 S, .int .i64 T, .slice a3 (n + 1) c3, .slice a4 m c4, .slice a5 m c5, .slice a6 m c6, .slice a7 m c7, .slice a8 m c8] 32 ∧ Blk (W2.setCell ⟨xb, 5, none⟩ (.int .i64 (wrap64 (wrap64 (xh + 1) + am h 3)))).drew pb #[.slice ra m rc, .slice ea n ec, .slice za n zc] 29 ∧ Blk (W2.setCell ⟨xb, 5, none⟩ (.int .i64 (wrap64 (wrap64 (xh + 1) + am h 3)))).drew ab #[.int .i64 who, .int .u8 wt, .int .i64 u, .int .i64 ar, .int .i64 d, .int .i64 h, .int .i64 lo, .bool false, .int .u8 ft] 41 ∧ Blk (W2.setCell ⟨xb, 5, none⟩ (.int .i64 (wrap64 (wrap64 (xh + 1) + am h 3)))).drew rb #[.int .i64 0, .int .u8 0, .int .i64 0, .int .i64 0, .int .i64 0, .int .i64 0, .int .i64 0] 39 ∧ Blk (W2.setCell ⟨xb, 5, none⟩ (.int .i64 (wrap64 (wrap64 (xh + 1) + am h 3)))).drew xb #[.int .i64 who, .int .u8 wv, .int .i64 (un : Int), .int .i64 ar, .int .i64 d, .int .i64 (wrap64 (wrap64 (xh + 1) + am h 3)), .int .i64 lo] 39) := Lib.hid ⟨X3.out.1.drew, X3.out.2.1.kept (Upd.refl _ _).drew, X3.out.2.2.1.kept (Upd.refl _ _).drew, X3.out.2.2.2.1.kept (Upd.refl _ _).drew, X3.out.2.2.2.2.1.kept (Upd.refl _ _).drew, X3.out.2.2.2.2.2.kept (Upd.refl _ _).drew⟩
      generalize (W2.setCell ⟨xb, 5, none⟩ (.int .i64 (wrap64 (wrap64 (xh + 1) + am h 3)))).drew = W3 at X3 ⊢
      have hraE := Blk.range X3.out.2.2.2.2.2
      have hth := Blk.there X3.out.2.2.2.2.1 7 rfl
      obtain ⟨WF, hWF⟩ : ∃ W', W3.setCells rb 0 [.int .i64 who, .int .u8 wv, .int .i64 (un : Int), .int .i64 ar, .int .i64 d, .int .i64 (wrap64 (wrap64 (xh + 1) + am h 3)), .int .i64 lo] = W' := ⟨_, rfl⟩
      have hBF : Blk WF rb #[.int .i64 who, .int .u8 wv, .int .i64 (un : Int), .int .i64 ar, .int .i64 d, .int .i64 (wrap64 (wrap64 (xh + 1) + am h 3)), .int .i64 lo] 39 ∧ Upd (fun k => k = rb) W3 WF := by rw [← hWF]; exact Blk.alls X3.out.2.2.2.2.1 [.int .i64 who, .int .u8 wv, .int .i64 (un : Int), .int .i64 ar, .int .i64 d, .int .i64 (wrap64 (wrap64 (xh + 1) + am h 3)), .int .i64 lo] rfl
      have HKF : Hid (Kept w WF) := Lib.hid (X3.out.1.then hBF.2 (fun i hi e => by have := HRB.out; have := HCB.out; omega))
      have hc := hBF.1.cell
      clear hBF X3
      go_wp2_with (first | (refine wpList_load_mid rfl _ _ rfl xb 0 rfl [.int .i64 who, .int .u8 wv, .int .i64 (un : Int), .int .i64 ar, .int .i64 d, .int .i64 (wrap64 (wrap64 (xh + 1) + am h 3)), .int .i64 lo] _ hraE Try.underlying39 rfl hz7 ?_) | (refine wpList_store_mid rfl _ _ _ rfl rb 0 #[.int .i64 who, .int .u8 wv, .int .i64 (un : Int), .int .i64 ar, .int .i64 d, .int .i64 (wrap64 (wrap64 (xh + 1) + am h 3)), .int .i64 lo] rfl rfl hth hz7 (all_oneCell_toArray (cs := [.int .i64 who, .int .u8 wv, .int .i64 (un : Int), .int .i64 ar, .int .i64 d, .int .i64 (wrap64 (wrap64 (xh + 1) + am h 3)), .int .i64 lo]) (by simp [Value.oneCell'])) ?_; simp only [hWF]) | fail)
      refine bodyPost_ret (v := .agg #[.int .i64 who, .int .u8 wv, .int .i64 (un : Int), .int .i64 ar, .int .i64 d, .int .i64 (wrap64 (wrap64 (xh + 1) + am h 3)), .int .i64 lo]) (by simp [results, Try.results12, go_sem, hc]) rfl ?_
      exact ⟨⟨who, wv, (un : Int), ar, d, (wrap64 (wrap64 (xh + 1) + am h 3)), lo⟩, rfl, HWV.out, HKF.out⟩

    · as_aux_lemma =>
      have b1 : (wv == 2) = false := by simpa using hw2
      clear hw2
      obtain ⟨fb, fo, e3, cf0⟩ := HCR.out.r3.at un (by rw [nv_len, firsts_len]; omega)
      obtain ⟨fb', fo', e3', cf1⟩ := HCR.out.r3.at (un + 1) (by rw [nv_len, firsts_len]; omega)
      rw [e3] at e3'
      cases e3'
      have HE3 := Lib.hid e3
      rw [firsts_get n ys un (by omega)] at cf0
      rw [firsts_get n ys (un + 1) (by omega)] at cf1
      have hf01 := fst_mono ys (show un ≤ un + 1 by omega)
      have hfm : fst ys (un + 1) ≤ m := by rw [← HG.out.hm]; exact fst_mono ys (by omega)
      generalize fst ys un = f0 at cf0 hf01
      generalize fst ys (un + 1) = f1 at cf1 hf01 hfm
      obtain ⟨mn, hmn⟩ : ∃ k : Nat, (f1 : Int) - (f0 : Int) = (k : Int) := ⟨f1 - f0, by omega⟩
      have HMN : Hid (f0 + mn = f1 ∧ f1 ≤ m ∧ m ≤ 640) := Lib.hid (by have := HG.out.len; omega)
      have cg0 := (keptCells X2.out.1 _ (by rw [cf0]; rfl)).trans cf0
      have cg1 := (keptCells X2.out.1 _ (by rw [cf1]; rfl)).trans cf1
      have bx := X2.out.2.1.cell
      rw [HE3.out] at bx
      have i3 : ((un + 1 : Nat) : Int) < ((n + 1 : Nat) : Int) := by omega
      have i4 : (0 : Int) ≤ ((un + 1 : Nat) : Int) := by omega
      have i5 : (un : Int) < ((n + 1 : Nat) : Int) := by omega
      have hn16 : n ≤ 16 := by have := HG.out.len; omega
      have hw2 : wrap64 ((un : Int) + 1) = ((un + 1 : Nat) : Int) := by unfold wrap64; omega
      have hw3 : IntKind.i64.wrap ((un : Int) + 1) = ((un + 1 : Nat) : Int) := by rw [IntKind.wrap_i64]; omega
      have hw4 : wrap64 ((f1 : Int) - (f0 : Int)) = (mn : Int) := by have := HMN.out; unfold wrap64; omega
      have hw5 : IntKind.i64.wrap ((f1 : Int) - (f0 : Int)) = (mn : Int) := by have := HMN.out; rw [IntKind.wrap_i64]; omega
      clear e3 hf01 hfm hmn
      go_upto_region 9 with (fail)
      refine wp_region_kept (by kernel_rfl) (by kernel_rfl) ?_
      repeat (go_big_quiet_step (fail))
      refine wpQuiet_nil ?_
      intro W3 hk3
      have X3 : Hid (Kept w W3 ∧ Blk W3 cb #[.int .i64 N, .int .i64 S, .int .i64 T, .slice a3 (n + 1) c3, .slice a4 m c4, .slice a5 m c5, .slice a6 m c6, .slice a7 m c7, .slice a8 m c8] 32 ∧ Blk W3 pb #[.slice ra m rc, .slice ea n ec, .slice za n zc] 29 ∧ Blk W3 ab #[.int .i64 who, .int .u8 wt, .int .i64 u, .int .i64 ar, .int .i64 d, .int .i64 h, .int .i64 lo, .bool false, .int .u8 ft] 41 ∧ Blk W3 rb #[.int .i64 0, .int .u8 0, .int .i64 0, .int .i64 0, .int .i64 0, .int .i64 0, .int .i64 0] 39 ∧ Blk W3 xb #[.int .i64 who, .int .u8 wv, .int .i64 (un : Int), .int .i64 ar, .int .i64 d, .int .i64 h, .int .i64 lo] 39) := Lib.hid ⟨X2.out.1.trans hk3, X2.out.2.1.kept hk3, X2.out.2.2.1.kept hk3, X2.out.2.2.2.1.kept hk3, X2.out.2.2.2.2.1.kept hk3, X2.out.2.2.2.2.2.kept hk3⟩
      clear hk3 X2 ex ef px bx cz cg0 cg1 hw4 hw5
      by_cases hm0 : 0 < mn
      · as_aux_lemma =>
        have j1 : (0 : Int) < (mn : Int) := by omega
        have HAA := Lib.hid (am_in (x := ar) (n := (mn : Int)) (by omega))
        have hAM2 := fun w => Among_any ar (mn : Int) (by omega) (by have := HMN.out; omega) w
        obtain ⟨an, han⟩ : ∃ k : Nat, (f0 : Int) + am ar (mn : Int) = (k : Int) := ⟨((f0 : Int) + am ar (mn : Int)).toNat, by have := HAA.out; omega⟩
        have hanm : an < m := by have := HAA.out; have := HMN.out; omega
        have hw4 : wrap64 ((f0 : Int) + am ar (mn : Int)) = (an : Int) := by rw [han]; have := HMN.out; unfold wrap64; omega
        have hw5 : IntKind.i64.wrap ((f0 : Int) + am ar (mn : Int)) = (an : Int) := by rw [han, IntKind.wrap_i64]; have := HMN.out; omega
        have cg0 := (keptCells X3.out.1 _ (by rw [cf0]; rfl)).trans cf0
        have bx := X3.out.2.1.cell
        rw [HE3.out] at bx
        have ex := X3.out.2.2.2.2.2.cell
        have ef := X3.out.2.2.2.2.2.free
        clear han
        go_upto_region 11 with (fail)
        refine wp_region_quiet_tail 12 (by kernel_rfl) (by kernel_rfl) ?_
        simp only [List.take_succ_cons, List.take_zero, List.drop_succ_cons, List.drop_zero]
        repeat (first | go_big_quiet_step (fail) | (go_big_quiet_want; go_big_quiet_op; refine ⟨_, hAM2 _, ?_⟩; go_big_quiet_on))
        refine wpQuiet_nil ?_
        go_upto_region 12 with (fail)
        clear ex ef bx cg0 hw4 hw5 hAM2 HAA
        have X4 : Hid (Kept w (W3.setCell ⟨xb, 3, none⟩ (.int .i64 (an : Int))) ∧ Blk (W3.setCell ⟨xb, 3, none⟩ (.int .i64 (an : Int))) cb #[.int .i64 N, .int .i64 S, .int .i64 T, .slice a3 (n + 1) c3, .slice a4 m c4, .slice a5 m c5, .slice a6 m c6, .slice a7 m c7, .slice a8 m c8] 32 ∧ Blk (W3.setCell ⟨xb, 3, none⟩ (.int .i64 (an : Int))) pb #[.slice ra m rc, .slice ea n ec, .slice za n zc] 29 ∧ Blk (W3.setCell ⟨xb, 3, none⟩ (.int .i64 (an : Int))) ab #[.int .i64 who, .int .u8 wt, .int .i64 u, .int .i64 ar, .int .i64 d, .int .i64 h, .int .i64 lo, .bool false, .int .u8 ft] 41 ∧ Blk (W3.setCell ⟨xb, 3, none⟩ (.int .i64 (an : Int))) rb #[.int .i64 0, .int .u8 0, .int .i64 0, .int .i64 0, .int .i64 0, .int .i64 0, .int .i64 0] 39 ∧ Blk (W3.setCell ⟨xb, 3, none⟩ (.int .i64 (an : Int))) xb #[.int .i64 who, .int .u8 wv, .int .i64 (un : Int), .int .i64 (an : Int), .int .i64 d, .int .i64 h, .int .i64 lo] 39) := Lib.hid (by
          have hu := Upd.setCell (S := fun k => k = xb) (p := ⟨xb, 3, none⟩) (Upd.refl _ W3) (.inl rfl) (.int .i64 (an : Int))
          have x := X3.out
          have q := HNE.out
          exact ⟨x.1.then hu (fun i hi e => by have := HRB.out; have := HCB.out; omega), x.2.1.upd hu (by omega), x.2.2.1.upd hu (by omega), x.2.2.2.1.upd hu (by omega), x.2.2.2.2.1.upd hu (by omega), x.2.2.2.2.2.set 3 (.int .i64 (an : Int))⟩)
        clear X3
        have X4 : Hid (Kept w (W3.setCell ⟨xb, 3, none⟩ (.int .i64 (an : Int))).drew ∧ Blk (W3.setCell ⟨xb, 3, none⟩ (.int .i64 (an : Int))).drew cb #[.int .i64 N, .int .i64 S, .int .i64 T, .slice a3 (n + 1) c3, .slice a4 m c4, .slice a5 m c5, .slice a6 m c6, .slice a7 m c7, .slice a8 m c8] 32 ∧ Blk (W3.setCell ⟨xb, 3, none⟩ (.int .i64 (an : Int))).drew pb #[.slice ra m rc, .slice ea n ec, .slice za n zc] 29 ∧ Blk (W3.setCell ⟨xb, 3, none⟩ (.int .i64 (an : Int))).drew ab #[.int .i64 who, .int .u8 wt, .int .i64 u, .int .i64 ar, .int .i64 d, .int .i64 h, .int .i64 lo, .bool false, .int .u8 ft] 41 ∧ Blk (W3.setCell ⟨xb, 3, none⟩ (.int .i64 (an : Int))).drew rb #[.int .i64 0, .int .u8 0, .int .i64 0, .int .i64 0, .int .i64 0, .int .i64 0, .int .i64 0] 39 ∧ Blk (W3.setCell ⟨xb, 3, none⟩ (.int .i64 (an : Int))).drew xb #[.int .i64 who, .int .u8 wv, .int .i64 (un : Int), .int .i64 (an : Int), .int .i64 d, .int .i64 h, .int .i64 lo] 39) := Lib.hid ⟨X4.out.1.drew, X4.out.2.1.kept (Upd.refl _ _).drew, X4.out.2.2.1.kept (Upd.refl _ _).drew, X4.out.2.2.2.1.kept (Upd.refl _ _).drew, X4.out.2.2.2.2.1.kept (Upd.refl _ _).drew, X4.out.2.2.2.2.2.kept (Upd.refl _ _).drew⟩
        generalize (W3.setCell ⟨xb, 3, none⟩ (.int .i64 (an : Int))).drew = W4 at X4 ⊢
        obtain ⟨eb0, eo, e6, ce0⟩ := HEE.out.num (i := un) (by have := HOK.out; omega)
        obtain ⟨rb0, ro, e7, cr0⟩ := HRR.out.num (i := an) (by have := HOK.out; omega)
        generalize p.es.getD un 0 = xe at ce0
        generalize p.rs.getD an 0 = xr at cr0
        have ce := (keptCells X4.out.1 _ (by rw [ce0]; rfl)).trans ce0
        have cr := (keptCells X4.out.1 _ (by rw [cr0]; rfl)).trans cr0
        have px := X4.out.2.2.1.cell
        rw [e6, e7] at px
        have ex := X4.out.2.2.2.2.2.cell
        have ef := X4.out.2.2.2.2.2.free
        obtain ⟨mx, hmx⟩ : ∃ q, (if xe < 0 then 0 else xe) = q := ⟨_, rfl⟩
        obtain ⟨dv, hdv⟩ : ∃ q, (if xr < mx then xr else mx) = q := ⟨_, rfl⟩
        have j2 : (an : Int) < (m : Int) := by omega
        have j3 : (0 : Int) ≤ (an : Int) := by omega
        clear e6 e7 ce0 cr0
        refine wp_region_quiet_tail 15 (by kernel_rfl) (by kernel_rfl) ?_
        simp only [List.take_succ_cons, List.take_zero, List.drop_succ_cons, List.drop_zero]
        repeat (go_big_quiet_step (fail))
        refine wpQuiet_nil ?_
        go_upto_region 13 with (fail)
        clear ex ef px ce cr hmx hdv
        have X5 : Hid (Kept w (W4.setCell ⟨xb, 4, none⟩ (.int .i64 dv)) ∧ Blk (W4.setCell ⟨xb, 4, none⟩ (.int .i64 dv)) cb #[.int .i64 N, .int .i64 S, .int .i64 T, .slice a3 (n + 1) c3, .slice a4 m c4, .slice a5 m c5, .slice a6 m c6, .slice a7 m c7, .slice a8 m c8] 32 ∧ Blk (W4.setCell ⟨xb, 4, none⟩ (.int .i64 dv)) pb #[.slice ra m rc, .slice ea n ec, .slice za n zc] 29 ∧ Blk (W4.setCell ⟨xb, 4, none⟩ (.int .i64 dv)) ab #[.int .i64 who, .int .u8 wt, .int .i64 u, .int .i64 ar, .int .i64 d, .int .i64 h, .int .i64 lo, .bool false, .int .u8 ft] 41 ∧ Blk (W4.setCell ⟨xb, 4, none⟩ (.int .i64 dv)) rb #[.int .i64 0, .int .u8 0, .int .i64 0, .int .i64 0, .int .i64 0, .int .i64 0, .int .i64 0] 39 ∧ Blk (W4.setCell ⟨xb, 4, none⟩ (.int .i64 dv)) xb #[.int .i64 who, .int .u8 wv, .int .i64 (un : Int), .int .i64 (an : Int), .int .i64 dv, .int .i64 h, .int .i64 lo] 39) := Lib.hid (by
          have hu := Upd.setCell (S := fun k => k = xb) (p := ⟨xb, 4, none⟩) (Upd.refl _ W4) (.inl rfl) (.int .i64 dv)
          have x := X4.out
          have q := HNE.out
          exact ⟨x.1.then hu (fun i hi e => by have := HRB.out; have := HCB.out; omega), x.2.1.upd hu (by omega), x.2.2.1.upd hu (by omega), x.2.2.2.1.upd hu (by omega), x.2.2.2.2.1.upd hu (by omega), x.2.2.2.2.2.set 4 (.int .i64 dv)⟩)
        clear X4
        have X5 : Hid (Kept w (W4.setCell ⟨xb, 4, none⟩ (.int .i64 dv)).drew ∧ Blk (W4.setCell ⟨xb, 4, none⟩ (.int .i64 dv)).drew cb #[.int .i64 N, .int .i64 S, .int .i64 T, .slice a3 (n + 1) c3, .slice a4 m c4, .slice a5 m c5, .slice a6 m c6, .slice a7 m c7, .slice a8 m c8] 32 ∧ Blk (W4.setCell ⟨xb, 4, none⟩ (.int .i64 dv)).drew pb #[.slice ra m rc, .slice ea n ec, .slice za n zc] 29 ∧ Blk (W4.setCell ⟨xb, 4, none⟩ (.int .i64 dv)).drew ab #[.int .i64 who, .int .u8 wt, .int .i64 u, .int .i64 ar, .int .i64 d, .int .i64 h, .int .i64 lo, .bool false, .int .u8 ft] 41 ∧ Blk (W4.setCell ⟨xb, 4, none⟩ (.int .i64 dv)).drew rb #[.int .i64 0, .int .u8 0, .int .i64 0, .int .i64 0, .int .i64 0, .int .i64 0, .int .i64 0] 39 ∧ Blk (W4.setCell ⟨xb, 4, none⟩ (.int .i64 dv)).drew xb #[.int .i64 who, .int .u8 wv, .int .i64 (un : Int), .int .i64 (an : Int), .int .i64 dv, .int .i64 h, .int .i64 lo] 39) := Lib.hid ⟨X5.out.1.drew, X5.out.2.1.kept (Upd.refl _ _).drew, X5.out.2.2.1.kept (Upd.refl _ _).drew, X5.out.2.2.2.1.kept (Upd.refl _ _).drew, X5.out.2.2.2.2.1.kept (Upd.refl _ _).drew, X5.out.2.2.2.2.2.kept (Upd.refl _ _).drew⟩
        generalize (W4.setCell ⟨xb, 4, none⟩ (.int .i64 dv)).drew = W5 at X5 ⊢
        have ex := X5.out.2.2.2.2.2.cell
        have ef := X5.out.2.2.2.2.2.free
        have ax := X5.out.2.2.2.1.cell
        obtain ⟨z, hzz⟩ : ∃ z, (bits BinOp.and IntKind.u8 ft 2 != 0) = z := ⟨_, rfl⟩
        cases z
        · as_aux_lemma =>
          go_upto_region 15 with (fail)
          clear ex ef ax hzz
          have cz := (keptCells X5.out.1 _ (by rw [cz0]; rfl)).trans cz0
          have px := X5.out.2.2.1.cell
          rw [HEZ.out] at px
          have ex := X5.out.2.2.2.2.2.cell
          have ef := X5.out.2.2.2.2.2.free
          go_upto_region 16 with (fail)
          clear cz px ex ef
          have X7 : Hid (Kept w (W5.setCell ⟨xb, 5, none⟩ (.int .i64 xh)) ∧ Blk (W5.setCell ⟨xb, 5, none⟩ (.int .i64 xh)) cb #[.int .i64 N, .int .i64 S, .int .i64 T, .slice a3 (n + 1) c3, .slice a4 m c4, .slice a5 m c5, .slice a6 m c6, .slice a7 m c7, .slice a8 m c8] 32 ∧ Blk (W5.setCell ⟨xb, 5, none⟩ (.int .i64 xh)) pb #[.slice ra m rc, .slice ea n ec, .slice za n zc] 29 ∧ Blk (W5.setCell ⟨xb, 5, none⟩ (.int .i64 xh)) ab #[.int .i64 who, .int .u8 wt, .int .i64 u, .int .i64 ar, .int .i64 d, .int .i64 h, .int .i64 lo, .bool false, .int .u8 ft] 41 ∧ Blk (W5.setCell ⟨xb, 5, none⟩ (.int .i64 xh)) rb #[.int .i64 0, .int .u8 0, .int .i64 0, .int .i64 0, .int .i64 0, .int .i64 0, .int .i64 0] 39 ∧ Blk (W5.setCell ⟨xb, 5, none⟩ (.int .i64 xh)) xb #[.int .i64 who, .int .u8 wv, .int .i64 (un : Int), .int .i64 (an : Int), .int .i64 dv, .int .i64 xh, .int .i64 lo] 39) := Lib.hid (by
            have hu := Upd.setCell (S := fun k => k = xb) (p := ⟨xb, 5, none⟩) (Upd.refl _ W5) (.inl rfl) (.int .i64 xh)
            have x := X5.out
            have q := HNE.out
            exact ⟨x.1.then hu (fun i hi e => by have := HRB.out; have := HCB.out; omega), x.2.1.upd hu (by omega), x.2.2.1.upd hu (by omega), x.2.2.2.1.upd hu (by omega), x.2.2.2.2.1.upd hu (by omega), x.2.2.2.2.2.set 5 (.int .i64 xh)⟩)
          clear X5
          generalize W5.setCell ⟨xb, 5, none⟩ (.int .i64 xh) = W7 at X7 ⊢
          have ex := X7.out.2.2.2.2.2.cell
          have ef := X7.out.2.2.2.2.2.free
          have hA2 := fun x w => Among_any x 2 (by omega) (by omega) w
          refine wp_region_quiet_tail 8 (by kernel_rfl) (by kernel_rfl) ?_
          simp only [List.take_succ_cons, List.take_zero, List.drop_succ_cons, List.drop_zero]
          repeat (first | go_big_quiet_step (fail) | (go_big_quiet_want; go_big_quiet_op; refine ⟨_, hA2 _ _, ?_⟩; go_big_quiet_on))
          refine wpQuiet_nil ?_
          go_upto_region 17 with (fail)
          clear ex ef
          have X8 : Hid (Kept w (W7.setCell ⟨xb, 6, none⟩ (.int .i64 (wrap64 (wrap64 (xh - 1) - am lo 2)))) ∧ Blk (W7.setCell ⟨xb, 6, none⟩ (.int .i64 (wrap64 (wrap64 (xh - 1) - am lo 2)))) cb #[.int .i64 N, .int .i64 S, .int .i64 T, .slice a3 (n + 1) c3, .slice a4 m c4, .slice a5 m c5, .slice a6 m c6, .slice a7 m c7, .slice a8 m c8] 32 ∧ Blk (W7.setCell ⟨xb, 6, none⟩ (.int .i64 (wrap64 (wrap64 (xh - 1) - am lo 2)))) pb #[.slice ra m rc, .slice ea n ec, .slice za n zc] 29 ∧ Blk (W7.setCell ⟨xb, 6, none⟩ (.int .i64 (wrap64 (wrap64 (xh - 1) - am lo 2)))) ab #[.int .i64 who, .int .u8 wt, .int .i64 u, .int .i64 ar, .int .i64 d, .int .i64 h, .int .i64 lo, .bool false, .int .u8 ft] 41 ∧ Blk (W7.setCell ⟨xb, 6, none⟩ (.int .i64 (wrap64 (wrap64 (xh - 1) - am lo 2)))) rb #[.int .i64 0, .int .u8 0, .int .i64 0, .int .i64 0, .int .i64 0, .int .i64 0, .int .i64 0] 39 ∧ Blk (W7.setCell ⟨xb, 6, none⟩ (.int .i64 (wrap64 (wrap64 (xh - 1) - am lo 2)))) xb #[.int .i64 who, .int .u8 wv, .int .i64 (un : Int), .int .i64 (an : Int), .int .i64 dv, .int .i64 xh, .int .i64 (wrap64 (wrap64 (xh - 1) - am lo 2))] 39) := Lib.hid (by
            have hu := Upd.setCell (S := fun k => k = xb) (p := ⟨xb, 6, none⟩) (Upd.refl _ W7) (.inl rfl) (.int .i64 (wrap64 (wrap64 (xh - 1) - am lo 2)))
            have x := X7.out
            have q := HNE.out
            exact ⟨x.1.then hu (fun i hi e => by have := HRB.out; have := HCB.out; omega), x.2.1.upd hu (by omega), x.2.2.1.upd hu (by omega), x.2.2.2.1.upd hu (by omega), x.2.2.2.2.1.upd hu (by omega), x.2.2.2.2.2.set 6 (.int .i64 (wrap64 (wrap64 (xh - 1) - am lo 2)))⟩)
          clear X7
          have X8 : Hid (Kept w (W7.setCell ⟨xb, 6, none⟩ (.int .i64 (wrap64 (wrap64 (xh - 1) - am lo 2)))).drew ∧ Blk (W7.setCell ⟨xb, 6, none⟩ (.int .i64 (wrap64 (wrap64 (xh - 1) - am lo 2)))).drew cb #[.int .i64 N, .int .i64 S, .int .i64 T, .slice a3 (n + 1) c3, .slice a4 m c4, .slice a5 m c5, .slice a6 m c6, .slice a7 m c7, .slice a8 m c8] 32 ∧ Blk (W7.setCell ⟨xb, 6, none⟩ (.int .i64 (wrap64 (wrap64 (xh - 1) - am lo 2)))).drew pb #[.slice ra m rc, .slice ea n ec, .slice za n zc] 29 ∧ Blk (W7.setCell ⟨xb, 6, none⟩ (.int .i64 (wrap64 (wrap64 (xh - 1) - am lo 2)))).drew ab #[.int .i64 who, .int .u8 wt, .int .i64 u, .int .i64 ar, .int .i64 d, .int .i64 h, .int .i64 lo, .bool false, .int .u8 ft] 41 ∧ Blk (W7.setCell ⟨xb, 6, none⟩ (.int .i64 (wrap64 (wrap64 (xh - 1) - am lo 2)))).drew rb #[.int .i64 0, .int .u8 0, .int .i64 0, .int .i64 0, .int .i64 0, .int .i64 0, .int .i64 0] 39 ∧ Blk (W7.setCell ⟨xb, 6, none⟩ (.int .i64 (wrap64 (wrap64 (xh - 1) - am lo 2)))).drew xb #[.int .i64 who, .int .u8 wv, .int .i64 (un : Int), .int .i64 (an : Int), .int .i64 dv, .int .i64 xh, .int .i64 (wrap64 (wrap64 (xh - 1) - am lo 2))] 39) := Lib.hid ⟨X8.out.1.drew, X8.out.2.1.kept (Upd.refl _ _).drew, X8.out.2.2.1.kept (Upd.refl _ _).drew, X8.out.2.2.2.1.kept (Upd.refl _ _).drew, X8.out.2.2.2.2.1.kept (Upd.refl _ _).drew, X8.out.2.2.2.2.2.kept (Upd.refl _ _).drew⟩
          generalize (W7.setCell ⟨xb, 6, none⟩ (.int .i64 (wrap64 (wrap64 (xh - 1) - am lo 2)))).drew = W8 at X8 ⊢
          have hraE := Blk.range X8.out.2.2.2.2.2
          have hth := Blk.there X8.out.2.2.2.2.1 7 rfl
          obtain ⟨WF, hWF⟩ : ∃ W', W8.setCells rb 0 [.int .i64 who, .int .u8 wv, .int .i64 (un : Int), .int .i64 (an : Int), .int .i64 dv, .int .i64 xh, .int .i64 (wrap64 (wrap64 (xh - 1) - am lo 2))] = W' := ⟨_, rfl⟩
          have hBF : Blk WF rb #[.int .i64 who, .int .u8 wv, .int .i64 (un : Int), .int .i64 (an : Int), .int .i64 dv, .int .i64 xh, .int .i64 (wrap64 (wrap64 (xh - 1) - am lo 2))] 39 ∧ Upd (fun k => k = rb) W8 WF := by rw [← hWF]; exact Blk.alls X8.out.2.2.2.2.1 [.int .i64 who, .int .u8 wv, .int .i64 (un : Int), .int .i64 (an : Int), .int .i64 dv, .int .i64 xh, .int .i64 (wrap64 (wrap64 (xh - 1) - am lo 2))] rfl
          have HKF : Hid (Kept w WF) := Lib.hid (X8.out.1.then hBF.2 (fun i hi e => by have := HRB.out; have := HCB.out; omega))
          have hc := hBF.1.cell
          clear hBF X8
          go_wp2_with (first | (refine wpList_load_mid rfl _ _ rfl xb 0 rfl [.int .i64 who, .int .u8 wv, .int .i64 (un : Int), .int .i64 (an : Int), .int .i64 dv, .int .i64 xh, .int .i64 (wrap64 (wrap64 (xh - 1) - am lo 2))] _ hraE Try.underlying39 rfl hz7 ?_) | (refine wpList_store_mid rfl _ _ _ rfl rb 0 #[.int .i64 who, .int .u8 wv, .int .i64 (un : Int), .int .i64 (an : Int), .int .i64 dv, .int .i64 xh, .int .i64 (wrap64 (wrap64 (xh - 1) - am lo 2))] rfl rfl hth hz7 (all_oneCell_toArray (cs := [.int .i64 who, .int .u8 wv, .int .i64 (un : Int), .int .i64 (an : Int), .int .i64 dv, .int .i64 xh, .int .i64 (wrap64 (wrap64 (xh - 1) - am lo 2))]) (by simp [Value.oneCell'])) ?_; simp only [hWF]) | fail)
          refine bodyPost_ret (v := .agg #[.int .i64 who, .int .u8 wv, .int .i64 (un : Int), .int .i64 (an : Int), .int .i64 dv, .int .i64 xh, .int .i64 (wrap64 (wrap64 (xh - 1) - am lo 2))]) (by simp [results, Try.results12, go_sem, hc]) rfl ?_
          exact ⟨⟨who, wv, (un : Int), (an : Int), dv, xh, (wrap64 (wrap64 (xh - 1) - am lo 2))⟩, rfl, HWV.out, HKF.out⟩
        · as_aux_lemma =>
          by_cases hd1 : 1 < dv
          · as_aux_lemma =>
            have j4 : decide (1 < dv) = true := by simpa using hd1
            go_upto_region 15 with (fail)
            clear ex ef ax hzz hd1 j4
            have X6 : Hid (Kept w (W5.setCell ⟨xb, 4, none⟩ (.int .i64 (wrap64 (1 + wrap64 (dv.tdiv 2))))) ∧ Blk (W5.setCell ⟨xb, 4, none⟩ (.int .i64 (wrap64 (1 + wrap64 (dv.tdiv 2))))) cb #[.int .i64 N, .int .i64 S, .int .i64 T, .slice a3 (n + 1) c3, .slice a4 m c4, .slice a5 m c5, .slice a6 m c6, .slice a7 m c7, .slice a8 m c8] 32 ∧ Blk (W5.setCell ⟨xb, 4, none⟩ (.int .i64 (wrap64 (1 + wrap64 (dv.tdiv 2))))) pb #[.slice ra m rc, .slice ea n ec, .slice za n zc] 29 ∧ Blk (W5.setCell ⟨xb, 4, none⟩ (.int .i64 (wrap64 (1 + wrap64 (dv.tdiv 2))))) ab #[.int .i64 who, .int .u8 wt, .int .i64 u, .int .i64 ar, .int .i64 d, .int .i64 h, .int .i64 lo, .bool false, .int .u8 ft] 41 ∧ Blk (W5.setCell ⟨xb, 4, none⟩ (.int .i64 (wrap64 (1 + wrap64 (dv.tdiv 2))))) rb #[.int .i64 0, .int .u8 0, .int .i64 0, .int .i64 0, .int .i64 0, .int .i64 0, .int .i64 0] 39 ∧ Blk (W5.setCell ⟨xb, 4, none⟩ (.int .i64 (wrap64 (1 + wrap64 (dv.tdiv 2))))) xb #[.int .i64 who, .int .u8 wv, .int .i64 (un : Int), .int .i64 (an : Int), .int .i64 (wrap64 (1 + wrap64 (dv.tdiv 2))), .int .i64 h, .int .i64 lo] 39) := Lib.hid (by
              have hu := Upd.setCell (S := fun k => k = xb) (p := ⟨xb, 4, none⟩) (Upd.refl _ W5) (.inl rfl) (.int .i64 (wrap64 (1 + wrap64 (dv.tdiv 2))))
              have x := X5.out
              have q := HNE.out
              exact ⟨x.1.then hu (fun i hi e => by have := HRB.out; have := HCB.out; omega), x.2.1.upd hu (by omega), x.2.2.1.upd hu (by omega), x.2.2.2.1.upd hu (by omega), x.2.2.2.2.1.upd hu (by omega), x.2.2.2.2.2.set 4 (.int .i64 (wrap64 (1 + wrap64 (dv.tdiv 2))))⟩)
            clear X5
            generalize W5.setCell ⟨xb, 4, none⟩ (.int .i64 (wrap64 (1 + wrap64 (dv.tdiv 2)))) = W6 at X6 ⊢
            have cz := (keptCells X6.out.1 _ (by rw [cz0]; rfl)).trans cz0
            have px := X6.out.2.2.1.cell
            rw [HEZ.out] at px
            have ex := X6.out.2.2.2.2.2.cell
            have ef := X6.out.2.2.2.2.2.free
            go_upto_region 16 with (fail)
            clear cz px ex ef
            have X7 : Hid (Kept w (W6.setCell ⟨xb, 5, none⟩ (.int .i64 xh)) ∧ Blk (W6.setCell ⟨xb, 5, none⟩ (.int .i64 xh)) cb #[.int .i64 N, .int .i64 S, .int .i64 T, .slice a3 (n + 1) c3, .slice a4 m c4, .slice a5 m c5, .slice a6 m c6, .slice a7 m c7, .slice a8 m c8] 32 ∧ Blk (W6.setCell ⟨xb, 5, none⟩ (.int .i64 xh)) pb #[.slice ra m rc, .slice ea n ec, .slice za n zc] 29 ∧ Blk (W6.setCell ⟨xb, 5, none⟩ (.int .i64 xh)) ab #[.int .i64 who, .int .u8 wt, .int .i64 u, .int .i64 ar, .int .i64 d, .int .i64 h, .int .i64 lo, .bool false, .int .u8 ft] 41 ∧ Blk (W6.setCell ⟨xb, 5, none⟩ (.int .i64 xh)) rb #[.int .i64 0, .int .u8 0, .int .i64 0, .int .i64 0, .int .i64 0, .int .i64 0, .int .i64 0] 39 ∧ Blk (W6.setCell ⟨xb, 5, none⟩ (.int .i64 xh)) xb #[.int .i64 who, .int .u8 wv, .int .i64 (un : Int), .int .i64 (an : Int), .int .i64 (wrap64 (1 + wrap64 (dv.tdiv 2))), .int .i64 xh, .int .i64 lo] 39) := Lib.hid (by
              have hu := Upd.setCell (S := fun k => k = xb) (p := ⟨xb, 5, none⟩) (Upd.refl _ W6) (.inl rfl) (.int .i64 xh)
              have x := X6.out
              have q := HNE.out
              exact ⟨x.1.then hu (fun i hi e => by have := HRB.out; have := HCB.out; omega), x.2.1.upd hu (by omega), x.2.2.1.upd hu (by omega), x.2.2.2.1.upd hu (by omega), x.2.2.2.2.1.upd hu (by omega), x.2.2.2.2.2.set 5 (.int .i64 xh)⟩)
            clear X6
            generalize W6.setCell ⟨xb, 5, none⟩ (.int .i64 xh) = W7 at X7 ⊢
            have ex := X7.out.2.2.2.2.2.cell
            have ef := X7.out.2.2.2.2.2.free
            have hA2 := fun x w => Among_any x 2 (by omega) (by omega) w
            refine wp_region_quiet_tail 8 (by kernel_rfl) (by kernel_rfl) ?_
            simp only [List.take_succ_cons, List.take_zero, List.drop_succ_cons, List.drop_zero]
            repeat (first | go_big_quiet_step (fail) | (go_big_quiet_want; go_big_quiet_op; refine ⟨_, hA2 _ _, ?_⟩; go_big_quiet_on))
            refine wpQuiet_nil ?_
            go_upto_region 17 with (fail)
            clear ex ef
            have X8 : Hid (Kept w (W7.setCell ⟨xb, 6, none⟩ (.int .i64 (wrap64 (wrap64 (xh - 1) - am lo 2)))) ∧ Blk (W7.setCell ⟨xb, 6, none⟩ (.int .i64 (wrap64 (wrap64 (xh - 1) - am lo 2)))) cb #[.int .i64 N, .int .i64 S, .int .i64 T, .slice a3 (n + 1) c3, .slice a4 m c4, .slice a5 m c5, .slice a6 m c6, .slice a7 m c7, .slice a8 m c8] 32 ∧ Blk (W7.setCell ⟨xb, 6, none⟩ (.int .i64 (wrap64 (wrap64 (xh - 1) - am lo 2)))) pb #[.slice ra m rc, .slice ea n ec, .slice za n zc] 29 ∧ Blk (W7.setCell ⟨xb, 6, none⟩ (.int .i64 (wrap64 (wrap64 (xh - 1) - am lo 2)))) ab #[.int .i64 who, .int .u8 wt, .int .i64 u, .int .i64 ar, .int .i64 d, .int .i64 h, .int .i64 lo, .bool false, .int .u8 ft] 41 ∧ Blk (W7.setCell ⟨xb, 6, none⟩ (.int .i64 (wrap64 (wrap64 (xh - 1) - am lo 2)))) rb #[.int .i64 0, .int .u8 0, .int .i64 0, .int .i64 0, .int .i64 0, .int .i64 0, .int .i64 0] 39 ∧ Blk (W7.setCell ⟨xb, 6, none⟩ (.int .i64 (wrap64 (wrap64 (xh - 1) - am lo 2)))) xb #[.int .i64 who, .int .u8 wv, .int .i64 (un : Int), .int .i64 (an : Int), .int .i64 (wrap64 (1 + wrap64 (dv.tdiv 2))), .int .i64 xh, .int .i64 (wrap64 (wrap64 (xh - 1) - am lo 2))] 39) := Lib.hid (by
              have hu := Upd.setCell (S := fun k => k = xb) (p := ⟨xb, 6, none⟩) (Upd.refl _ W7) (.inl rfl) (.int .i64 (wrap64 (wrap64 (xh - 1) - am lo 2)))
              have x := X7.out
              have q := HNE.out
              exact ⟨x.1.then hu (fun i hi e => by have := HRB.out; have := HCB.out; omega), x.2.1.upd hu (by omega), x.2.2.1.upd hu (by omega), x.2.2.2.1.upd hu (by omega), x.2.2.2.2.1.upd hu (by omega), x.2.2.2.2.2.set 6 (.int .i64 (wrap64 (wrap64 (xh - 1) - am lo 2)))⟩)
            clear X7
            have X8 : Hid (Kept w (W7.setCell ⟨xb, 6, none⟩ (.int .i64 (wrap64 (wrap64 (xh - 1) - am lo 2)))).drew ∧ Blk (W7.setCell ⟨xb, 6, none⟩ (.int .i64 (wrap64 (wrap64 (xh - 1) - am lo 2)))).drew cb #[.int .i64 N, .int .i64 S, .int .i64 T, .slice a3 (n + 1) c3, .slice a4 m c4, .slice a5 m c5, .slice a6 m c6, .slice a7 m c7, .slice a8 m c8] 32 ∧ Blk (W7.setCell ⟨xb, 6, none⟩ (.int .i64 (wrap64 (wrap64 (xh - 1) - am lo 2)))).drew pb #[.slice ra m rc, .slice ea n ec, .slice za n zc] 29 ∧ Blk (W7.setCell ⟨xb, 6, none⟩ (.int .i64 (wrap64 (wrap64 (xh - 1) - am lo 2)))).drew ab #[.int .i64 who, .int .u8 wt, .int .i64 u, .int .i64 ar, .int .i64 d, .int .i64 h, .int .i64 lo, .bool false, .int .u8 ft] 41 ∧ Blk (W7.setCell ⟨xb, 6, none⟩ (.int .i64 (wrap64 (wrap64 (xh - 1) - am lo 2)))).drew rb #[.int .i64 0, .int .u8 0, .int .i64 0, .int .i64 0, .int .i64 0, .int .i64 0, .int .i64 0] 39 ∧ Blk (W7.setCell ⟨xb, 6, none⟩ (.int .i64 (wrap64 (wrap64 (xh - 1) - am lo 2)))).drew xb #[.int .i64 who, .int .u8 wv, .int .i64 (un : Int), .int .i64 (an : Int), .int .i64 (wrap64 (1 + wrap64 (dv.tdiv 2))), .int .i64 xh, .int .i64 (wrap64 (wrap64 (xh - 1) - am lo 2))] 39) := Lib.hid ⟨X8.out.1.drew, X8.out.2.1.kept (Upd.refl _ _).drew, X8.out.2.2.1.kept (Upd.refl _ _).drew, X8.out.2.2.2.1.kept (Upd.refl _ _).drew, X8.out.2.2.2.2.1.kept (Upd.refl _ _).drew, X8.out.2.2.2.2.2.kept (Upd.refl _ _).drew⟩
            generalize (W7.setCell ⟨xb, 6, none⟩ (.int .i64 (wrap64 (wrap64 (xh - 1) - am lo 2)))).drew = W8 at X8 ⊢
            have hraE := Blk.range X8.out.2.2.2.2.2
            have hth := Blk.there X8.out.2.2.2.2.1 7 rfl
            obtain ⟨WF, hWF⟩ : ∃ W', W8.setCells rb 0 [.int .i64 who, .int .u8 wv, .int .i64 (un : Int), .int .i64 (an : Int), .int .i64 (wrap64 (1 + wrap64 (dv.tdiv 2))), .int .i64 xh, .int .i64 (wrap64 (wrap64 (xh - 1) - am lo 2))] = W' := ⟨_, rfl⟩
            have hBF : Blk WF rb #[.int .i64 who, .int .u8 wv, .int .i64 (un : Int), .int .i64 (an : Int), .int .i64 (wrap64 (1 + wrap64 (dv.tdiv 2))), .int .i64 xh, .int .i64 (wrap64 (wrap64 (xh - 1) - am lo 2))] 39 ∧ Upd (fun k => k = rb) W8 WF := by rw [← hWF]; exact Blk.alls X8.out.2.2.2.2.1 [.int .i64 who, .int .u8 wv, .int .i64 (un : Int), .int .i64 (an : Int), .int .i64 (wrap64 (1 + wrap64 (dv.tdiv 2))), .int .i64 xh, .int .i64 (wrap64 (wrap64 (xh - 1) - am lo 2))] rfl
            have HKF : Hid (Kept w WF) := Lib.hid (X8.out.1.then hBF.2 (fun i hi e => by have := HRB.out; have := HCB.out; omega))
            have hc := hBF.1.cell
            clear hBF X8
            go_wp2_with (first | (refine wpList_load_mid rfl _ _ rfl xb 0 rfl [.int .i64 who, .int .u8 wv, .int .i64 (un : Int), .int .i64 (an : Int), .int .i64 (wrap64 (1 + wrap64 (dv.tdiv 2))), .int .i64 xh, .int .i64 (wrap64 (wrap64 (xh - 1) - am lo 2))] _ hraE Try.underlying39 rfl hz7 ?_) | (refine wpList_store_mid rfl _ _ _ rfl rb 0 #[.int .i64 who, .int .u8 wv, .int .i64 (un : Int), .int .i64 (an : Int), .int .i64 (wrap64 (1 + wrap64 (dv.tdiv 2))), .int .i64 xh, .int .i64 (wrap64 (wrap64 (xh - 1) - am lo 2))] rfl rfl hth hz7 (all_oneCell_toArray (cs := [.int .i64 who, .int .u8 wv, .int .i64 (un : Int), .int .i64 (an : Int), .int .i64 (wrap64 (1 + wrap64 (dv.tdiv 2))), .int .i64 xh, .int .i64 (wrap64 (wrap64 (xh - 1) - am lo 2))]) (by simp [Value.oneCell'])) ?_; simp only [hWF]) | fail)
            refine bodyPost_ret (v := .agg #[.int .i64 who, .int .u8 wv, .int .i64 (un : Int), .int .i64 (an : Int), .int .i64 (wrap64 (1 + wrap64 (dv.tdiv 2))), .int .i64 xh, .int .i64 (wrap64 (wrap64 (xh - 1) - am lo 2))]) (by simp [results, Try.results12, go_sem, hc]) rfl ?_
            exact ⟨⟨who, wv, (un : Int), (an : Int), (wrap64 (1 + wrap64 (dv.tdiv 2))), xh, (wrap64 (wrap64 (xh - 1) - am lo 2))⟩, rfl, HWV.out, HKF.out⟩
          · as_aux_lemma =>
            have j4 : decide (1 < dv) = false := by simpa using hd1
            go_upto_region 15 with (fail)
            clear ex ef ax hzz hd1 j4
            have cz := (keptCells X5.out.1 _ (by rw [cz0]; rfl)).trans cz0
            have px := X5.out.2.2.1.cell
            rw [HEZ.out] at px
            have ex := X5.out.2.2.2.2.2.cell
            have ef := X5.out.2.2.2.2.2.free
            go_upto_region 16 with (fail)
            clear cz px ex ef
            have X7 : Hid (Kept w (W5.setCell ⟨xb, 5, none⟩ (.int .i64 xh)) ∧ Blk (W5.setCell ⟨xb, 5, none⟩ (.int .i64 xh)) cb #[.int .i64 N, .int .i64 S, .int .i64 T, .slice a3 (n + 1) c3, .slice a4 m c4, .slice a5 m c5, .slice a6 m c6, .slice a7 m c7, .slice a8 m c8] 32 ∧ Blk (W5.setCell ⟨xb, 5, none⟩ (.int .i64 xh)) pb #[.slice ra m rc, .slice ea n ec, .slice za n zc] 29 ∧ Blk (W5.setCell ⟨xb, 5, none⟩ (.int .i64 xh)) ab #[.int .i64 who, .int .u8 wt, .int .i64 u, .int .i64 ar, .int .i64 d, .int .i64 h, .int .i64 lo, .bool false, .int .u8 ft] 41 ∧ Blk (W5.setCell ⟨xb, 5, none⟩ (.int .i64 xh)) rb #[.int .i64 0, .int .u8 0, .int .i64 0, .int .i64 0, .int .i64 0, .int .i64 0, .int .i64 0] 39 ∧ Blk (W5.setCell ⟨xb, 5, none⟩ (.int .i64 xh)) xb #[.int .i64 who, .int .u8 wv, .int .i64 (un : Int), .int .i64 (an : Int), .int .i64 dv, .int .i64 xh, .int .i64 lo] 39) := Lib.hid (by
              have hu := Upd.setCell (S := fun k => k = xb) (p := ⟨xb, 5, none⟩) (Upd.refl _ W5) (.inl rfl) (.int .i64 xh)
              have x := X5.out
              have q := HNE.out
              exact ⟨x.1.then hu (fun i hi e => by have := HRB.out; have := HCB.out; omega), x.2.1.upd hu (by omega), x.2.2.1.upd hu (by omega), x.2.2.2.1.upd hu (by omega), x.2.2.2.2.1.upd hu (by omega), x.2.2.2.2.2.set 5 (.int .i64 xh)⟩)
            clear X5
            generalize W5.setCell ⟨xb, 5, none⟩ (.int .i64 xh) = W7 at X7 ⊢
            have ex := X7.out.2.2.2.2.2.cell
            have ef := X7.out.2.2.2.2.2.free
            have hA2 := fun x w => Among_any x 2 (by omega) (by omega) w
            refine wp_region_quiet_tail 8 (by kernel_rfl) (by kernel_rfl) ?_
            simp only [List.take_succ_cons, List.take_zero, List.drop_succ_cons, List.drop_zero]
            repeat (first | go_big_quiet_step (fail) | (go_big_quiet_want; go_big_quiet_op; refine ⟨_, hA2 _ _, ?_⟩; go_big_quiet_on))
            refine wpQuiet_nil ?_
            go_upto_region 17 with (fail)
            clear ex ef
            have X8 : Hid (Kept w (W7.setCell ⟨xb, 6, none⟩ (.int .i64 (wrap64 (wrap64 (xh - 1) - am lo 2)))) ∧ Blk (W7.setCell ⟨xb, 6, none⟩ (.int .i64 (wrap64 (wrap64 (xh - 1) - am lo 2)))) cb #[.int .i64 N, .int .i64 S, .int .i64 T, .slice a3 (n + 1) c3, .slice a4 m c4, .slice a5 m c5, .slice a6 m c6, .slice a7 m c7, .slice a8 m c8] 32 ∧ Blk (W7.setCell ⟨xb, 6, none⟩ (.int .i64 (wrap64 (wrap64 (xh - 1) - am lo 2)))) pb #[.slice ra m rc, .slice ea n ec, .slice za n zc] 29 ∧ Blk (W7.setCell ⟨xb, 6, none⟩ (.int .i64 (wrap64 (wrap64 (xh - 1) - am lo 2)))) ab #[.int .i64 who, .int .u8 wt, .int .i64 u, .int .i64 ar, .int .i64 d, .int .i64 h, .int .i64 lo, .bool false, .int .u8 ft] 41 ∧ Blk (W7.setCell ⟨xb, 6, none⟩ (.int .i64 (wrap64 (wrap64 (xh - 1) - am lo 2)))) rb #[.int .i64 0, .int .u8 0, .int .i64 0, .int .i64 0, .int .i64 0, .int .i64 0, .int .i64 0] 39 ∧ Blk (W7.setCell ⟨xb, 6, none⟩ (.int .i64 (wrap64 (wrap64 (xh - 1) - am lo 2)))) xb #[.int .i64 who, .int .u8 wv, .int .i64 (un : Int), .int .i64 (an : Int), .int .i64 dv, .int .i64 xh, .int .i64 (wrap64 (wrap64 (xh - 1) - am lo 2))] 39) := Lib.hid (by
              have hu := Upd.setCell (S := fun k => k = xb) (p := ⟨xb, 6, none⟩) (Upd.refl _ W7) (.inl rfl) (.int .i64 (wrap64 (wrap64 (xh - 1) - am lo 2)))
              have x := X7.out
              have q := HNE.out
              exact ⟨x.1.then hu (fun i hi e => by have := HRB.out; have := HCB.out; omega), x.2.1.upd hu (by omega), x.2.2.1.upd hu (by omega), x.2.2.2.1.upd hu (by omega), x.2.2.2.2.1.upd hu (by omega), x.2.2.2.2.2.set 6 (.int .i64 (wrap64 (wrap64 (xh - 1) - am lo 2)))⟩)
            clear X7
            have X8 : Hid (Kept w (W7.setCell ⟨xb, 6, none⟩ (.int .i64 (wrap64 (wrap64 (xh - 1) - am lo 2)))).drew ∧ Blk (W7.setCell ⟨xb, 6, none⟩ (.int .i64 (wrap64 (wrap64 (xh - 1) - am lo 2)))).drew cb #[.int .i64 N, .int .i64 S, .int .i64 T, .slice a3 (n + 1) c3, .slice a4 m c4, .slice a5 m c5, .slice a6 m c6, .slice a7 m c7, .slice a8 m c8] 32 ∧ Blk (W7.setCell ⟨xb, 6, none⟩ (.int .i64 (wrap64 (wrap64 (xh - 1) - am lo 2)))).drew pb #[.slice ra m rc, .slice ea n ec, .slice za n zc] 29 ∧ Blk (W7.setCell ⟨xb, 6, none⟩ (.int .i64 (wrap64 (wrap64 (xh - 1) - am lo 2)))).drew ab #[.int .i64 who, .int .u8 wt, .int .i64 u, .int .i64 ar, .int .i64 d, .int .i64 h, .int .i64 lo, .bool false, .int .u8 ft] 41 ∧ Blk (W7.setCell ⟨xb, 6, none⟩ (.int .i64 (wrap64 (wrap64 (xh - 1) - am lo 2)))).drew rb #[.int .i64 0, .int .u8 0, .int .i64 0, .int .i64 0, .int .i64 0, .int .i64 0, .int .i64 0] 39 ∧ Blk (W7.setCell ⟨xb, 6, none⟩ (.int .i64 (wrap64 (wrap64 (xh - 1) - am lo 2)))).drew xb #[.int .i64 who, .int .u8 wv, .int .i64 (un : Int), .int .i64 (an : Int), .int .i64 dv, .int .i64 xh, .int .i64 (wrap64 (wrap64 (xh - 1) - am lo 2))] 39) := Lib.hid ⟨X8.out.1.drew, X8.out.2.1.kept (Upd.refl _ _).drew, X8.out.2.2.1.kept (Upd.refl _ _).drew, X8.out.2.2.2.1.kept (Upd.refl _ _).drew, X8.out.2.2.2.2.1.kept (Upd.refl _ _).drew, X8.out.2.2.2.2.2.kept (Upd.refl _ _).drew⟩
            generalize (W7.setCell ⟨xb, 6, none⟩ (.int .i64 (wrap64 (wrap64 (xh - 1) - am lo 2)))).drew = W8 at X8 ⊢
            have hraE := Blk.range X8.out.2.2.2.2.2
            have hth := Blk.there X8.out.2.2.2.2.1 7 rfl
            obtain ⟨WF, hWF⟩ : ∃ W', W8.setCells rb 0 [.int .i64 who, .int .u8 wv, .int .i64 (un : Int), .int .i64 (an : Int), .int .i64 dv, .int .i64 xh, .int .i64 (wrap64 (wrap64 (xh - 1) - am lo 2))] = W' := ⟨_, rfl⟩
            have hBF : Blk WF rb #[.int .i64 who, .int .u8 wv, .int .i64 (un : Int), .int .i64 (an : Int), .int .i64 dv, .int .i64 xh, .int .i64 (wrap64 (wrap64 (xh - 1) - am lo 2))] 39 ∧ Upd (fun k => k = rb) W8 WF := by rw [← hWF]; exact Blk.alls X8.out.2.2.2.2.1 [.int .i64 who, .int .u8 wv, .int .i64 (un : Int), .int .i64 (an : Int), .int .i64 dv, .int .i64 xh, .int .i64 (wrap64 (wrap64 (xh - 1) - am lo 2))] rfl
            have HKF : Hid (Kept w WF) := Lib.hid (X8.out.1.then hBF.2 (fun i hi e => by have := HRB.out; have := HCB.out; omega))
            have hc := hBF.1.cell
            clear hBF X8
            go_wp2_with (first | (refine wpList_load_mid rfl _ _ rfl xb 0 rfl [.int .i64 who, .int .u8 wv, .int .i64 (un : Int), .int .i64 (an : Int), .int .i64 dv, .int .i64 xh, .int .i64 (wrap64 (wrap64 (xh - 1) - am lo 2))] _ hraE Try.underlying39 rfl hz7 ?_) | (refine wpList_store_mid rfl _ _ _ rfl rb 0 #[.int .i64 who, .int .u8 wv, .int .i64 (un : Int), .int .i64 (an : Int), .int .i64 dv, .int .i64 xh, .int .i64 (wrap64 (wrap64 (xh - 1) - am lo 2))] rfl rfl hth hz7 (all_oneCell_toArray (cs := [.int .i64 who, .int .u8 wv, .int .i64 (un : Int), .int .i64 (an : Int), .int .i64 dv, .int .i64 xh, .int .i64 (wrap64 (wrap64 (xh - 1) - am lo 2))]) (by simp [Value.oneCell'])) ?_; simp only [hWF]) | fail)
            refine bodyPost_ret (v := .agg #[.int .i64 who, .int .u8 wv, .int .i64 (un : Int), .int .i64 (an : Int), .int .i64 dv, .int .i64 xh, .int .i64 (wrap64 (wrap64 (xh - 1) - am lo 2))]) (by simp [results, Try.results12, go_sem, hc]) rfl ?_
            exact ⟨⟨who, wv, (un : Int), (an : Int), dv, xh, (wrap64 (wrap64 (xh - 1) - am lo 2))⟩, rfl, HWV.out, HKF.out⟩
      · as_aux_lemma =>
        have j1 : ¬ (0 : Int) < (mn : Int) := by omega
        go_upto_region 15 with (fail)
        have cz := (keptCells X3.out.1 _ (by rw [cz0]; rfl)).trans cz0
        have px := X3.out.2.2.1.cell
        rw [HEZ.out] at px
        have ex := X3.out.2.2.2.2.2.cell
        have ef := X3.out.2.2.2.2.2.free
        go_upto_region 16 with (fail)
        clear cz px ex ef
        have X7 : Hid (Kept w (W3.setCell ⟨xb, 5, none⟩ (.int .i64 xh)) ∧ Blk (W3.setCell ⟨xb, 5, none⟩ (.int .i64 xh)) cb #[.int .i64 N, .int .i64 S, .int .i64 T, .slice a3 (n + 1) c3, .slice a4 m c4, .slice a5 m c5, .slice a6 m c6, .slice a7 m c7, .slice a8 m c8] 32 ∧ Blk (W3.setCell ⟨xb, 5, none⟩ (.int .i64 xh)) pb #[.slice ra m rc, .slice ea n ec, .slice za n zc] 29 ∧ Blk (W3.setCell ⟨xb, 5, none⟩ (.int .i64 xh)) ab #[.int .i64 who, .int .u8 wt, .int .i64 u, .int .i64 ar, .int .i64 d, .int .i64 h, .int .i64 lo, .bool false, .int .u8 ft] 41 ∧ Blk (W3.setCell ⟨xb, 5, none⟩ (.int .i64 xh)) rb #[.int .i64 0, .int .u8 0, .int .i64 0, .int .i64 0, .int .i64 0, .int .i64 0, .int .i64 0] 39 ∧ Blk (W3.setCell ⟨xb, 5, none⟩ (.int .i64 xh)) xb #[.int .i64 who, .int .u8 wv, .int .i64 (un : Int), .int .i64 ar, .int .i64 d, .int .i64 xh, .int .i64 lo] 39) := Lib.hid (by
          have hu := Upd.setCell (S := fun k => k = xb) (p := ⟨xb, 5, none⟩) (Upd.refl _ W3) (.inl rfl) (.int .i64 xh)
          have x := X3.out
          have q := HNE.out
          exact ⟨x.1.then hu (fun i hi e => by have := HRB.out; have := HCB.out; omega), x.2.1.upd hu (by omega), x.2.2.1.upd hu (by omega), x.2.2.2.1.upd hu (by omega), x.2.2.2.2.1.upd hu (by omega), x.2.2.2.2.2.set 5 (.int .i64 xh)⟩)
        clear X3
        generalize W3.setCell ⟨xb, 5, none⟩ (.int .i64 xh) = W7 at X7 ⊢
        have ex := X7.out.2.2.2.2.2.cell
        have ef := X7.out.2.2.2.2.2.free
        have hA2 := fun x w => Among_any x 2 (by omega) (by omega) w
        refine wp_region_quiet_tail 8 (by kernel_rfl) (by kernel_rfl) ?_
        simp only [List.take_succ_cons, List.take_zero, List.drop_succ_cons, List.drop_zero]
        repeat (first | go_big_quiet_step (fail) | (go_big_quiet_want; go_big_quiet_op; refine ⟨_, hA2 _ _, ?_⟩; go_big_quiet_on))
        refine wpQuiet_nil ?_
        go_upto_region 17 with (fail)
        clear ex ef
        have X8 : Hid (Kept w (W7.setCell ⟨xb, 6, none⟩ (.int .i64 (wrap64 (wrap64 (xh - 1) - am lo 2)))) ∧ Blk (W7.setCell ⟨xb, 6, none⟩ (.int .i64 (wrap64 (wrap64 (xh - 1) - am lo 2)))) cb #[.int .i64 N, .int .i64 S, .int .i64 T, .slice a3 (n + 1) c3, .slice a4 m c4, .slice a5 m c5, .slice a6 m c6, .slice a7 m c7, .slice a8 m c8] 32 ∧ Blk (W7.setCell ⟨xb, 6, none⟩ (.int .i64 (wrap64 (wrap64 (xh - 1) - am lo 2)))) pb #[.slice ra m rc, .slice ea n ec, .slice za n zc] 29 ∧ Blk (W7.setCell ⟨xb, 6, none⟩ (.int .i64 (wrap64 (wrap64 (xh - 1) - am lo 2)))) ab #[.int .i64 who, .int .u8 wt, .int .i64 u, .int .i64 ar, .int .i64 d, .int .i64 h, .int .i64 lo, .bool false, .int .u8 ft] 41 ∧ Blk (W7.setCell ⟨xb, 6, none⟩ (.int .i64 (wrap64 (wrap64 (xh - 1) - am lo 2)))) rb #[.int .i64 0, .int .u8 0, .int .i64 0, .int .i64 0, .int .i64 0, .int .i64 0, .int .i64 0] 39 ∧ Blk (W7.setCell ⟨xb, 6, none⟩ (.int .i64 (wrap64 (wrap64 (xh - 1) - am lo 2)))) xb #[.int .i64 who, .int .u8 wv, .int .i64 (un : Int), .int .i64 ar, .int .i64 d, .int .i64 xh, .int .i64 (wrap64 (wrap64 (xh - 1) - am lo 2))] 39) := Lib.hid (by
          have hu := Upd.setCell (S := fun k => k = xb) (p := ⟨xb, 6, none⟩) (Upd.refl _ W7) (.inl rfl) (.int .i64 (wrap64 (wrap64 (xh - 1) - am lo 2)))
          have x := X7.out
          have q := HNE.out
          exact ⟨x.1.then hu (fun i hi e => by have := HRB.out; have := HCB.out; omega), x.2.1.upd hu (by omega), x.2.2.1.upd hu (by omega), x.2.2.2.1.upd hu (by omega), x.2.2.2.2.1.upd hu (by omega), x.2.2.2.2.2.set 6 (.int .i64 (wrap64 (wrap64 (xh - 1) - am lo 2)))⟩)
        clear X7
        have X8 : Hid (Kept w (W7.setCell ⟨xb, 6, none⟩ (.int .i64 (wrap64 (wrap64 (xh - 1) - am lo 2)))).drew ∧ Blk (W7.setCell ⟨xb, 6, none⟩ (.int .i64 (wrap64 (wrap64 (xh - 1) - am lo 2)))).drew cb #[.int .i64 N, .int .i64 S, .int .i64 T, .slice a3 (n + 1) c3, .slice a4 m c4, .slice a5 m c5, .slice a6 m c6, .slice a7 m c7, .slice a8 m c8] 32 ∧ Blk (W7.setCell ⟨xb, 6, none⟩ (.int .i64 (wrap64 (wrap64 (xh - 1) - am lo 2)))).drew pb #[.slice ra m rc, .slice ea n ec, .slice za n zc] 29 ∧ Blk (W7.setCell ⟨xb, 6, none⟩ (.int .i64 (wrap64 (wrap64 (xh - 1) - am lo 2)))).drew ab #[.int .i64 who, .int .u8 wt, .int .i64 u, .int .i64 ar, .int .i64 d, .int .i64 h, .int .i64 lo, .bool false, .int .u8 ft] 41 ∧ Blk (W7.setCell ⟨xb, 6, none⟩ (.int .i64 (wrap64 (wrap64 (xh - 1) - am lo 2)))).drew rb #[.int .i64 0, .int .u8 0, .int .i64 0, .int .i64 0, .int .i64 0, .int .i64 0, .int .i64 0] 39 ∧ Blk (W7.setCell ⟨xb, 6, none⟩ (.int .i64 (wrap64 (wrap64 (xh - 1) - am lo 2)))).drew xb #[.int .i64 who, .int .u8 wv, .int .i64 (un : Int), .int .i64 ar, .int .i64 d, .int .i64 xh, .int .i64 (wrap64 (wrap64 (xh - 1) - am lo 2))] 39) := Lib.hid ⟨X8.out.1.drew, X8.out.2.1.kept (Upd.refl _ _).drew, X8.out.2.2.1.kept (Upd.refl _ _).drew, X8.out.2.2.2.1.kept (Upd.refl _ _).drew, X8.out.2.2.2.2.1.kept (Upd.refl _ _).drew, X8.out.2.2.2.2.2.kept (Upd.refl _ _).drew⟩
        generalize (W7.setCell ⟨xb, 6, none⟩ (.int .i64 (wrap64 (wrap64 (xh - 1) - am lo 2)))).drew = W8 at X8 ⊢
        have hraE := Blk.range X8.out.2.2.2.2.2
        have hth := Blk.there X8.out.2.2.2.2.1 7 rfl
        obtain ⟨WF, hWF⟩ : ∃ W', W8.setCells rb 0 [.int .i64 who, .int .u8 wv, .int .i64 (un : Int), .int .i64 ar, .int .i64 d, .int .i64 xh, .int .i64 (wrap64 (wrap64 (xh - 1) - am lo 2))] = W' := ⟨_, rfl⟩
        have hBF : Blk WF rb #[.int .i64 who, .int .u8 wv, .int .i64 (un : Int), .int .i64 ar, .int .i64 d, .int .i64 xh, .int .i64 (wrap64 (wrap64 (xh - 1) - am lo 2))] 39 ∧ Upd (fun k => k = rb) W8 WF := by rw [← hWF]; exact Blk.alls X8.out.2.2.2.2.1 [.int .i64 who, .int .u8 wv, .int .i64 (un : Int), .int .i64 ar, .int .i64 d, .int .i64 xh, .int .i64 (wrap64 (wrap64 (xh - 1) - am lo 2))] rfl
        have HKF : Hid (Kept w WF) := Lib.hid (X8.out.1.then hBF.2 (fun i hi e => by have := HRB.out; have := HCB.out; omega))
        have hc := hBF.1.cell
        clear hBF X8
        go_wp2_with (first | (refine wpList_load_mid rfl _ _ rfl xb 0 rfl [.int .i64 who, .int .u8 wv, .int .i64 (un : Int), .int .i64 ar, .int .i64 d, .int .i64 xh, .int .i64 (wrap64 (wrap64 (xh - 1) - am lo 2))] _ hraE Try.underlying39 rfl hz7 ?_) | (refine wpList_store_mid rfl _ _ _ rfl rb 0 #[.int .i64 who, .int .u8 wv, .int .i64 (un : Int), .int .i64 ar, .int .i64 d, .int .i64 xh, .int .i64 (wrap64 (wrap64 (xh - 1) - am lo 2))] rfl rfl hth hz7 (all_oneCell_toArray (cs := [.int .i64 who, .int .u8 wv, .int .i64 (un : Int), .int .i64 ar, .int .i64 d, .int .i64 xh, .int .i64 (wrap64 (wrap64 (xh - 1) - am lo 2))]) (by simp [Value.oneCell'])) ?_; simp only [hWF]) | fail)
        refine bodyPost_ret (v := .agg #[.int .i64 who, .int .u8 wv, .int .i64 (un : Int), .int .i64 ar, .int .i64 d, .int .i64 xh, .int .i64 (wrap64 (wrap64 (xh - 1) - am lo 2))]) (by simp [results, Try.results12, go_sem, hc]) rfl ?_
        exact ⟨⟨who, wv, (un : Int), ar, d, xh, (wrap64 (wrap64 (xh - 1) - am lo 2))⟩, rfl, HWV.out, HKF.out⟩
  · as_aux_lemma =>
    have hraE := Blk.range X0.out.2.2.2.2.2
    have hth := Blk.there X0.out.2.2.2.2.1 7 rfl
    obtain ⟨WF, hWF⟩ : ∃ W', W0.setCells rb 0 [.int .i64 who, .int .u8 wt, .int .i64 u, .int .i64 ar, .int .i64 d, .int .i64 h, .int .i64 lo] = W' := ⟨_, rfl⟩
    have hBF : Blk WF rb #[.int .i64 who, .int .u8 wt, .int .i64 u, .int .i64 ar, .int .i64 d, .int .i64 h, .int .i64 lo] 39 ∧ Upd (fun k => k = rb) W0 WF := by rw [← hWF]; exact Blk.alls X0.out.2.2.2.2.1 [.int .i64 who, .int .u8 wt, .int .i64 u, .int .i64 ar, .int .i64 d, .int .i64 h, .int .i64 lo] rfl
    have HKF : Hid (Kept w WF) := Lib.hid (X0.out.1.then hBF.2 (fun i hi e => by have := HRB.out; have := HCB.out; omega))
    have hc := hBF.1.cell
    clear hBF X0
    go_wp2_with (first | (refine wpList_load_mid rfl _ _ rfl xb 0 rfl [.int .i64 who, .int .u8 wt, .int .i64 u, .int .i64 ar, .int .i64 d, .int .i64 h, .int .i64 lo] _ hraE Try.underlying39 rfl hz7 ?_) | (refine wpList_store_mid rfl _ _ _ rfl rb 0 #[.int .i64 who, .int .u8 wt, .int .i64 u, .int .i64 ar, .int .i64 d, .int .i64 h, .int .i64 lo] rfl rfl hth hz7 (all_oneCell_toArray (cs := [.int .i64 who, .int .u8 wt, .int .i64 u, .int .i64 ar, .int .i64 d, .int .i64 h, .int .i64 lo]) (by simp [Value.oneCell'])) ?_; simp only [hWF]) | fail)
    refine bodyPost_ret (v := .agg #[.int .i64 who, .int .u8 wt, .int .i64 u, .int .i64 ar, .int .i64 d, .int .i64 h, .int .i64 lo]) (by simp [results, Try.results12, go_sem, hc]) rfl ?_
    exact ⟨⟨who, wt, u, ar, d, h, lo⟩, rfl, HWT.out, HKF.out⟩

end Go.Proofs.Ytdhimfkmgcfohaa
