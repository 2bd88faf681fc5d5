/- The law LabelLess (printed by gen_lables.py). -/
import Derived.Test.YtfdbifhkhdnnkaaLabAt
import Derived.Test.YtfdbifhkhdnnkaaLess
import Derived.Test.YtfdbifhkhdnnkaaGst
import Derived.Test.YtfdbifhkhdnnkaaRowsRd
import Derived.Deep.CutRange
import Derived.StillTailTactics
namespace Go.Proofs.Ytfdbifhkhdnnkaa
set_option linter.unusedVariables false
set_option linter.unusedSimpArgs false
open Go.RowKit

/-- The law's two rows: the one at hand, the other one. -/
structure LL (n : Nat) (wB : World) (sb gb hb xb yb : Nat) (zs os : List Int) (wr : World) : Prop where
  kp : Kept wB wr
  s : Blk wr sb #[.slice (some ⟨gb, 0, none⟩) n n, .slice (some ⟨hb, 0, none⟩) n n] 26
  x : Blk wr xb (lv zs).toArray 3
  y : Blk wr yb (lv os).toArray 3
  ne : ¬ xb = yb
  lo : wB.heap.size ≤ xb
theorem LL.kept {n : Nat} {wB : World} {sb gb hb xb yb : Nat} {zs os : List Int} {wr w' : World} (h : LL n wB sb gb hb xb yb zs os wr) (k : Kept wr w') : LL n wB sb gb hb xb yb zs os w' :=
  ⟨h.kp.trans k, h.s.kept k, h.x.kept k, h.y.kept k, h.ne, h.lo⟩
theorem LL.drew {n : Nat} {wB : World} {sb gb hb xb yb : Nat} {zs os : List Int} {wr : World} (h : LL n wB sb gb hb xb yb zs os wr) : LL n wB sb gb hb xb yb zs os wr.drew := h.kept (Upd.refl _ _).drew
theorem LL.put {n : Nat} {wB : World} {sb gb hb xb yb : Nat} {zs os : List Int} {wr : World} (h : LL n wB sb gb hb xb yb zs os wr) (i : Nat) (v : Int) : LL n wB sb gb hb xb yb (zs.set i v) os (wr.setCell ⟨xb, i, none⟩ (.int .i64 v)) := by
  have hs : ¬ sb = xb := by
    intro e
    subst e
    have := (h.s.same h.x).2
    revert this
    decide
  refine ⟨h.kp.set h.lo _, h.s.other hs _, ?_, h.y.other (fun e => h.ne e.symm) _, h.ne, h.lo⟩
  have := h.x.set i (.int .i64 v)
  rwa [show (lv (zs.set i v)).toArray = (lv zs).toArray.setIfInBounds i (.int .i64 v) by simp [lv, List.map_set]]
/-- The lower and the higher ones, up to k. -/
structure LF (n : Nat) (wB : World) (gb hb lb ub : Nat) (gs hs : List Int) (k : Nat) (wr : World) : Prop where
  kp : Kept wB wr
  g : Blk wr gb (lv gs).toArray 3
  h : Blk wr hb (lv hs).toArray 3
  l : Blk wr lb (lv (filled (zipL min n gs hs) 0 k)).toArray 3
  u : Blk wr ub (lv (filled (zipL max n gs hs) 0 k)).toArray 3
  ne : ¬ lb = ub ∧ ¬ lb = gb ∧ ¬ lb = hb ∧ ¬ ub = gb ∧ ¬ ub = hb
  lo : wB.heap.size ≤ lb ∧ wB.heap.size ≤ ub
theorem LF.kept {n : Nat} {wB : World} {gb hb lb ub : Nat} {gs hs : List Int} {k : Nat} {wr w' : World} (h : LF n wB gb hb lb ub gs hs k wr) (hk : Kept wr w') : LF n wB gb hb lb ub gs hs k w' :=
  ⟨h.kp.trans hk, h.g.kept hk, h.h.kept hk, h.l.kept hk, h.u.kept hk, h.ne, h.lo⟩
theorem LF.new {n : Nat} {wB : World} {sb gb hb : Nat} {gs hs : List Int} {wr : World} (h : LL n wB sb gb hb gb hb gs hs wr) (hh : wB.heap.size ≤ hb) :
    LF n wB gb hb wr.heap.size (wr.heap.size + 1) gs hs 0 ((wr.alloc (.cells (zeros n (.int .i64 0)) 3)).alloc (.cells (zeros n (.int .i64 0)) 3)).drew ∧
    LF n wB gb hb (wr.heap.size + 1) wr.heap.size gs hs 0 ((wr.alloc (.cells (zeros n (.int .i64 0)) 3)).alloc (.cells (zeros n (.int .i64 0)) 3)).drew := by
  have hk : Kept wr ((wr.alloc (.cells (zeros n (.int .i64 0)) 3)).alloc (.cells (zeros n (.int .i64 0)) 3)).drew := (((Upd.refl _ _).alloc _).alloc _).drew
  have h1 := ((Blk.new wr (zeros n (.int .i64 0)) 3).alloc (.cells (zeros n (.int .i64 0)) 3)).drew
  have h2 := (Blk.new (wr.alloc (.cells (zeros n (.int .i64 0)) 3)) (zeros n (.int .i64 0)) 3).drew
  rw [show (wr.alloc (.cells (zeros n (.int .i64 0)) 3)).heap.size = wr.heap.size + 1 by simp] at h2
  have l1 := h.x.lt
  have l2 := h.y.lt
  have l3 := h.kp.size
  have z : ∀ f, (lv (filled (zipL f n gs hs) 0 0)).toArray = zeros n (.int .i64 0) := fun f => by rw [zeros_ints, filled_zero, zipL_len, lv]
  refine ⟨⟨h.kp.trans hk, h.x.kept hk, h.y.kept hk, by rw [z]; exact h1, by rw [z]; exact h2, by omega, by omega⟩, ⟨h.kp.trans hk, h.x.kept hk, h.y.kept hk, by rw [z]; exact h2, by rw [z]; exact h1, by omega, by omega⟩⟩
theorem LF.put {n : Nat} {wB : World} {gb hb lb ub : Nat} {gs hs : List Int} {k : Nat} {wr : World} (h : LF n wB gb hb lb ub gs hs k wr) (hk : k < n) {a b : Int} (ea : a = min (gs.getD k 0) (hs.getD k 0)) (eb : b = max (gs.getD k 0) (hs.getD k 0)) :
    (LF n wB gb hb lb ub gs hs (k + 1) ((wr.setCell ⟨lb, k, none⟩ (.int .i64 a)).setCell ⟨ub, k, none⟩ (.int .i64 b)) ∧ LF n wB gb hb lb ub gs hs (k + 1) ((wr.setCell ⟨ub, k, none⟩ (.int .i64 b)).setCell ⟨lb, k, none⟩ (.int .i64 a))) ∧
    (∃ y, wr.cell? ⟨lb, k, none⟩ = some y) ∧ (∃ y, (wr.setCell ⟨ub, k, none⟩ (.int .i64 b)).cell? ⟨lb, k, none⟩ = some y) ∧ (wr.frozen? ⟨lb, k, none⟩ = false ∧ (wr.setCell ⟨ub, k, none⟩ (.int .i64 b)).frozen? ⟨lb, k, none⟩ = false) ∧
    (∃ y, wr.cell? ⟨ub, k, none⟩ = some y) ∧ (∃ y, (wr.setCell ⟨lb, k, none⟩ (.int .i64 a)).cell? ⟨ub, k, none⟩ = some y) ∧ (wr.frozen? ⟨ub, k, none⟩ = false ∧ (wr.setCell ⟨lb, k, none⟩ (.int .i64 a)).frozen? ⟨ub, k, none⟩ = false) := by
  have l1 := zipL_len min n gs hs
  have l2 := zipL_len max n gs hs
  have f1 := h.l.fill (xs := zipL min n gs hs) (by omega)
  have f2 := h.u.fill (xs := zipL max n gs hs) (by omega)
  have g1 : (zipL min n gs hs)[k]'(by omega) = a := by simp [zipL, ea]
  have g2 : (zipL max n gs hs)[k]'(by omega) = b := by simp [zipL, eb]
  rw [g1] at f1
  rw [g2] at f2
  obtain ⟨n1, n2, n3, n4, n5⟩ := h.ne
  have c1 := h.l.filling (xs := zipL min n gs hs) (by omega)
  have c2 := h.u.filling (xs := zipL max n gs hs) (by omega)
  refine ⟨⟨⟨(h.kp.set h.lo.1 _).set h.lo.2 _, (h.g.other (fun e => n2 e.symm) _).other (fun e => n4 e.symm) _, (h.h.other (fun e => n3 e.symm) _).other (fun e => n5 e.symm) _, f1.other n1 _, ?_, h.ne, h.lo⟩,
    ⟨(h.kp.set h.lo.2 _).set h.lo.1 _, (h.g.other (fun e => n4 e.symm) _).other (fun e => n2 e.symm) _, (h.h.other (fun e => n5 e.symm) _).other (fun e => n3 e.symm) _, ?_, f2.other (fun e => n1 e.symm) _, h.ne, h.lo⟩⟩, ⟨_, c1⟩, ⟨_, (h.l.other (p := ⟨ub, k, none⟩) n1 (.int .i64 b)).filling (xs := zipL min n gs hs) (by omega)⟩, ⟨h.l.free k, (h.l.other (p := ⟨ub, k, none⟩) n1 (.int .i64 b)).free k⟩, ⟨_, c2⟩, ⟨_, (h.u.other (p := ⟨lb, k, none⟩) (fun e => n1 e.symm) (.int .i64 a)).filling (xs := zipL max n gs hs) (by omega)⟩, ⟨h.u.free k, (h.u.other (p := ⟨lb, k, none⟩) (fun e => n1 e.symm) (.int .i64 a)).free k⟩⟩
  · have := (h.u.other (p := ⟨lb, k, none⟩) (fun e => n1 e.symm) (.int .i64 a)).fill (xs := zipL max n gs hs) (by omega)
    rwa [g2] at this
  · have := (h.l.other (p := ⟨ub, k, none⟩) n1 (.int .i64 b)).fill (xs := zipL min n gs hs) (by omega)
    rwa [g1] at this
/-- What is known of both. -/
structure VV (N S T : Int) (n m : Nat) (ys : List Ar) (rs : List Int) (i : Nat) (gs hs : List Int) : Prop where
  rg : rightB N S T gs = true
  rh : rightB N S T hs = true
  vg : 1 ≤ i → validB N S T n m ys rs gs = true
  vh : 2 ≤ i → validB N S T n m ys rs hs = true
theorem ll_pick {N S T : Int} {n m : Nat} {ys : List Ar} {rs : List Int} {wB : World} {sb gb hb : Nat} {gs hs : List Int} {wr : World} {i : Nat} (h : LL n wB sb gb hb gb hb gs hs wr) (v : VV N S T n m ys rs i gs hs) (hh : wB.heap.size ≤ hb) (hi : i < 2) :
    ∃ xb yb zs os, wr.cell? ⟨sb, i, none⟩ = some (.slice (some ⟨xb, 0, none⟩) n n) ∧ LL n wB sb gb hb xb yb zs os wr ∧ rightB N S T zs = true ∧
      ∀ zs' wr', LL n wB sb gb hb xb yb zs' os wr' → rightB N S T zs' = true → validB N S T n m ys rs zs' = true → ∃ gs' hs', Hid (LL n wB sb gb hb gb hb gs' hs' wr') ∧ Hid (VV N S T n m ys rs (i + 1) gs' hs') := by
  obtain rfl | rfl : i = 0 ∨ i = 1 := by omega
  · exact ⟨gb, hb, gs, hs, by rw [h.s.cell]; rfl, h, v.rg, fun zs' wr' h' r' v' => ⟨zs', hs, Lib.hid h', Lib.hid ⟨r', v.rh, fun _ => v', fun e => by omega⟩⟩⟩
  · exact ⟨hb, gb, hs, gs, by rw [h.s.cell]; rfl, ⟨h.kp, h.s, h.y, h.x, fun e => h.ne e.symm, hh⟩, v.rh, fun zs' wr' h' r' v' => ⟨gs, zs', Lib.hid ⟨h'.kp, h'.s, h'.y, h'.x, fun e => h'.ne e.symm, h.lo⟩, Lib.hid ⟨v.rg, r', fun _ => v.vg (by omega), fun _ => v'⟩⟩⟩
set_option maxRecDepth 100000 in
set_option maxHeartbeats 4000000 in
theorem labelLess_core (N0 S0 T0 : Int) (a : Option Addr) (k0 cap : Nat) (ys0 : List Ar) (la : Option Addr) (lc : Nat) (ls : List Int) (ga : Option Addr) (gc : Nat) (gs0 : List Int) (ha : Option Addr) (hc : Nat) (hs0 : List Int) (w : World)
    (h : Ars w a ys0) (hk0 : ys0.length = k0) (hle : k0 ≤ cap) (hmost : cap ≤ 9223372036854775807) (hwf : ∀ x ∈ ys0, -9223372036854775808 ≤ x.c ∧ x.c ≤ 9223372036854775807)
    (hl : Rd w la (lv ls)) (hli : ∀ x ∈ ls, -9223372036854775808 ≤ x ∧ x ≤ 9223372036854775807) (hll : ls.length ≤ 9223372036854775807)
    (hh1 : Rd w ga (lv gs0)) (hh2 : Rd w ha (lv hs0)) (hm1 : gs0.length ≤ 9223372036854775807) (hm2 : hs0.length ≤ 9223372036854775807) :
    Calls Try.prog 6 #[.agg #[.int .i64 N0, .int .i64 S0, .int .i64 T0, .slice a k0 cap], .slice la ls.length lc, .slice ga gs0.length gc, .slice ha hs0.length hc] w fun e w' => e = .returned (.bool true) ∧ Kept w w' := by
  have HS : ∀ (w : World), Ars w a ys0 → Hid (Calls Try.prog 9 #[.agg #[.int .i64 N0, .int .i64 S0, .int .i64 T0, .slice a k0 cap], .int .i64 16, .int .i64 40] w (NetIs w)) := by
    intro w h
    subst hk0
    exact Lib.hid (Some_any N0 S0 T0 a cap ys0 w h hle hmost hwf)
  have HX := Lib.hid (h.kept ((Upd.refl (fun _ => False) w).alloc (.cells #[.int .i64 N0, .int .i64 S0, .int .i64 T0, .slice a k0 cap] 24)))
  have HK := Lib.hid ((Upd.refl (fun _ => False) w).alloc (.cells #[.int .i64 N0, .int .i64 S0, .int .i64 T0, .slice a k0 cap] 24))
  have HL := Lib.hid hl
  have HLI := Lib.hid hli
  have HGR := Lib.hid hh1
  have HHR := Lib.hid hh2
  have HGX := Lib.hid hm1
  have HHX := Lib.hid hm2
  clear hh1 hh2
  clear h hl hli hle hmost hwf
  go_enter Try.func6, Try.ntmps6
  go_wp2_with fail
  refine (HS _ HX.out).out.mono ?_
  rintro e w1 ⟨N, S, T, a', cap', ys, rfl, hok, hown, hk1⟩
  have HK1 := Lib.hid (HK.out.trans hk1)
  have HOK := Lib.hid hok
  have HA : Hid (Ars w1 a' ys) := Lib.hid hown.at.2
  clear hk1 hok hown HS HX HK
  have HLE := fun (w : World) (h : Ars w a' ys) (hl : Rd w la (lv ls)) => Lib.hid (Left_ok N S T a' cap' ys la lc ls w h HOK.out hl HLI.out hll)
  go_wp2_with fail
  refine (HLE _ HA.out (HL.out.kept HK1.out)).out.mono ?_
  rintro e w2 ⟨B, n, m, a3, c3, a4, c4, a5, c5, a6, c6, a7, c7, a8, c8, ra, rc, rfl, hn, hm2, hcr, -, hk2, -, hro⟩
  have HG : Hid (Gr N S T n m ys) := Lib.hid ⟨HOK.out, hn, hm2⟩
  obtain ⟨rs, hrs⟩ : ∃ rs, resAll (wths ls ys) n ys = rs := ⟨_, rfl⟩
  have HRM : Hid (rs.length = m) := Lib.hid (by rw [← hrs, resAll_len]; exact hm2)
  have HRI : Hid (∀ x ∈ rs, 0 ≤ x ∧ x < 1125899906842624) := Lib.hid (by rw [← hrs]; exact left_in HG.out HLI.out)
  rw [hrs] at hro
  have HRC : Hid (m ≤ rc) := Lib.hid (row_cap hro)
  obtain ⟨ra', rc', e9, hrr⟩ := Rd.owns hro
  cases e9
  have hA := (Upd.refl (fun _ => False) w2).alloc (.cells #[.int .i64 N, .int .i64 S, .int .i64 T, .slice a3 (n + 1) c3, .slice a4 m c4, .slice a5 m c5, .slice a6 m c6, .slice a7 m c7, .slice a8 m c8] 29)
  have HK0 := Lib.hid ((HK1.out.trans hk2).trans hA)
  have HGF : Hid (GF N S T n m a3 a4 a5 a6 a7 a8 c3 c4 c5 c6 c7 c8 ys w2.heap.size ra rs (w2.alloc (.cells #[.int .i64 N, .int .i64 S, .int .i64 T, .slice a3 (n + 1) c3, .slice a4 m c4, .slice a5 m c5, .slice a6 m c6, .slice a7 m c7, .slice a8 m c8] 29))) := Lib.hid ⟨Blk.new _ _ _, hcr.kept hA, hrr.kept hA⟩
  clear hn hm2 hcr hk2 hro hrr hrs hA HLE HA HOK HK1
  go_upto_region 2 with (fail)
  generalize (w2.alloc (.cells #[.int .i64 N, .int .i64 S, .int .i64 T, .slice a3 (n + 1) c3, .slice a4 m c4, .slice a5 m c5, .slice a6 m c6, .slice a7 m c7, .slice a8 m c8] 29)) = wB at HGF HK0 ⊢
  generalize w2.heap.size = cb at HGF ⊢
  have HK1 : Hid (Kept wB wB) := Lib.hid (Upd.refl _ _)
  have hcb0 := HGF.out.box.lt
  have C0 : (∀ i, wB.drew.cell? ⟨cb, i, none⟩ = (#[.int .i64 N, .int .i64 S, .int .i64 T, .slice a3 (n + 1) c3, .slice a4 m c4, .slice a5 m c5, .slice a6 m c6, .slice a7 m c7, .slice a8 m c8] : Array Value)[i]?) := HGF.out.box.drew.cell
  have K0 := Lib.hid (Upd.refl (fun _ => False) wB).drew
  have G1 := fun (w : World) (k : Kept wB w) => Lib.hid (heights_any N S T n m a3 a4 a5 a6 a7 a8 c3 c4 c5 c6 c7 c8 ys ga gc gs0 w HG.out (HGR.out.kept (HK0.out.trans k)) HGX.out)
  have G2 := fun (w : World) (k : Kept wB w) => Lib.hid (heights_any N S T n m a3 a4 a5 a6 a7 a8 c3 c4 c5 c6 c7 c8 ys ha hc hs0 w HG.out (HHR.out.kept (HK0.out.trans k)) HHX.out)
  clear hcb0
  go_region_held3 (fun w' => (∀ i, w'.cell? ⟨cb, i, none⟩ = (#[.int .i64 N, .int .i64 S, .int .i64 T, .slice a3 (n + 1) c3, .slice a4 m c4, .slice a5 m c5, .slice a6 m c6, .slice a7 m c7, .slice a8 m c8] : Array Value)[i]?))
    (first | exact C0 | exact C1 | exact C2)
    ((first
    | (go_at_call 10; refine (G2 _ K1.out).out.mono ?_; rintro e W2 ⟨hb, rfl, h3, h4, h5⟩; have K2 := Lib.hid (K1.out.trans h5); have HBG2 := Lib.hid (HBG.out.kept h5); have HBH := Lib.hid h3; have HH := Lib.hid h4; have C2 : (∀ i, W2.cell? ⟨cb, i, none⟩ = (#[.int .i64 N, .int .i64 S, .int .i64 T, .slice a3 (n + 1) c3, .slice a4 m c4, .slice a5 m c5, .slice a6 m c6, .slice a7 m c7, .slice a8 m c8] : Array Value)[i]?) := (HGF.out.kept K2.out).box.cell; clear h3 h4 h5)
    | (go_at_call 10; refine (G1 _ K0.out).out.mono ?_; rintro e W1 ⟨gb, rfl, h0, h1, h2⟩; have K1 := Lib.hid (K0.out.trans h2); have HBG := Lib.hid h0; have HGG := Lib.hid h1; have C1 : (∀ i, W1.cell? ⟨cb, i, none⟩ = (#[.int .i64 N, .int .i64 S, .int .i64 T, .slice a3 (n + 1) c3, .slice a4 m c4, .slice a5 m c5, .slice a6 m c6, .slice a7 m c7, .slice a8 m c8] : Array Value)[i]?) := (HGF.out.kept K1.out).box.cell; clear h0 h1 h2)))
  have hne : Hid (¬ gb = hb ∧ wB.heap.size ≤ gb ∧ wB.heap.size ≤ hb) := Lib.hid (by
    have h1 := HGG.out
    have h2 := HH.out
    have h3 := HBG.out.lt
    have h4 := K1.out.size
    refine ⟨by omega, h1, by omega⟩)
  clear C0 C1 C2 G1 G2 K0 HBG HGG HH
  go_upto_region 4 with (fail)
  have HSB := Lib.hid (Blk.new W2 #[.slice (some ⟨gb, 0, none⟩) n n, .slice (some ⟨hb, 0, none⟩) n n] 26)
  have hW : Kept W2 (W2.alloc (.cells #[.slice (some ⟨gb, 0, none⟩) n n, .slice (some ⟨hb, 0, none⟩) n n] 26)) := (Upd.refl _ _).alloc _
  have HK3 := Lib.hid (K2.out.trans hW)
  have HG3 := Lib.hid (HBG2.out.kept hW)
  have HH3 := Lib.hid (HBH.out.kept hW)
  clear hW K1 K2 HBG2 HBH
  generalize (W2.alloc (.cells #[.slice (some ⟨gb, 0, none⟩) n n, .slice (some ⟨hb, 0, none⟩) n n] 26)) = W3 at HSB HK3 HG3 HH3 ⊢
  generalize W2.heap.size = sb at HSB ⊢
  have HLL : Hid (LL n wB sb gb hb gb hb (htL N S T n gs0) (htL N S T n hs0) W3) := Lib.hid ⟨HK3.out, HSB.out, HG3.out, HH3.out, hne.out.1, hne.out.2.1⟩
  have HVV : Hid (VV N S T n m ys rs 0 (htL N S T n gs0) (htL N S T n hs0)) := Lib.hid ⟨htL_right HG.out _, htL_right HG.out _, fun h => by omega, fun h => by omega⟩
  have HH2 : Hid (wB.heap.size ≤ hb) := Lib.hid hne.out.2.2
  clear HSB HK3 HG3 HH3 HGR HHR HGX HHX
  obtain ⟨P, hP⟩ : ∃ P, P = n * n := ⟨_, rfl⟩
  have hw1 : wrap64 (N * N) = (P : Int) ∧ wrap64 ((P : Int) * 2) = ((2 * P : Nat) : Int) ∧ P ≤ 256 ∧ 4 ≤ P := by
    have hl := HG.out.len
    have h1 : n * n ≤ 16 * 16 := Nat.mul_le_mul (by omega) (by omega)
    have h3 : 2 * 2 ≤ n * n := Nat.mul_le_mul (by omega) (by omega)
    have h2 : N * N = (P : Int) := by rw [← hl.1, hP]; simp
    rw [h2]
    refine ⟨?_, ?_, by omega, by omega⟩ <;> (unfold wrap64; omega)
  obtain ⟨hw1, hw2, hP1, hP2⟩ := hw1
  obtain ⟨P2, hP3⟩ : ∃ P2, P2 = 2 * P := ⟨_, rfl⟩
  rw [← hP3] at hw2
  have HP := Lib.hid hP
  clear hP
  go_loopw [36] (fun ix wr => ∃ (i : Nat) (gs hs : List Int), ix = .int .i64 i ∧ i ≤ 2 ∧ Hid (LL n wB sb gb hb gb hb gs hs wr) ∧ Hid (VV N S T n m ys rs i gs hs)) (fun ix _ => 2 - (intOf ix).toNat)
  case atStart => exact ⟨0, _, _, rfl, by omega, HLL, HVV⟩
  case round =>
    clear HLL HVV
    obtain ⟨i, gs, hs, rfl, hi, HLL, HVV⟩ := hrel
    obtain ⟨wo, rfl⟩ : ∃ wo : World, wo = wr := ⟨_, rfl⟩
    by_cases hlt : i < 2
    · obtain ⟨xb, yb, zs, os, hld, HL1, hzr, hback⟩ := ll_pick HLL.out HVV.out HH2.out hlt
      have HBK := Lib.hid hback
      have HZR := Lib.hid hzr
      have bx := (HGF.out.kept HL1.kp).box.cell
      have sx := HL1.s.cell
      have HL2 := Lib.hid HL1
      have hfix : (i : Int) < 2 := by omega
      clear hback hzr HL1 HLL HVV
      go_upto_region 7 with (fail)
      clear hw1 hw2
      go_loopw [46] (fun ix wr => ∃ (j : Nat) (zs : List Int), ix = .int .i64 j ∧ Hid (LL n wB sb gb hb xb yb zs os wr) ∧ Hid (rightB N S T zs = true) ∧ Hid (zs.sum + j ≤ P)) (fun ix _ => 2 * P - (intOf ix).toNat)
      case atStart => exact ⟨0, zs, rfl, HL2, HZR, Lib.hid (by have := (right_sum HG.out HZR.out).2; rw [HP.out]; simpa using this)⟩
      case round =>
        clear HL2 HZR
        obtain ⟨j, zs, rfl, HL2, HZR, HSM⟩ := hrel
        have hj : j ≤ P := by
          have h1 := (right_sum HG.out HZR.out).1
          have := HSM.out
          omega
        have hj2 : (j : Int) < (P : Int) * 2 := by omega
        have bx := (HGF.out.kept HL2.out.kp).box.cell
        obtain ⟨L, hL⟩ : ∃ L, dnL N S T n m ys rs zs (isP true) = L := ⟨_, rfl⟩
        obtain ⟨k, hk⟩ : ∃ k, L.length = k := ⟨_, rfl⟩
        have HZL : Hid (zs.length = n) := Lib.hid (by have := (right_parts.1 HZR.out).1; have := HG.out.len; omega)
        have HST := fun (w : World) (k1 : Kept wB w) (h : Rd w (some ⟨xb, 0, none⟩) (lv zs)) => Lib.hid (steep_at N S T n m a3 a4 a5 a6 a7 a8 c3 c4 c5 c6 c7 c8 ys ra rc rs (some ⟨xb, 0, none⟩) n zs m n L k w HG.out (HGF.out.kept k1).cr (HGF.out.kept k1).rs h (by have := HZL.out; have := HG.out.len; omega) HRM.out HZL.out hL hk)
        have hL2 := Lib.hid hL
        clear hL
        cases hLc : L with
        | nil =>
          subst hLc
          obtain rfl : 0 = k := hk
          go_wp2_with fail
          refine (HST _ HL2.out.kp (Rd.blk HL2.out.x)).out.mono ?_
          rintro e W4 ⟨sa, sc, rfl, hsr, hk4⟩
          have HL4 := Lib.hid (HL2.out.kept hk4)
          have HVB : Hid (validB N S T n m ys rs zs = true) := Lib.hid (by
            unfold validB
            rw [hL2.out]
            unfold mayB
            rw [HZR.out, HRM.out]
            simp)
          clear hsr hk4 HL2 bx HST
          have bx := (HGF.out.kept HL4.out.kp).box.cell
          go_wp2_with fail
          refine (valid_at N S T n m a3 a4 a5 a6 a7 a8 c3 c4 c5 c6 c7 c8 ys ra rc rs (some ⟨xb, 0, none⟩) n zs m n _ HG.out (HGF.out.kept HL4.out.kp).cr (HGF.out.kept HL4.out.kp).rs (Rd.blk HL4.out.x) (by have := HZL.out; have := HG.out.len; omega) HRM.out HZL.out).mono ?_
          rw [HVB.out]
          rintro e W5 ⟨rfl, hk5⟩
          obtain ⟨gs', hs', h1, h2⟩ := HBK.out zs W5 (HL4.out.kept hk5) HZR.out HVB.out
          clear hk5 HL4 bx
          go_wp2_with fail
          go_roundw
          case rel => exact ⟨i + 1, gs', hs', by go_num, by omega, h1, h2⟩
          case measure => simp [intOf]; omega
        | cons s0 l =>
          subst hLc
          obtain ⟨hs0, hq⟩ := dn_head hL2.out
          obtain ⟨q1, q2, q3, q4, q5, q6, q7, q8⟩ := steep_step HG.out HZR.out s0 hs0 hq
          have HNEW := Lib.hid (And.intro q7 q8)
          clear q7 q8 hq hL2
          go_wp2_with fail
          refine (HST _ HL2.out.kp (Rd.blk HL2.out.x)).out.mono ?_
          rintro e W4 ⟨sa, sc, rfl, hsr, hk4⟩
          have HL4 := Lib.hid (HL2.out.kept hk4)
          have HSR := Lib.hid hsr
          clear hsr hk4 HL2 bx HST
          obtain ⟨bs, os1, rfl, hs1⟩ := HSR.out.at 0 (by simp [nv])
          have hs2 : (nv (s0 :: l))[0]? = some (.int .i64 (s0 : Nat)) := rfl
          rw [hs2] at hs1
          have hs1 : W4.cell? ⟨bs, os1, none⟩ = some (.int .i64 (s0 : Nat)) := hs1
          have hk0 : 0 < k := by simp at hk; omega
          clear hk
          have hk0 : (0 : Int) < (k : Int) := by omega
          have bx := (HGF.out.kept HL4.out.kp).box.cell
          have HT := fun (w : World) (k1 : Kept wB w) => Lib.hid (tail_any N S T n m a3 a4 a5 a6 a7 a8 c3 c4 c5 c6 c7 c8 ys s0 w HG.out (HGF.out.kept k1).cr.r3 hs0)
          obtain ⟨u, hu⟩ : ∃ u, tl ys n s0 = u := ⟨_, rfl⟩
          obtain ⟨v, hvv⟩ : ∃ v, hd n ys s0 = v := ⟨_, rfl⟩
          rw [hu] at HT HNEW q1 q2 q3
          rw [hvv] at HNEW q4 q5 q6
          have HHD : Hid ((hv (enAll n ys))[s0]? = some (.int .i64 (v : Nat))) := Lib.hid (by rw [← hvv]; exact (hd_get HG.out s0 hs0).1)
          clear hu hvv hs2 HSR
          have C0 : (∀ i, W4.drew.cell? ⟨cb, i, none⟩ = (#[.int .i64 N, .int .i64 S, .int .i64 T, .slice a3 (n + 1) c3, .slice a4 m c4, .slice a5 m c5, .slice a6 m c6, .slice a7 m c7, .slice a8 m c8] : Array Value)[i]?) ∧ W4.drew.cell? ⟨bs, os1, none⟩ = some (.int .i64 (s0 : Nat)) := ⟨bx, hs1⟩
          have HL5 := Lib.hid (HL4.out.kept (Upd.refl _ _).drew)
          clear bx hs1 HL4
          go_upto_region 10 with (fail)
          go_region_held3 (fun w' => (∀ i, w'.cell? ⟨cb, i, none⟩ = (#[.int .i64 N, .int .i64 S, .int .i64 T, .slice a3 (n + 1) c3, .slice a4 m c4, .slice a5 m c5, .slice a6 m c6, .slice a7 m c7, .slice a8 m c8] : Array Value)[i]?) ∧ w'.cell? ⟨bs, os1, none⟩ = some (.int .i64 (s0 : Nat)))
            (first | exact C0 | exact C1)
            ((first
            | (go_at_call 25; refine (HT _ HL5.out.kp).out.mono ?_; rintro e W6 ⟨rfl, hk6⟩; have HL6 := Lib.hid (HL5.out.kept hk6); have C1 : (∀ i, W6.cell? ⟨cb, i, none⟩ = (#[.int .i64 N, .int .i64 S, .int .i64 T, .slice a3 (n + 1) c3, .slice a4 m c4, .slice a5 m c5, .slice a6 m c6, .slice a7 m c7, .slice a8 m c8] : Array Value)[i]?) ∧ W6.cell? ⟨bs, os1, none⟩ = some (.int .i64 (s0 : Nat)) := ⟨(HGF.out.kept HL6.out.kp).box.cell, (keptCells hk6 _ (by rw [C0.2]; rfl)).trans C0.2⟩; clear hk6)))
          obtain ⟨bx, hs1⟩ := C1
          clear C0 HL5 HT
          have q2b : ((u : Int) == S) = false := by simpa using q2
          have q3b : ((u : Int) == T) = false := by simpa using q3
          obtain ⟨b4, o4, rfl, hc4⟩ := ((HGF.out.kept HL6.out.kp).cr.r4).at s0 (by rw [show (hv (enAll n ys)).length = (enAll n ys).length by simp [hv], HG.out.hm]; exact hs0)
          rw [HHD.out] at hc4
          have xc := HL6.out.x.cell v
          rw [show (lv zs).toArray[v]? = some (.int .i64 (zs.getD v 0)) by simp only [List.getElem?_toArray]; exact lv_get (by rw [HZL.out]; exact q4)] at xc
          have xu := HL6.out.drew.x.cell u
          rw [show (lv zs).toArray[u]? = some (.int .i64 (zs.getD u 0)) by simp only [List.getElem?_toArray]; exact lv_get (by rw [HZL.out]; exact q1)] at xu
          have fu := HL6.out.drew.x.free u
          generalize zs.getD v 0 = y at xc HNEW q5 q6
          generalize zs.getD u 0 = y0 at xu
          have hw := show wrap64 (y + 1) = y + 1 by unfold wrap64; omega
          have hw' := show IntKind.i64.wrap (y + 1) = y + 1 by rw [IntKind.wrap_i64]; omega
          have i1 : (0 : Int) ≤ (v : Int) := by omega
          have i2 : (v : Int) < (n : Int) := by omega
          have i3 : (0 : Int) ≤ (u : Int) := by omega
          have i4 : (u : Int) < (n : Int) := by omega
          have i5 : (0 : Int) ≤ (s0 : Int) := by omega
          have i6 : (s0 : Int) < (m : Int) := by omega
          have HP6 := Lib.hid (HL6.out.drew.put u (y + 1))
          go_upto_region 13 with (fail)
          go_still_tail 14, (by kernel_rfl)
          change wpList _ _ _ _ _ W6.drew
          go_wp2_with fail
          go_roundw
          case rel => exact ⟨j + 1, zs.set u (y + 1), by go_num, HP6, Lib.hid HNEW.out.1, Lib.hid (by have h1 := HNEW.out.2; have h2 := HSM.out; omega)⟩
          case measure => simp [intOf]; omega
    · have HV : Hid (rightB N S T gs = true ∧ rightB N S T hs = true ∧ validB N S T n m ys rs gs = true ∧ validB N S T n m ys rs hs = true) := Lib.hid ⟨HVV.out.rg, HVV.out.rh, HVV.out.vg (by omega), HVV.out.vh (by omega)⟩
      clear hi HVV
      have bx := (HGF.out.kept HLL.out.kp).box.cell
      have hnb := (And.intro HLL.out.x.lt HLL.out.y.lt)
      have HRS := Lib.hid (And.intro hne.out hnb)
      clear hnb
      have hmk := fun w => make_one (P := Try.prog) (t := 26) (e := 3) (z := .int .i64 0) (v := .int .i64 0) (bytes := 8) Try.underlying26 (by kernel_rfl) rfl .i64 n (by have := HG.out.len; omega) (by have := HG.out.len; omega) w
      rw [HG.out.len.1] at hmk
      go_upto_region 18 with (fail)
      clear hlt hw1 hw2
      go_cut [16, 17] from 98 to 105 (fun x y wx => ∃ (lb ub : Nat), x = .slice (some ⟨lb, 0, none⟩) n n ∧ y = .slice (some ⟨ub, 0, none⟩) n n ∧ Hid (LF n wB gb hb lb ub gs hs 0 wx))
      case first =>
        have C0 : (∀ i, wo.drew.cell? ⟨cb, i, none⟩ = (#[.int .i64 N, .int .i64 S, .int .i64 T, .slice a3 (n + 1) c3, .slice a4 m c4, .slice a5 m c5, .slice a6 m c6, .slice a7 m c7, .slice a8 m c8] : Array Value)[i]?) := bx
        have C1 : (∀ i, (wo.drew.alloc (.cells (zeros n (.int .i64 0)) 3)).cell? ⟨cb, i, none⟩ = (#[.int .i64 N, .int .i64 S, .int .i64 T, .slice a3 (n + 1) c3, .slice a4 m c4, .slice a5 m c5, .slice a6 m c6, .slice a7 m c7, .slice a8 m c8] : Array Value)[i]?) := ((HGF.out.kept HLL.out.kp).box.drew.alloc _).cell
        have C2 : (∀ i, ((wo.drew.alloc (.cells (zeros n (.int .i64 0)) 3)).alloc (.cells (zeros n (.int .i64 0)) 3)).cell? ⟨cb, i, none⟩ = (#[.int .i64 N, .int .i64 S, .int .i64 T, .slice a3 (n + 1) c3, .slice a4 m c4, .slice a5 m c5, .slice a6 m c6, .slice a7 m c7, .slice a8 m c8] : Array Value)[i]?) := (((HGF.out.kept HLL.out.kp).box.drew.alloc _).alloc _).cell
        go_region_held3 (fun w' => (∀ i, w'.cell? ⟨cb, i, none⟩ = (#[.int .i64 N, .int .i64 S, .int .i64 T, .slice a3 (n + 1) c3, .slice a4 m c4, .slice a5 m c5, .slice a6 m c6, .slice a7 m c7, .slice a8 m c8] : Array Value)[i]?))
          (first | exact C0 | exact C1 | exact C2)
          (fail)
        all_goals (go_wp2_with fail; go_meet)
        case rel => exact ⟨_, _, rfl, rfl, Lib.hid (LF.new HLL.out HH2.out).1⟩
        case rel => exact ⟨_, _, rfl, rfl, Lib.hid (LF.new HLL.out HH2.out).2⟩
      case rest =>
        obtain ⟨lb, ub, rfl, rfl, HLF⟩ := hcut
        have HGL : Hid (gs.length = n ∧ hs.length = n) := Lib.hid (by have h1 := (right_parts.1 HV.out.1).1; have h2 := (right_parts.1 HV.out.2.1).1; have := HG.out.len; omega)
        clear HLL bx hmk HRS
        have hn16 : n ≤ 16 := by have := HG.out.len; omega
        go_upto_region 20 with (fail)
        go_loopw [106] (fun ix wr => ∃ (k : Nat), ix = .int .i64 k ∧ k ≤ n ∧ Hid (LF n wB gb hb lb ub gs hs k wr)) (fun ix _ => n - (intOf ix).toNat)
        case atStart => exact ⟨0, rfl, by omega, HLF⟩
        case round =>
          clear HLF
          obtain ⟨k, rfl, hk, HLF⟩ := hrel
          by_cases hlk : k < n
          · have gc0 : wr.cell? ⟨gb, k, none⟩ = some (.int .i64 (gs.getD k 0)) := by rw [HLF.out.g.cell]; simp only [List.getElem?_toArray]; exact lv_get (by rw [HGL.out.1]; exact hlk)
            have hc0 : wr.cell? ⟨hb, k, none⟩ = some (.int .i64 (hs.getD k 0)) := by rw [HLF.out.h.cell]; simp only [List.getElem?_toArray]; exact lv_get (by rw [HGL.out.2]; exact hlk)
            have HX := Lib.hid (fun (a b : Int) (ea : a = min (gs.getD k 0) (hs.getD k 0)) (eb : b = max (gs.getD k 0) (hs.getD k 0)) => LF.put HLF.out hlk ea eb)
            generalize gs.getD k 0 = gv at gc0 HX
            generalize hs.getD k 0 = hv' at hc0 HX
            have i1 : (0 : Int) ≤ (k : Int) := by omega
            have i2 : (k : Int) < (n : Int) := by omega
            obtain ⟨mn, hmn⟩ : ∃ x, x = min gv hv' := ⟨_, rfl⟩
            obtain ⟨mx, hmx⟩ : ∃ x, x = max gv hv' := ⟨_, rfl⟩
            have e1 : (if hv' < gv then hv' else gv) = mn := by split <;> omega
            have e2 : (if gv < hv' then hv' else gv) = mx := by split <;> omega
            have HX2 := Lib.hid (HX.out mn mx hmn hmx)
            clear HX hmn hmx
            obtain ⟨⟨y0, lo0⟩, ⟨y1, lo1⟩, ⟨lo2, lo3⟩, ⟨y2, up0⟩, ⟨y3, up1⟩, up2, up3⟩ := HX2.out.2
            have HX3 := Lib.hid HX2.out.1
            clear HX2
            have C0 : wr.drew.cell? ⟨gb, k, none⟩ = some (.int .i64 gv) ∧ wr.drew.cell? ⟨hb, k, none⟩ = some (.int .i64 hv') := ⟨gc0, hc0⟩
            clear gc0 hc0
            go_upto_region 22 with (fail)
            have HX4 := HX3.out
            have nlk : ¬ lb = gb ∧ ¬ lb = hb ∧ ¬ ub = gb ∧ ¬ ub = hb := ⟨HLF.out.ne.2.1, HLF.out.ne.2.2.1, HLF.out.ne.2.2.2.1, HLF.out.ne.2.2.2.2⟩
            have C1 : (wr.drew.setCell ⟨lb, k, none⟩ (.int .i64 mn)).cell? ⟨gb, k, none⟩ = some (.int .i64 gv) ∧ (wr.drew.setCell ⟨lb, k, none⟩ (.int .i64 mn)).cell? ⟨hb, k, none⟩ = some (.int .i64 hv') := by
              constructor
              · rw [World.cell?_of_block (Below.heap_setCell _ _ _ _ (fun e => nlk.1 e.symm))]; exact C0.1
              · rw [World.cell?_of_block (Below.heap_setCell _ _ _ _ (fun e => nlk.2.1 e.symm))]; exact C0.2
            have C2 : (wr.drew.setCell ⟨ub, k, none⟩ (.int .i64 mx)).cell? ⟨gb, k, none⟩ = some (.int .i64 gv) ∧ (wr.drew.setCell ⟨ub, k, none⟩ (.int .i64 mx)).cell? ⟨hb, k, none⟩ = some (.int .i64 hv') := by
              constructor
              · rw [World.cell?_of_block (Below.heap_setCell _ _ _ _ (fun e => nlk.2.2.1 e.symm))]; exact C0.1
              · rw [World.cell?_of_block (Below.heap_setCell _ _ _ _ (fun e => nlk.2.2.2 e.symm))]; exact C0.2
            have C3 : ((wr.drew.setCell ⟨lb, k, none⟩ (.int .i64 mn)).setCell ⟨ub, k, none⟩ (.int .i64 mx)).cell? ⟨gb, k, none⟩ = some (.int .i64 gv) ∧ ((wr.drew.setCell ⟨lb, k, none⟩ (.int .i64 mn)).setCell ⟨ub, k, none⟩ (.int .i64 mx)).cell? ⟨hb, k, none⟩ = some (.int .i64 hv') := by
              constructor
              · rw [World.cell?_of_block (Below.heap_setCell _ _ _ _ (fun e => nlk.2.2.1 e.symm))]; exact C1.1
              · rw [World.cell?_of_block (Below.heap_setCell _ _ _ _ (fun e => nlk.2.2.2 e.symm))]; exact C1.2
            have C4 : ((wr.drew.setCell ⟨ub, k, none⟩ (.int .i64 mx)).setCell ⟨lb, k, none⟩ (.int .i64 mn)).cell? ⟨gb, k, none⟩ = some (.int .i64 gv) ∧ ((wr.drew.setCell ⟨ub, k, none⟩ (.int .i64 mx)).setCell ⟨lb, k, none⟩ (.int .i64 mn)).cell? ⟨hb, k, none⟩ = some (.int .i64 hv') := by
              constructor
              · rw [World.cell?_of_block (Below.heap_setCell _ _ _ _ (fun e => nlk.1 e.symm))]; exact C2.1
              · rw [World.cell?_of_block (Below.heap_setCell _ _ _ _ (fun e => nlk.2.1 e.symm))]; exact C2.2
            clear nlk HX4
            go_region_held3 (fun w' => w'.cell? ⟨gb, k, none⟩ = some (.int .i64 gv) ∧ w'.cell? ⟨hb, k, none⟩ = some (.int .i64 hv'))
              (first | exact C0 | exact C1 | exact C2 | exact C3 | exact C4)
              (fail)
            all_goals (go_wp2_with fail; go_roundw)
            all_goals first
              | exact ⟨k + 1, by go_num, by omega, Lib.hid (LF.kept (by first | exact HX3.out.1 | exact HX3.out.2) (Upd.refl _ _).drew)⟩
              | (simp [intOf]; omega)
          · have hkn : Hid (k = n) := Lib.hid (by omega)
            obtain ⟨xl, hxl⟩ : ∃ x, zipL min n gs hs = x := ⟨_, rfl⟩
            obtain ⟨xu, hxu⟩ : ∃ x, zipL max n gs hs = x := ⟨_, rfl⟩
            have FF : Hid (Blk wr lb (lv xl).toArray 3 ∧ Blk wr ub (lv xu).toArray 3 ∧ Blk wr gb (lv gs).toArray 3 ∧ Blk wr hb (lv hs).toArray 3) := Lib.hid (by
              have h1 := HLF.out.l
              have h2 := HLF.out.u
              rw [hkn.out] at h1 h2
              have l1 := filled_all (zipL min n gs hs) 0
              have l2 := filled_all (zipL max n gs hs) 0
              rw [zipL_len] at l1 l2
              rw [l1, hxl] at h1
              rw [l2, hxu] at h2
              exact ⟨h1, h2, HLF.out.g, HLF.out.h⟩)
            obtain ⟨V1, V2, V3, V4⟩ := HV.out
            have R1 : rightB N S T xl = true := by rw [← hxl]; exact zip_right HG.out min (fun x y => by omega) V1 V2
            have R2 : rightB N S T xu = true := by rw [← hxu]; exact zip_right HG.out max (fun x y => by omega) V1 V2
            have E1 : validB N S T n m ys rs xl = true := by rw [← hxl]; exact zip_valid HG.out HRM.out min (fun x y => by omega) (fun a b c d h1 h2 => by omega) V1 V2 V3 V4
            have E2 : validB N S T n m ys rs xu = true := by rw [← hxu]; exact zip_valid HG.out HRM.out max (fun x y => by omega) (fun a b c d h1 h2 => by omega) V1 V2 V3 V4
            have E3 : xl.sum + xu.sum = gs.sum + hs.sum := by rw [← hxl, ← hxu]; exact zip_sums HGL.out.1 HGL.out.2
            have LN : xl.length = n ∧ xu.length = n := ⟨by rw [← hxl, zipL_len], by rw [← hxu, zipL_len]⟩
            have B1 := right_sum HG.out R1
            have B2 := right_sum HG.out R2
            have B3 := right_sum HG.out V1
            have B4 := right_sum HG.out V2
            have hm' : n ≤ 9223372036854775807 := by have := HG.out.len; omega
            have SM : ∀ xs, rightB N S T xs = true → sumH N S T xs = xs.sum := fun xs h => by unfold sumH; rw [if_pos h]
            obtain ⟨s1, h1⟩ : ∃ s, xl.sum = s := ⟨_, rfl⟩
            obtain ⟨s2, h2⟩ : ∃ s, xu.sum = s := ⟨_, rfl⟩
            obtain ⟨s3, h3⟩ : ∃ s, gs.sum = s := ⟨_, rfl⟩
            obtain ⟨s4, h4⟩ : ∃ s, hs.sum = s := ⟨_, rfl⟩
            have HV1 := fun (w : World) (k : Kept wr w) => Lib.hid (E1 ▸ valid_at N S T n m a3 a4 a5 a6 a7 a8 c3 c4 c5 c6 c7 c8 ys ra rc rs (some ⟨lb, 0, none⟩) n xl m n w HG.out (HGF.out.kept (HLF.out.kp.trans k)).cr (HGF.out.kept (HLF.out.kp.trans k)).rs (Rd.blk (FF.out.1.kept k)) (by rw [LN.1]; exact hm') HRM.out LN.1)
            have HV2 := fun (w : World) (k : Kept wr w) => Lib.hid (E2 ▸ valid_at N S T n m a3 a4 a5 a6 a7 a8 c3 c4 c5 c6 c7 c8 ys ra rc rs (some ⟨ub, 0, none⟩) n xu m n w HG.out (HGF.out.kept (HLF.out.kp.trans k)).cr (HGF.out.kept (HLF.out.kp.trans k)).rs (Rd.blk (FF.out.2.1.kept k)) (by rw [LN.2]; exact hm') HRM.out LN.2)
            have HS1 := fun (w : World) (k : Kept wr w) => Lib.hid (h1 ▸ SM xl R1 ▸ sum_at N S T n m a3 a4 a5 a6 a7 a8 c3 c4 c5 c6 c7 c8 ys ra rc rs (some ⟨lb, 0, none⟩) n xl m n w HG.out (HGF.out.kept (HLF.out.kp.trans k)).cr (HGF.out.kept (HLF.out.kp.trans k)).rs (Rd.blk (FF.out.1.kept k)) (by rw [LN.1]; exact hm') HRM.out LN.1)
            have HS2 := fun (w : World) (k : Kept wr w) => Lib.hid (h2 ▸ SM xu R2 ▸ sum_at N S T n m a3 a4 a5 a6 a7 a8 c3 c4 c5 c6 c7 c8 ys ra rc rs (some ⟨ub, 0, none⟩) n xu m n w HG.out (HGF.out.kept (HLF.out.kp.trans k)).cr (HGF.out.kept (HLF.out.kp.trans k)).rs (Rd.blk (FF.out.2.1.kept k)) (by rw [LN.2]; exact hm') HRM.out LN.2)
            have HS3 := fun (w : World) (k : Kept wr w) => Lib.hid (h3 ▸ SM gs V1 ▸ sum_at N S T n m a3 a4 a5 a6 a7 a8 c3 c4 c5 c6 c7 c8 ys ra rc rs (some ⟨gb, 0, none⟩) n gs m n w HG.out (HGF.out.kept (HLF.out.kp.trans k)).cr (HGF.out.kept (HLF.out.kp.trans k)).rs (Rd.blk (FF.out.2.2.1.kept k)) (by rw [HGL.out.1]; exact hm') HRM.out HGL.out.1)
            have HS4 := fun (w : World) (k : Kept wr w) => Lib.hid (h4 ▸ SM hs V2 ▸ sum_at N S T n m a3 a4 a5 a6 a7 a8 c3 c4 c5 c6 c7 c8 ys ra rc rs (some ⟨hb, 0, none⟩) n hs m n w HG.out (HGF.out.kept (HLF.out.kp.trans k)).cr (HGF.out.kept (HLF.out.kp.trans k)).rs (Rd.blk (FF.out.2.2.2.kept k)) (by rw [HGL.out.2]; exact hm') HRM.out HGL.out.2)
            have HAW := fun (w : World) => Lib.hid (awake6_any w)
            rw [h1, h2, h3, h4] at E3
            rw [h1] at B1
            rw [h2] at B2
            rw [h3] at B3
            rw [h4] at B4
            have hPn : n * n = P := HP.out.symm
            have hPi : (n : Int) * n = (P : Int) := by rw [← hPn]; simp
            rw [hPi] at B1 B2 B3 B4
            obtain ⟨q, hq⟩ : ∃ q, q = s1 + s2 := ⟨_, rfl⟩
            have w1 : IntKind.i64.wrap (s1 + s2) = q := by rw [IntKind.wrap_i64]; omega
            have w2 : IntKind.i64.wrap (s3 + s4) = q := by rw [IntKind.wrap_i64]; omega
            have w3 : wrap64 (s1 + s2) = q := by unfold wrap64; omega
            have w4 : wrap64 (s3 + s4) = q := by unfold wrap64; omega
            clear hq E3 B1 B2 B3 B4 hPn hPi SM h1 h2 h3 h4 E1 E2 R1 R2 V1 V2 V3 V4 LN hxl hxu hm'
            have K10 := Lib.hid (Upd.refl (fun _ => False) wr).drew
            have C10 : (∀ i, wr.drew.cell? ⟨cb, i, none⟩ = (#[.int .i64 N, .int .i64 S, .int .i64 T, .slice a3 (n + 1) c3, .slice a4 m c4, .slice a5 m c5, .slice a6 m c6, .slice a7 m c7, .slice a8 m c8] : Array Value)[i]?) := (HGF.out.kept (HLF.out.kp.trans K10.out)).box.cell
            go_upto_region 24 with (fail)
            go_region_held3 (fun w' => (∀ i, w'.cell? ⟨cb, i, none⟩ = (#[.int .i64 N, .int .i64 S, .int .i64 T, .slice a3 (n + 1) c3, .slice a4 m c4, .slice a5 m c5, .slice a6 m c6, .slice a7 m c7, .slice a8 m c8] : Array Value)[i]?))
              (first | exact C10 | exact C11 | exact C12 | exact C13 | exact C14 | exact C15 | exact C16 | exact C17)
              ((first
            | (go_at_call 24; refine (HAW _).out.mono ?_; rintro e W17 ⟨rfl, hk'⟩; have K17 := Lib.hid (K16.out.trans hk'); have C17 : (∀ i, W17.cell? ⟨cb, i, none⟩ = (#[.int .i64 N, .int .i64 S, .int .i64 T, .slice a3 (n + 1) c3, .slice a4 m c4, .slice a5 m c5, .slice a6 m c6, .slice a7 m c7, .slice a8 m c8] : Array Value)[i]?) := (HGF.out.kept (HLF.out.kp.trans K17.out)).box.cell; clear hk')
            | (go_at_call 22; refine (HS4 _ K15.out).out.mono ?_; rintro e W16 ⟨rfl, hk'⟩; have K16 := Lib.hid (K15.out.trans hk'); have C16 : (∀ i, W16.cell? ⟨cb, i, none⟩ = (#[.int .i64 N, .int .i64 S, .int .i64 T, .slice a3 (n + 1) c3, .slice a4 m c4, .slice a5 m c5, .slice a6 m c6, .slice a7 m c7, .slice a8 m c8] : Array Value)[i]?) := (HGF.out.kept (HLF.out.kp.trans K16.out)).box.cell; clear hk')
            | (go_at_call 22; refine (HS3 _ K14.out).out.mono ?_; rintro e W15 ⟨rfl, hk'⟩; have K15 := Lib.hid (K14.out.trans hk'); have C15 : (∀ i, W15.cell? ⟨cb, i, none⟩ = (#[.int .i64 N, .int .i64 S, .int .i64 T, .slice a3 (n + 1) c3, .slice a4 m c4, .slice a5 m c5, .slice a6 m c6, .slice a7 m c7, .slice a8 m c8] : Array Value)[i]?) := (HGF.out.kept (HLF.out.kp.trans K15.out)).box.cell; clear hk')
            | (go_at_call 22; refine (HS2 _ K13.out).out.mono ?_; rintro e W14 ⟨rfl, hk'⟩; have K14 := Lib.hid (K13.out.trans hk'); have C14 : (∀ i, W14.cell? ⟨cb, i, none⟩ = (#[.int .i64 N, .int .i64 S, .int .i64 T, .slice a3 (n + 1) c3, .slice a4 m c4, .slice a5 m c5, .slice a6 m c6, .slice a7 m c7, .slice a8 m c8] : Array Value)[i]?) := (HGF.out.kept (HLF.out.kp.trans K14.out)).box.cell; clear hk')
            | (go_at_call 22; refine (HS1 _ K12.out).out.mono ?_; rintro e W13 ⟨rfl, hk'⟩; have K13 := Lib.hid (K12.out.trans hk'); have C13 : (∀ i, W13.cell? ⟨cb, i, none⟩ = (#[.int .i64 N, .int .i64 S, .int .i64 T, .slice a3 (n + 1) c3, .slice a4 m c4, .slice a5 m c5, .slice a6 m c6, .slice a7 m c7, .slice a8 m c8] : Array Value)[i]?) := (HGF.out.kept (HLF.out.kp.trans K13.out)).box.cell; clear hk')
            | (go_at_call 20; refine (HV2 _ K11.out).out.mono ?_; rintro e W12 ⟨rfl, hk'⟩; have K12 := Lib.hid (K11.out.trans hk'); have C12 : (∀ i, W12.cell? ⟨cb, i, none⟩ = (#[.int .i64 N, .int .i64 S, .int .i64 T, .slice a3 (n + 1) c3, .slice a4 m c4, .slice a5 m c5, .slice a6 m c6, .slice a7 m c7, .slice a8 m c8] : Array Value)[i]?) := (HGF.out.kept (HLF.out.kp.trans K12.out)).box.cell; clear hk')
            | (go_at_call 20; refine (HV1 _ K10.out).out.mono ?_; rintro e W11 ⟨rfl, hk'⟩; have K11 := Lib.hid (K10.out.trans hk'); have C11 : (∀ i, W11.cell? ⟨cb, i, none⟩ = (#[.int .i64 N, .int .i64 S, .int .i64 T, .slice a3 (n + 1) c3, .slice a4 m c4, .slice a5 m c5, .slice a6 m c6, .slice a7 m c7, .slice a8 m c8] : Array Value)[i]?) := (HGF.out.kept (HLF.out.kp.trans K11.out)).box.cell; clear hk')))
            go_wp2_with fail
            go_ret
            exact ⟨rfl, HK0.out.trans (HLF.out.kp.trans K17.out)⟩
theorem labelLess_walk (N S T : Int) (a : Option Addr) (cap : Nat) (els : List (List Value)) (s1 : Option Addr) (cap1 : Nat) (z1 : List Int) (s2 : Option Addr) (cap2 : Nat) (z2 : List Int) (s3 : Option Addr) (cap3 : Nat) (z3 : List Int) (w : World) (_wN : (Lit.int .i64 N).wf = true) (_wS : (Lit.int .i64 S).wf = true) (_wT : (Lit.int .i64 T).wf = true) (hrow : FlatRow [some .i64, some .i64, some .i64] w a cap els) (_hf : ∀ x ∈ els, fits [some .i64, some .i64, some .i64] x)
    (w1 : IntRow .i64 w s1 cap1 z1) (m1 : ∀ n ∈ z1, (Lit.int .i64 n).wf = true) (w2 : IntRow .i64 w s2 cap2 z2) (_m2 : ∀ n ∈ z2, (Lit.int .i64 n).wf = true) (w3 : IntRow .i64 w s3 cap3 z3) (_m3 : ∀ n ∈ z3, (Lit.int .i64 n).wf = true) :
    Calls Try.prog 6 #[.agg #[.int .i64 N, .int .i64 S, .int .i64 T, .slice a els.length cap], .slice s1 z1.length cap1, .slice s2 z2.length cap2, .slice s3 z3.length cap3] w fun e w' => e = .returned (.bool true) ∧ Kept w w' := by
  obtain ⟨xs, hl, hA, hx⟩ := ars_of_flat hrow
  have hle := hrow.le
  have hmo := hrow.most
  have l1 := w1.le
  have l1' := w1.most
  have l2 := w2.le
  have l2' := w2.most
  have l3 := w3.le
  have l3' := w3.most
  unfold maxLen at hmo l1' l2' l3'
  exact labelLess_core N S T a els.length cap xs s1 cap1 z1 s2 cap2 z2 s3 cap3 z3 w hA hl hle hmo (fun x hx0 => bounds_i64 (hx x hx0).2.2) w1.rd (fun x hx0 => bounds_i64 (m1 x hx0)) (by omega) w2.rd w3.rd (by omega) (by omega)
end Go.Proofs.Ytfdbifhkhdnnkaa
