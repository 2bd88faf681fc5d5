/- The law GlobalsDown (printed by gen_down20.py). -/
import Derived.Test.YticeionjlknlcaaMark
import Derived.Test.YticeionjlknlcaaDownP
import Derived.Test.YticeionjlknlcaaLabAt
import Derived.Test.YticeionjlknlcaaGst
import Derived.Test.YticeionjlknlcaaMapRd
import Derived.Deep.CutRange
import Derived.StillTailTactics
namespace Go.Proofs.Yticeionjlknlcaa
set_option linter.unusedVariables false
set_option linter.unusedSimpArgs false
open Go.RowKit

attribute [local go_sem] cell?_ext
theorem wrap_small {x : Int} (h0 : 0 ≤ x) (h1 : x ≤ 1000000) : wrap64 x = x ∧ IntKind.i64.wrap x = x := ⟨by unfold wrap64; omega, by rw [IntKind.wrap_i64]; omega⟩
theorem push_wraps {x y d : Int} (h1 : 1 ≤ d) (h2 : d ≤ x) (h3 : 0 ≤ y) (h4 : x + y ≤ 2251799813685248) (hd : d = (x + 1) / 2) :
    (wrap64 (x + 1) = x + 1 ∧ (x + 1).tdiv 2 = d ∧ wrap64 d = d) ∧ wrap64 (x - d) = x - d ∧ wrap64 (y + d) = y + d := by
  have e : (x + 1).tdiv 2 = d := by rw [Int.tdiv_eq_ediv_of_nonneg (by omega), hd]
  refine ⟨⟨?_, e, ?_⟩, ?_, ?_⟩ <;> (unfold wrap64; omega)
theorem dn_memD {N S T : Int} {n m : Nat} {ys : List Ar} {rs xs : List Int} {p : Int → Bool} {l : List Nat} (h : dnL N S T n m ys rs xs p = l) (a : Nat) (ha : a ∈ l) : a < m ∧ dnQ S n ys rs xs p a = true := by
  subst h
  unfold dnL at ha
  split at ha
  · rw [List.mem_filter, List.mem_range] at ha
    exact ha
  · cases ha
theorem IntRow.rd {k : IntKind} {w : World} {a : Option Addr} {cap : Nat} {zs : List Int} (h : IntRow k w a cap zs) : Rd w a (zs.map (Value.int k)) := by
  rcases h.cells with h0 | ⟨b, off, rfl, hc⟩
  · exact .inl (by rw [List.eq_nil_of_length_eq_zero h0]; rfl)
  · refine .inr ⟨b, off, rfl, fun i u hu => ?_⟩
    rw [List.getElem?_map] at hu
    obtain ⟨x, hx, rfl⟩ := Option.map_eq_some_iff.1 hu
    obtain ⟨hi, rfl⟩ := List.getElem?_eq_some_iff.1 hx
    exact hc i hi
/-- What the law looks at: what is left in a row of its own, heights, an excess, a mark. -/
structure DZ (N S T : Int) (n m : Nat) (a3 a4 a5 a6 a7 a8 : Option Addr) (c3 c4 c5 c6 c7 c8 : Nat) (w : World) (B Z : Nat) (ys : List Ar) (cb : Nat) (ra : Option Addr) (L : List Int) (hb : Nat) (hs : List Int) (eb : Nat) (es : List Int) (wb : Nat) (g s : Int) (wr : World) : Prop where
  kp : Kept w wr
  gf : GF N S T n m a3 a4 a5 a6 a7 a8 c3 c4 c5 c6 c7 c8 ys cb ra L wr
  h : Rd wr (some ⟨hb, 0, none⟩) (lv hs)
  e : Blk wr eb (lv es).toArray 2
  m : Blk wr wb #[.int .i64 g, .int .i64 s] 48
  nz : w.heap.size ≤ Z ∧ cb < Z ∧ Z ≤ hb ∧ Z ≤ eb ∧ Z ≤ wb ∧ ¬ hb = eb ∧ ¬ hb = wb ∧ ¬ eb = wb
  l : L = [] ∨ ∃ q rest, ra = some ⟨q, 0, none⟩ ∧ w.heap.size ≤ q ∧ B ≤ q ∧ q < Z ∧ ¬ cb = q ∧ Blk wr q (lv L ++ rest).toArray 2
section
variable {N S T : Int} {n m : Nat} {a3 a4 a5 a6 a7 a8 : Option Addr} {c3 c4 c5 c6 c7 c8 : Nat} {w : World} {B Z : Nat} {ys : List Ar} {cb : Nat} {ra : Option Addr} {L : List Int} {hb : Nat} {hs : List Int} {eb : Nat} {es : List Int} {wb : Nat} {g s : Int} {wr w' : World}
theorem DZ.kept (h : DZ N S T n m a3 a4 a5 a6 a7 a8 c3 c4 c5 c6 c7 c8 w B Z ys cb ra L hb hs eb es wb g s wr) (k : Kept wr w') : DZ N S T n m a3 a4 a5 a6 a7 a8 c3 c4 c5 c6 c7 c8 w B Z ys cb ra L hb hs eb es wb g s w' :=
  ⟨h.kp.trans k, h.gf.kept k, h.h.kept k, h.e.kept k, h.m.kept k, h.nz, h.l.imp id fun ⟨q, rest, e, h1, h2, h3, h4, h5⟩ => ⟨q, rest, e, h1, h2, h3, h4, h5.kept k⟩⟩
theorem DZ.next (h : DZ N S T n m a3 a4 a5 a6 a7 a8 c3 c4 c5 c6 c7 c8 w B Z ys cb ra L hb hs eb es wb g s wr) (k : Kept wr w') {xb : Nat} {X : List Int} (hx : Blk w' xb (lv X).toArray 3) (hg : wr.heap.size ≤ xb) : DZ N S T n m a3 a4 a5 a6 a7 a8 c3 c4 c5 c6 c7 c8 w B Z ys cb ra L xb X eb es wb g s w' := by
  have h1 := h.kept k
  have h2 := h.e.lt
  have h3 := h.m.lt
  have h4 := h.nz
  exact ⟨h1.kp, h1.gf, Rd.blk hx, h1.e, h1.m, by omega, h1.l⟩
theorem DZ.push {q : Nat} {rest : List Value} (h : DZ N S T n m a3 a4 a5 a6 a7 a8 c3 c4 c5 c6 c7 c8 w B Z ys cb (some ⟨q, 0, none⟩) L hb hs eb es wb g s wr) (hl : ∃ lo, CsrL lo B a3 a4 a5 a6 a7 a8) (hg : w.heap.size ≤ q ∧ B ≤ q ∧ q < Z ∧ ¬ cb = q ∧ Blk wr q (lv L ++ rest).toArray 2) {k : Nat} (hk : k < L.length) (x : Int) :
    DZ N S T n m a3 a4 a5 a6 a7 a8 c3 c4 c5 c6 c7 c8 w B Z ys cb (some ⟨q, 0, none⟩) (L.set k x) hb hs eb es wb g s (wr.setCell ⟨q, k, none⟩ (.int .i64 x)) ∧ (w.heap.size ≤ q ∧ B ≤ q ∧ q < Z ∧ ¬ cb = q ∧ Blk (wr.setCell ⟨q, k, none⟩ (.int .i64 x)) q (lv (L.set k x) ++ rest).toArray 2) := by
  obtain ⟨g1, g2, g3, g4, g6⟩ := hg
  obtain ⟨lo, hl⟩ := hl
  have h4 := h.nz
  have hu : Upd (fun b => b = q) wr (wr.setCell ⟨q, k, none⟩ (.int .i64 x)) := Upd.setCell (S := fun b => b = q) (Upd.refl _ _) (.inl rfl) _
  have hB : Blk (wr.setCell ⟨q, k, none⟩ (.int .i64 x)) q (lv (L.set k x) ++ rest).toArray 2 := by
    have := g6.set k (.int .i64 x)
    rwa [show (lv (L.set k x) ++ rest).toArray = (lv L ++ rest).toArray.setIfInBounds k (.int .i64 x) by
      have hkl : k < (lv L).length := by rw [lv_len]; exact hk
      simp only [List.setIfInBounds_toArray, List.set_append_left k _ hkl]
      simp [lv, List.map_set]]
  refine ⟨⟨h.kp.set g1 _, ⟨h.gf.box.other g4 _, h.gf.cr.upd hl hu (fun k _ h2 h3 => by subst h3; omega), rd_set g6 hk⟩, h.h.upd hu (fun ad e => by cases e; simp only; omega), h.e.other (by simp only; omega) _, h.m.other (by simp only; omega) _, h4, .inr ⟨q, rest, rfl, g1, g2, g3, g4, hB⟩⟩, g1, g2, g3, g4, hB⟩
theorem DZ.exc {q : Nat} {rest : List Value} (h : DZ N S T n m a3 a4 a5 a6 a7 a8 c3 c4 c5 c6 c7 c8 w B Z ys cb (some ⟨q, 0, none⟩) L hb hs eb es wb g s wr) (hl : ∃ lo, CsrL lo B a3 a4 a5 a6 a7 a8) (hg : w.heap.size ≤ q ∧ B ≤ q ∧ q < Z ∧ ¬ cb = q ∧ Blk wr q (lv L ++ rest).toArray 2) (k : Nat) (x : Int) :
    DZ N S T n m a3 a4 a5 a6 a7 a8 c3 c4 c5 c6 c7 c8 w B Z ys cb (some ⟨q, 0, none⟩) L hb hs eb (es.set k x) wb g s (wr.setCell ⟨eb, k, none⟩ (.int .i64 x)) := by
  obtain ⟨g1, g2, g3, g4, g6⟩ := hg
  obtain ⟨lo, hl⟩ := hl
  have h4 := h.nz
  have hu : Upd (fun b => b = eb) wr (wr.setCell ⟨eb, k, none⟩ (.int .i64 x)) := Upd.setCell (S := fun b => b = eb) (Upd.refl _ _) (.inl rfl) _
  have hB : Blk (wr.setCell ⟨eb, k, none⟩ (.int .i64 x)) eb (lv (es.set k x)).toArray 2 := by
    have := h.e.set k (.int .i64 x)
    rwa [show (lv (es.set k x)).toArray = (lv es).toArray.setIfInBounds k (.int .i64 x) by simp [lv, List.map_set]]
  exact ⟨h.kp.set (by simp only; omega) _, ⟨h.gf.box.other (by simp only; omega) _, h.gf.cr.upd hl hu (fun k _ h2 h3 => by subst h3; omega), h.gf.rs.upd hu (fun ad e => by cases e; simp only; omega)⟩, h.h.upd hu (fun ad e => by cases e; simp only; omega), hB, h.m.other (by simp only; omega) _, h4, .inr ⟨q, rest, rfl, g1, g2, g3, g4, g6.other (by simp only; omega) _⟩⟩
theorem DZ.mark {q : Nat} {rest : List Value} (h : DZ N S T n m a3 a4 a5 a6 a7 a8 c3 c4 c5 c6 c7 c8 w B Z ys cb (some ⟨q, 0, none⟩) L hb hs eb es wb g s wr) (hl : ∃ lo, CsrL lo B a3 a4 a5 a6 a7 a8) (hg : w.heap.size ≤ q ∧ B ≤ q ∧ q < Z ∧ ¬ cb = q ∧ Blk wr q (lv L ++ rest).toArray 2) (x y : Int) :
    DZ N S T n m a3 a4 a5 a6 a7 a8 c3 c4 c5 c6 c7 c8 w B Z ys cb (some ⟨q, 0, none⟩) L hb hs eb es wb x y ((wr.setCell ⟨wb, 0, none⟩ (.int .i64 x)).setCell ⟨wb, 1, none⟩ (.int .i64 y)) := by
  obtain ⟨g1, g2, g3, g4, g6⟩ := hg
  obtain ⟨lo, hl⟩ := hl
  have h4 := h.nz
  have hu : Upd (fun b => b = wb) wr ((wr.setCell ⟨wb, 0, none⟩ (.int .i64 x)).setCell ⟨wb, 1, none⟩ (.int .i64 y)) := Upd.setCell (S := fun b => b = wb) (Upd.setCell (S := fun b => b = wb) (Upd.refl _ _) (.inl rfl) _) (.inl rfl) _
  have hB : Blk ((wr.setCell ⟨wb, 0, none⟩ (.int .i64 x)).setCell ⟨wb, 1, none⟩ (.int .i64 y)) wb #[.int .i64 x, .int .i64 y] 48 := (h.m.set 0 (.int .i64 x)).set 1 (.int .i64 y)
  exact ⟨(h.kp.set (p := ⟨wb, 0, none⟩) (by simp only; omega) _).set (p := ⟨wb, 1, none⟩) (by simp only; omega) _, ⟨(h.gf.box.other (p := ⟨wb, 0, none⟩) (by simp only; omega) _).other (p := ⟨wb, 1, none⟩) (by simp only; omega) _, h.gf.cr.upd hl hu (fun k _ h2 h3 => by subst h3; omega), h.gf.rs.upd hu (fun ad e => by cases e; simp only; omega)⟩, h.h.upd hu (fun ad e => by cases e; simp only; omega), (h.e.other (p := ⟨wb, 0, none⟩) (by simp only; omega) _).other (p := ⟨wb, 1, none⟩) (by simp only; omega) _, hB, h4, .inr ⟨q, rest, rfl, g1, g2, g3, g4, (g6.other (p := ⟨wb, 0, none⟩) (by simp only; omega) _).other (p := ⟨wb, 1, none⟩) (by simp only; omega) _⟩⟩
end
set_option maxRecDepth 100000 in
set_option maxHeartbeats 4000000 in
theorem globalsDown_core (N0 S0 T0 : Int) (a : Option Addr) (k0 cap : Nat) (ys0 : List Ar) (la : Option Addr) (lc : Nat) (ls : List Int) (moa : Option Addr) (moc : Nat) (mo : List Int) (w : World)
    (h : Ars w a ys0) (hk0 : ys0.length = k0) (hle : k0 ≤ cap) (hmost : cap ≤ 9223372036854775807) (hwf : ∀ x ∈ ys0, -9223372036854775808 ≤ x.c ∧ x.c ≤ 9223372036854775807)
    (hl : Rd w la (lv ls)) (hli : ∀ x ∈ ls, -9223372036854775808 ≤ x ∧ x ≤ 9223372036854775807) (hll : ls.length ≤ 9223372036854775807)
    (hm1 : Rd w moa (mo.map (Value.int .u8))) (hm2 : ∀ x ∈ mo, 0 ≤ x ∧ x ≤ 255) (hm3 : mo.length ≤ 9223372036854775807) (hm4 : mo.length ≤ moc) :
    Calls Try.prog 7 #[.agg #[.int .i64 N0, .int .i64 S0, .int .i64 T0, .slice a k0 cap], .slice la ls.length lc, .slice moa mo.length moc] w fun e w' => e = .returned (.bool true) ∧ Kept w w' := by
  have HS : ∀ (w : World), Ars w a ys0 → Hid (Calls Try.prog 13 #[.agg #[.int .i64 N0, .int .i64 S0, .int .i64 T0, .slice a k0 cap], .int .i64 16, .int .i64 40] w (NetIs w)) := by
    intro w h
    subst hk0
    exact Lib.hid (Some_any N0 S0 T0 a cap ys0 w h hle hmost hwf)
  have HX := Lib.hid (h.kept ((Upd.refl (fun _ => False) w).alloc (.cells #[.int .i64 N0, .int .i64 S0, .int .i64 T0, .slice a k0 cap] 24)))
  have HK := Lib.hid ((Upd.refl (fun _ => False) w).alloc (.cells #[.int .i64 N0, .int .i64 S0, .int .i64 T0, .slice a k0 cap] 24))
  have HL := Lib.hid hl
  have HLI := Lib.hid hli
  have HMO := Lib.hid hm1
  have HMB := Lib.hid hm2
  have hml := hm3
  clear hm1 hm2 hm3
  clear h hl hli hle hmost hwf
  go_enter Try.func7, Try.ntmps7
  go_wp2_with fail
  refine (HS _ HX.out).out.mono ?_
  rintro e w1 ⟨N, S, T, a', cap', ys, rfl, hok, hown, hk1⟩
  have HK1 := Lib.hid (HK.out.trans hk1)
  have HOK := Lib.hid hok
  have HA : Hid (Ars w1 a' ys) := Lib.hid hown.at.2
  clear hk1 hok hown HS HX HK
  have HLE := fun (w : World) (h : Ars w a' ys) (hl : Rd w la (lv ls)) => Lib.hid (Left_ok N S T a' cap' ys la lc ls w h HOK.out hl HLI.out hll)
  go_wp2_with fail
  refine (HLE _ HA.out (HL.out.kept HK1.out)).out.mono ?_
  rintro e w2 ⟨B, n, m, a3, c3, a4, c4, a5, c5, a6, c6, a7, c7, a8, c8, ra, rc, rfl, hn, hm2, hcr, hcl, hk2, hBl, hro⟩
  have HG : Hid (Gr N S T n m ys) := Lib.hid ⟨HOK.out, hn, hm2⟩
  obtain ⟨rs, hrs⟩ : ∃ rs, resAll (wths ls ys) n ys = rs := ⟨_, rfl⟩
  have HRM : Hid (rs.length = m) := Lib.hid (by rw [← hrs, resAll_len]; exact hm2)
  have HRI : Hid (∀ x ∈ rs, 0 ≤ x ∧ x < 1125899906842624) := Lib.hid (by rw [← hrs]; exact left_in HG.out HLI.out)
  rw [hrs] at hro
  have HRC : Hid (m ≤ rc) := Lib.hid (row_cap' hro)
  have HSO : Hid ((∃ ad, ra = some ad) ∨ (ra = none ∧ m = 0 ∧ rc = 0)) := Lib.hid (someOr_row hro)
  obtain ⟨ra', rc', e9, hrr⟩ := Rd.owns hro
  cases e9
  have hA := (Upd.refl (fun _ => False) w2).alloc (.cells #[.int .i64 N, .int .i64 S, .int .i64 T, .slice a3 (n + 1) c3, .slice a4 m c4, .slice a5 m c5, .slice a6 m c6, .slice a7 m c7, .slice a8 m c8] 29)
  have HK0 := Lib.hid ((HK1.out.trans hk2).trans hA)
  have HCL : Hid (∃ lo, CsrL lo B a3 a4 a5 a6 a7 a8) := Lib.hid ⟨_, hcl⟩
  have HBB : Hid (w.heap.size ≤ B) := Lib.hid (Nat.le_trans HK1.out.size hBl)
  have HRO : Hid ((w2.alloc (.cells #[.int .i64 N, .int .i64 S, .int .i64 T, .slice a3 (n + 1) c3, .slice a4 m c4, .slice a5 m c5, .slice a6 m c6, .slice a7 m c7, .slice a8 m c8] 29)).ownsRow B 2 1 (.slice ra m rc) m (lv rs)) := Lib.hid (ownsRow_upd hro hA (fun _ _ f => f))
  have HGC : Hid (∀ g, (Value.slice ra m rc).ownBlock = some g → g < w2.heap.size) := Lib.hid (fun g e => (World.ownsRow.lt hro g e).2)
  have HGF : Hid (GF N S T n m a3 a4 a5 a6 a7 a8 c3 c4 c5 c6 c7 c8 ys w2.heap.size ra rs (w2.alloc (.cells #[.int .i64 N, .int .i64 S, .int .i64 T, .slice a3 (n + 1) c3, .slice a4 m c4, .slice a5 m c5, .slice a6 m c6, .slice a7 m c7, .slice a8 m c8] 29))) := Lib.hid ⟨Blk.new _ _ _, hcr.kept hA, hrr.kept hA⟩
  clear hn hm2 hcr hcl hBl hk2 hro hrr hrs hA HLE HA HOK HK1 HL HLI hll
  clear hk0
  go_upto_region 2 with (fail)
  generalize (w2.alloc (.cells #[.int .i64 N, .int .i64 S, .int .i64 T, .slice a3 (n + 1) c3, .slice a4 m c4, .slice a5 m c5, .slice a6 m c6, .slice a7 m c7, .slice a8 m c8] 29)) = wB at HGF HK0 HRO ⊢
  generalize w2.heap.size = cb at HGF HGC ⊢
  have HK1 : Hid (Kept wB wB) := Lib.hid (Upd.refl _ _)
  have HE1 := fun (w : World) (k : Kept wB w) => Lib.hid (show Calls Try.prog 25 #[.agg #[.int .i64 N, .int .i64 S, .int .i64 T, .slice a3 (n + 1) c3, .slice a4 m c4, .slice a5 m c5, .slice a6 m c6, .slice a7 m c7, .slice a8 m c8], .slice ra m rc, .int .i64 1] w (ExactEnd w N S T n m ys rs) from exact_ok N S T n m a3 a4 a5 a6 a7 a8 c3 c4 c5 c6 c7 c8 ys ra rc rs 1 w HG.out HRM.out (HGF.out.kept k).cr (HGF.out.kept k).rs (by omega) (by omega))
  have bx := (HGF.out.kept HK1.out).box.cell
  go_wp2_with fail
  refine (HE1 _ HK1.out).out.mono ?_
  rintro e W2 ⟨hb, X, rfl, hX, hB, hge, hk⟩
  have K2 := Lib.hid (HK1.out.trans hk)
  have HXL := Lib.hid hX
  have RH2 := Lib.hid (Rd.blk hB)
  have HHB : Hid (wB.heap.size ≤ hb ∧ hb < W2.heap.size) := Lib.hid ⟨hge, hB.lt⟩
  clear hX hB hge hk HK1 bx HE1
  have hn16 : n ≤ 16 := by have := HG.out.len; omega
  have hm640 : m ≤ 640 := by have := HG.out.len; omega
  have hmk := fun w => make_one (P := Try.prog) (t := 25) (e := 2) (z := .int .i64 0) (v := .int .i64 0) (bytes := 8) Try.underlying25 (by kernel_rfl) rfl .i64 n (by omega) (by omega) w
  rw [HG.out.len.1] at hmk
  have bx := (HGF.out.kept K2.out).box.cell
  have HEB : Hid (Blk (W2.alloc (.cells (zeros n (.int .i64 0)) 2)) W2.heap.size (lv (List.replicate n 0)).toArray 2) := Lib.hid (by
    rw [← show zeros n (.int .i64 0) = (lv (List.replicate n 0)).toArray by rw [zeros_ints, lv]]
    exact Blk.new W2 (zeros n (.int .i64 0)) 2)
  have HK3 : Hid (Kept W2 (W2.alloc (.cells (zeros n (.int .i64 0)) 2))) := Lib.hid ((Upd.refl _ _).alloc _)
  have HM1 := fun (w : World) (k : Kept wB w) (he : Rd w (some ⟨W2.heap.size, 0, none⟩) (lv (List.replicate n 0))) => Lib.hid (mark_ok N S T n m a3 a4 a5 a6 a7 a8 c3 c4 c5 c6 c7 c8 ys ra rc rs (some ⟨W2.heap.size, 0, none⟩) n (List.replicate n 0) none 0 0 w HG.out HRM.out (HGF.out.kept k).cr (HGF.out.kept k).rs he (by simp))
  go_upto_region 4 with (fail)
  clear hmk bx
  have HEL : Hid (W2.heap.size < (W2.alloc (.cells (zeros n (.int .i64 0)) 2)).heap.size ∧ wB.heap.size ≤ W2.heap.size) := Lib.hid ⟨HEB.out.lt, K2.out.size⟩
  generalize (W2.alloc (.cells (zeros n (.int .i64 0)) 2)) = W3 at HEB HK3 HEL ⊢
  have HHB2 : Hid (wB.heap.size ≤ hb ∧ hb < W2.heap.size) := HHB
  clear HHB
  have K3 := Lib.hid (K2.out.trans HK3.out)
  have RH3 := Lib.hid (RH2.out.kept HK3.out)
  clear HK3 RH2 K2
  generalize W2.heap.size = eb at HEB HEL HM1 HHB2 ⊢
  have bx := (HGF.out.kept K3.out).box.cell
  go_wp2_with fail
  refine (HM1 _ K3.out (Rd.blk HEB.out)).out.mono ?_
  rintro e W4 ⟨Y, rfl, hY, hk⟩
  obtain rfl := HXL.out.unique hY
  have K4 := Lib.hid (K3.out.trans hk)
  have RH4 := Lib.hid (RH3.out.kept hk)
  have HEB4 := Lib.hid (HEB.out.kept hk)
  have HSZ := Lib.hid hk.size
  clear hY hk HEB RH3 K3 HM1 bx
  have HES : Hid ((List.replicate n (0 : Int)).getD T.toNat 0 = 0) := Lib.hid (by simp [List.getD, List.getElem?_replicate]; split <;> rfl)
  rw [HES.out]
  go_upto_region 5 with (fail)

  have DZ0 : Hid (DZ N S T n m a3 a4 a5 a6 a7 a8 c3 c4 c5 c6 c7 c8 w B wB.heap.size ys cb ra rs hb X eb (List.replicate n 0) W4.heap.size 0 X.sum (W4.alloc (.cells #[.int .i64 0, .int .i64 X.sum] 48))) := Lib.hid (by
    have hA := (Upd.refl (fun _ => False) W4).alloc (.cells #[.int .i64 0, .int .i64 X.sum] 48)
    have k3 := K4.out.trans hA
    have h1 := HK0.out.size
    have h2 := HGF.out.box.lt
    have h3 := HHB2.out
    have h4 := HEL.out
    have h5 := K4.out.size
    have h6 := HEB4.out.lt
    refine ⟨HK0.out.trans k3, HGF.out.kept k3, RH4.out.kept hA, HEB4.out.kept hA, Blk.new _ _ _, by omega, ?_⟩
    by_cases h0 : 0 < m
    · obtain ⟨q, rest, e, h1, h2⟩ := row_blk (ownsRow_upd HRO.out k3 (fun _ _ f => f)) h0
      have h4 := HGC.out q (by rw [e]; rfl)
      have h3 := (World.ownsRow.lt HRO.out q (by rw [e]; rfl)).2
      exact .inr ⟨q, rest, e, Nat.le_trans HBB.out h1, h1, h3, by omega, h2⟩
    · exact .inl (List.eq_nil_of_length_eq_zero (by rw [HRM.out]; omega)))
  generalize (W4.alloc (.cells #[.int .i64 0, .int .i64 X.sum] 48)) = W5 at DZ0 ⊢
  generalize W4.heap.size = wb at DZ0 ⊢
  generalize wB.heap.size = Z at DZ0
  clear K4 RH4 HEB4 HSZ HHB2 HEL HRO HGC HBB HGF HK0 HRC HSO
  have HPB : Hid (PairB n m ys rs) := Lib.hid (pair_start HG.out HRM.out HRI.out)
  go_wp2_with fail
  obtain ⟨mv, hmv⟩ : ∃ mv : Nat, mv = min mo.length 30 := ⟨_, rfl⟩
  have e1 : max (min (mo.length : Int) 30) 0 = (mv : Int) := by omega
  have e2 : (min (mo.length : Int) 30).toNat = mv := by omega
  have hmv30 : mv ≤ 30 := by omega
  have hmvl : mv ≤ mo.length := by omega
  rw [e1, e2]
  clear e1 e2 hmv
  generalize (min (mo.length : Int) 30) = mn
  go_loopw [9, 44] (fun y z wr => ∃ (j hb : Nat) (L hs es : List Int) (g s : Int), y = .slice (some ⟨hb, 0, none⟩) n n ∧ z = .int .i64 j ∧ j ≤ mv ∧ Hid (L.length = m ∧ PairB n m ys L) ∧ Hid (IsLow S n m ys L (allN n N T) hs) ∧ Hid (es.length = n ∧ es.getD T.toNat 0 = g ∧ 0 ≤ g ∧ g ≤ 1000 * (j : Int) ∧ hs.sum = s) ∧ Hid (DZ N S T n m a3 a4 a5 a6 a7 a8 c3 c4 c5 c6 c7 c8 w B Z ys cb ra L hb hs eb es wb g s wr)) (fun _ z _ => mv - (intOf z).toNat)
  case atStart => exact ⟨0, hb, rs, X, List.replicate n 0, 0, X.sum, rfl, rfl, by omega, Lib.hid ⟨HRM.out, HPB.out⟩, HXL, Lib.hid ⟨by simp, HES.out, by omega, by omega, rfl⟩, DZ0⟩
  case round =>
    clear DZ0 HPB HXL HES HRI HRM
    obtain ⟨j, hb, L, hs, es, g, s, rfl, rfl, hj, HLP, HXL, HE, D0⟩ := hrel
    by_cases hjm : j < mv
    · have i1 : (0 : Int) ≤ (j : Int) := by omega
      have i2 : (j : Int) < (mv : Int) := by omega
      have i3 : mv ≤ moc := by omega
      obtain ⟨mb, mof, em, fm⟩ := (HMO.out.kept D0.out.kp).at j (by rw [List.length_map]; omega)
      have hjl : j < mo.length := by omega
      rw [show (mo.map (Value.int .u8))[j]? = some (.int .u8 mo[j]) by simp [hjl]] at fm
      obtain ⟨p1, p2⟩ := HMB.out mo[j] (List.getElem_mem hjl)
      subst em
      generalize mo[j] = x at fm p1 p2
      clear hjl
      have HHL : Hid (hs.length = n) := Lib.hid HXL.out.len
      obtain ⟨Lf, hLf⟩ : ∃ Lf, dnL N S T n m ys L hs (isP false) = Lf := ⟨_, rfl⟩
      obtain ⟨k, hk⟩ : ∃ k, Lf.length = k := ⟨_, rfl⟩
      have HFT := Lib.hid (flat_at N S T n m a3 a4 a5 a6 a7 a8 c3 c4 c5 c6 c7 c8 ys ra rc L (some ⟨hb, 0, none⟩) n hs m n Lf k wr HG.out D0.out.gf.cr D0.out.gf.rs D0.out.h (by rw [HHL.out]; omega) HLP.out.1 HHL.out hLf hk)
      have HKF : Hid (dnL N S T n m ys L hs (isP false) = Lf ∧ Lf.length = k) := Lib.hid ⟨hLf, hk⟩
      have hk640 : k ≤ 640 := by
        have h1 := dnL_len N S T n m ys L hs (isP false)
        rw [hLf, hk] at h1
        omega
      clear hLf hk
      have bx := D0.out.gf.box.cell
      go_wp2_with fail
      refine HFT.out.mono ?_
      rintro e W6 ⟨fa, fc, rfl, hfr, hk6⟩
      have D1 := Lib.hid (D0.out.kept hk6)
      have HFR := Lib.hid hfr
      clear hfr hk6 HFT bx fm
      rcases Nat.eq_zero_or_pos k with hk0 | hk0
      · subst hk0
        go_wp2_with fail
        refine (awake20_any _).mono ?_
        rintro e Wz ⟨rfl, hkz⟩
        have HKZ := Lib.hid (D1.out.kp.trans hkz)
        clear hkz
        go_wp2_with fail
        go_ret
        exact ⟨rfl, HKZ.out⟩
      · obtain ⟨i, hi⟩ : ∃ i : Nat, (i : Int) = x % (k : Int) := ⟨(x % (k : Int)).toNat, Int.toNat_of_nonneg (Int.emod_nonneg x (by omega))⟩
        have hik : i < k := by have := Int.emod_lt_of_pos x (show (0 : Int) < (k : Int) by omega); omega
        have i4 : (0 : Int) ≤ (i : Int) := Int.natCast_nonneg i
        have i5 : (i : Int) < (k : Int) := Int.ofNat_lt.2 hik
        have t1 : x.tmod (k : Int) = (i : Int) := by rw [Int.tmod_eq_emod_of_nonneg p1, hi]
        have HI := Lib.hid hi
        clear hi
        have hz1 : ((k : Int) == 0) = false := beq_eq_false_iff_ne.2 (by omega)
        have hz2 : ¬ (k : Int) = 0 := by omega
        obtain ⟨t2, t3⟩ := wrap_small (x := (i : Int)) (by omega) (by omega)
        obtain ⟨t4, t5⟩ := wrap_small (x := x) (by omega) (by omega)
        obtain ⟨fb, fo, ef, fcc⟩ := HFR.out.at i (by rw [nv_len, HKF.out.2]; exact hik)
        subst ef
        obtain ⟨a, ha⟩ : ∃ a, Lf[i]? = some a := ⟨_, List.getElem?_eq_getElem (by rw [HKF.out.2]; exact hik)⟩
        rw [show (nv Lf)[i]? = some (.int .i64 (a : Nat)) by unfold nv; rw [List.getElem?_map, ha]; rfl] at fcc
        obtain ⟨ham, haq⟩ := dn_memD HKF.out.1 a (List.mem_of_getElem? ha)
        have HAQ := Lib.hid haq
        clear ha haq HFR HKF
        go_upto_region 11 with (fail)
        clear t1 t2 t3 t4 t5 hz1 hz2 i4 i5 fcc
        obtain ⟨q, rest, hq1, HG2⟩ := D1.out.l.resolve_left (fun e => by have := HLP.out.1; rw [e] at this; simp at this; omega)
        subst hq1
        have HG2 := Lib.hid HG2
        have hne := flat_rv HG.out ham HAQ.out
        obtain ⟨q1, q2, q3⟩ := flat_iff.1 HAQ.out
        have HRV := Lib.hid (rv_facts HG.out a ham)
        obtain ⟨r, hr⟩ : ∃ r, rv n ys a = r := ⟨_, rfl⟩
        have hrm : r < m := by rw [← hr]; exact HRV.out.2.1
        have HPA := Lib.hid (HLP.out.2 a ham)
        obtain ⟨x0, hx0⟩ : ∃ x0, L.getD a 0 = x0 := ⟨_, rfl⟩
        obtain ⟨y0, hy0⟩ : ∃ y0, L.getD r 0 = y0 := ⟨_, rfl⟩
        have HPR := Lib.hid (HLP.out.2 r hrm)
        rw [hr, hx0, hy0] at HPA
        rw [hy0] at HPR
        rw [hx0] at q2
        obtain ⟨d, hd⟩ : ∃ d, d = (x0 + 1) / 2 := ⟨_, rfl⟩
        have hdb : 1 ≤ d ∧ d ≤ x0 ∧ 0 ≤ y0 ∧ x0 + y0 ≤ 2251799813685248 := by have h1 := HPA.out; have h2 := HPR.out.1; omega
        have HPN : Hid (PairB n m ys (pushL n ys L a d)) := Lib.hid (push_pair HG.out HLP.out.1 HLP.out.2 ham hne (by omega) (by rw [hx0]; omega))
        have HLE2 : Hid (pushL n ys L a d = (L.set a (x0 - d)).set r (y0 + d)) := Lib.hid (by unfold pushL; rw [hr, hx0, hy0])
        have HTOP := fun X' (h' : IsLow S n m ys (pushL n ys L a d) (allN n N T) X') => Lib.hid (push_top HG.out HLP.out.1 HXL.out ham HAQ.out h')
        obtain ⟨⟨s1, s2, s3⟩, s4, s5⟩ := push_wraps hdb.1 hdb.2.1 hdb.2.2.1 hdb.2.2.2 hd
        have HST1 := Lib.hid (D1.out.push HCL.out HG2.out (k := a) (by rw [HLP.out.1]; exact ham) (x0 - d))
        have fr : W6.cell? ⟨q, a, none⟩ = some (.int .i64 x0) := by
          obtain ⟨rb, ro, er, fr⟩ := D1.out.gf.rs.num (i := a) (by rw [HLP.out.1]; exact ham)
          cases er
          rwa [Nat.zero_add, hx0] at fr
        have fo := HG2.out.2.2.2.2.free a
        have HR0 := Lib.hid (And.intro hr (And.intro hx0 hy0))
        have HDB := Lib.hid hdb
        have HDD := Lib.hid hd
        have a0 : (0 : Int) ≤ (a : Int) := Int.natCast_nonneg a
        have a1 : (a : Int) < (m : Int) := Int.ofNat_lt.2 ham
        have hne2 : ¬ r = a := by rw [← hr]; exact hne
        clear hr hx0 hy0 hd hdb q1 q2 q3 hne
        go_upto_region 12 with (fail)
        rw [s3]
        go_upto_region 13 with (fail)
        clear s1 s2 s3 s4 fr fo
        generalize (W6.setCell ⟨q, a, none⟩ (.int .i64 (x0 - d))) = W7 at HST1 ⊢
        clear D1 HG2
        obtain ⟨b5, o5, e5, f5⟩ := HST1.out.1.gf.cr.r5.at a (by have h1 := HRV.out.1; exact (List.getElem?_eq_some_iff.1 h1).1)
        rw [HRV.out.1, HR0.out.1] at f5
        have bx := HST1.out.1.gf.box.cell
        rw [e5] at bx
        clear e5
        have fr : W7.cell? ⟨q, r, none⟩ = some (.int .i64 y0) := by
          obtain ⟨rb, ro, er, fr⟩ := HST1.out.1.gf.rs.num (i := r) (by rw [List.length_set, HLP.out.1]; exact hrm)
          cases er
          rwa [Nat.zero_add, getD_set (by rw [HLP.out.1]; exact ham), if_neg hne2, HR0.out.2.2] at fr
        have fo := HST1.out.2.2.2.2.2.free r
        have r0 : (0 : Int) ≤ (r : Int) := Int.natCast_nonneg r
        have r1 : (r : Int) < (m : Int) := Int.ofNat_lt.2 hrm
        have HST2 := Lib.hid (HST1.out.1.push HCL.out HST1.out.2 (k := r) (by rw [List.length_set, HLP.out.1]; exact hrm) (y0 + d))
        clear HST1
        go_upto_region 14 with (fail)
        clear s5 fr fo r0 r1 bx f5 hne2 hrm
        rw [← HLE2.out] at HST2
        generalize (W7.setCell ⟨q, r, none⟩ (.int .i64 (y0 + d))) = W8 at HST2 ⊢
        have HLN : Hid ((pushL n ys L a d).length = m) := Lib.hid (by rw [push_len]; exact HLP.out.1)
        have HDB2 : Hid (1 ≤ d ∧ d ≤ 2251799813685248) := Lib.hid (by have := HDB.out; omega)
        clear HLE2 HDD HDB HR0 HPA HPR HAQ HI HRV
        obtain ⟨u, hu⟩ : ∃ u, hd n ys a = u := ⟨_, rfl⟩
        have hun : u < n := by rw [← hu]; exact (hd_get HG.out a ham).2
        obtain ⟨b4, o4, e4, f4⟩ := HST2.out.1.gf.cr.r4.at a (by rw [hv_len]; have := HG.out.hm; omega)
        rw [(hd_get HG.out a ham).1, hu] at f4
        clear hu
        generalize pushL n ys L a d = Lp at HST2 HPN HTOP HLN
        obtain ⟨hT0, hT1⟩ : 0 ≤ T ∧ T < (n : Int) := by have := HG.out.len; omega
        obtain ⟨ut, g1⟩ : ∃ b, ((u : Int) == T) = b := ⟨_, rfl⟩
        have bx := HST2.out.1.gf.box.cell
        rw [e4] at bx
        clear e4
        refine wp_region_kept (by kernel_rfl) (by kernel_rfl) ?_
        repeat (go_big_quiet_step (fail))
        refine wpQuiet_nil ?_
        intro w9 hk9
        have D3 := Lib.hid (HST2.out.1.kept hk9)
        have HO3 := Lib.hid HST2.out.2
        have HB3 := Lib.hid (HO3.out.2.2.2.2.kept hk9)
        clear hk9 HST2 f4 g1 bx
        go_upto_if 94 with (fail)
        go_cut [] from 95 to 103 (fun wx => ∃ (es2 : List Int) (g' : Int), Hid (es2.length = n ∧ es2.getD T.toNat 0 = g' ∧ g ≤ g' ∧ 0 ≤ g' ∧ g' ≤ 1000 * ((j + 1 : Nat) : Int)) ∧ Hid (DZ N S T n m a3 a4 a5 a6 a7 a8 c3 c4 c5 c6 c7 c8 w B Z ys cb (some ⟨q, 0, none⟩) Lp hb hs eb es2 wb g s wx ∧ (w.heap.size ≤ q ∧ B ≤ q ∧ q < Z ∧ ¬ cb = q ∧ Blk wx q (lv Lp ++ rest).toArray 2)))
        case first =>
          cases ut with
          | true =>
            have bx := D3.out.gf.box.cell
            obtain ⟨dm, hdm⟩ : ∃ dm, d.tmod 1000 = dm := ⟨_, rfl⟩
            have hdb : 0 ≤ dm ∧ dm < 1000 := by rw [← hdm, Int.tmod_eq_emod_of_nonneg (by have := HDB2.out; omega)]; omega
            have ce : w9.cell? ⟨eb, T.toNat, none⟩ = some (.int .i64 g) := by
              rw [D3.out.e.cell]
              simp only [List.getElem?_toArray]
              rw [lv_get (by rw [HE.out.1]; omega), HE.out.2.1]
            have fe := D3.out.e.free T.toNat
            have HE2 : Hid ((es.set T.toNat (g + dm)).length = n ∧ (es.set T.toNat (g + dm)).getD T.toNat 0 = g + dm ∧ g ≤ g + dm ∧ 0 ≤ g + dm ∧ g + dm ≤ 1000 * ((j + 1 : Nat) : Int)) := Lib.hid (by
              have h := HE.out
              refine ⟨by rw [List.length_set]; exact h.1, by rw [getD_set (by rw [h.1]; omega), if_pos rfl], by omega, by omega, by omega⟩)
            have hwg := show wrap64 (g + dm) = g + dm by have h := HE.out; unfold wrap64; omega
            have D4 := Lib.hid (D3.out.exc HCL.out ⟨HO3.out.1, HO3.out.2.1, HO3.out.2.2.1, HO3.out.2.2.2.1, HB3.out⟩ T.toNat (g + dm))
            have HB4 := Lib.hid (HB3.out.other (p := ⟨eb, T.toNat, none⟩) (by have h1 := D3.out.nz; have h2 := HO3.out.2.2.1; simp only; omega) (.int .i64 (g + dm)))
            clear D3 HB3 hdb
            go_wp2_with fail
            go_meet
            exact ⟨_, _, HE2, Lib.hid ⟨D4.out, HO3.out.1, HO3.out.2.1, HO3.out.2.2.1, HO3.out.2.2.2.1, HB4.out⟩⟩
          | false =>
            go_wp2_with fail
            go_meet
            exact ⟨es, g, Lib.hid (by have h := HE.out; exact ⟨h.1, h.2.1, Int.le_refl _, h.2.2.1, by omega⟩), Lib.hid ⟨D3.out, HO3.out.1, HO3.out.2.1, HO3.out.2.2.1, HO3.out.2.2.2.1, HB3.out⟩⟩
        case rest =>
          clear D3 HB3 HO3 hT0 hT1
          obtain ⟨es2, g', HE2, HD⟩ := hcut
          have HO := Lib.hid HD.out.2
          have D2 := Lib.hid HD.out.1
          clear HD
          have HMK := Lib.hid (mark_ok N S T n m a3 a4 a5 a6 a7 a8 c3 c4 c5 c6 c7 c8 ys (some ⟨q, 0, none⟩) rc Lp (some ⟨eb, 0, none⟩) n es2 none 0 0 wc HG.out HLN.out D2.out.gf.cr D2.out.gf.rs (Rd.blk D2.out.e) HE2.out.1)
          have bx := D2.out.gf.box.cell
          go_wp2_with fail
          refine HMK.out.mono ?_
          rintro e W10 ⟨X2, rfl, hX2, hk⟩
          have D3 := Lib.hid (D2.out.kept hk)
          have HX2 := Lib.hid hX2
          have HO3 : Hid (w.heap.size ≤ q ∧ B ≤ q ∧ q < Z ∧ ¬ cb = q ∧ Blk W10 q (lv Lp ++ rest).toArray 2) := Lib.hid ⟨HO.out.1, HO.out.2.1, HO.out.2.2.1, HO.out.2.2.2.1, HO.out.2.2.2.2.kept hk⟩
          rw [HE2.out.2.1]
          obtain ⟨s2, hs2⟩ : ∃ s2, X2.sum = s2 := ⟨_, rfl⟩
          rw [hs2]
          have HS2 := Lib.hid hs2
          clear hk hX2 HMK D2 HO hs2 bx
          go_upto_region 17 with (fail)
          have HKA : Hid (Kept W10 (W10.alloc (.cells #[.int .i64 g', .int .i64 s2] 48))) := Lib.hid ((Upd.refl _ _).alloc _)
          have HNB := Lib.hid (Blk.new W10 #[.int .i64 g', .int .i64 s2] 48)
          generalize (W10.alloc (.cells #[.int .i64 g', .int .i64 s2] 48)) = W11 at HKA HNB ⊢
          generalize W10.heap.size = nb at HNB ⊢
          have D4 := Lib.hid (D3.out.kept HKA.out)
          have HO4 : Hid (w.heap.size ≤ q ∧ B ≤ q ∧ q < Z ∧ ¬ cb = q ∧ Blk W11 q (lv Lp ++ rest).toArray 2) := Lib.hid ⟨HO3.out.1, HO3.out.2.1, HO3.out.2.2.1, HO3.out.2.2.2.1, HO3.out.2.2.2.2.kept HKA.out⟩
          clear D3 HO3 HKA
          have HXC := Lib.hid (show Calls Try.prog 25 #[.agg #[.int .i64 N, .int .i64 S, .int .i64 T, .slice a3 (n + 1) c3, .slice a4 m c4, .slice a5 m c5, .slice a6 m c6, .slice a7 m c7, .slice a8 m c8], .slice (some ⟨q, 0, none⟩) m rc, .int .i64 1] W11 (ExactEnd W11 N S T n m ys Lp) from exact_ok N S T n m a3 a4 a5 a6 a7 a8 c3 c4 c5 c6 c7 c8 ys (some ⟨q, 0, none⟩) rc Lp 1 W11 HG.out HLN.out D4.out.gf.cr D4.out.gf.rs (by omega) (by omega))
          have bx := D4.out.gf.box.cell
          go_wp2_with fail
          refine HXC.out.mono ?_
          rintro e W12 ⟨xb, X3, rfl, hX3, hB, hge, hk⟩
          obtain rfl := HX2.out.unique hX3
          have DN := Lib.hid (D4.out.next hk hB hge)
          have RHO := Lib.hid (D4.out.kept hk).h
          have HO5 : Hid (w.heap.size ≤ q ∧ B ≤ q ∧ q < Z ∧ ¬ cb = q ∧ Blk W12 q (lv Lp ++ rest).toArray 2) := Lib.hid ⟨HO4.out.1, HO4.out.2.1, HO4.out.2.2.1, HO4.out.2.2.2.1, HO4.out.2.2.2.2.kept hk⟩
          have HN5 := Lib.hid (HNB.out.kept hk)
          clear hX3 hB hge hk HXC D4 HO4 HNB bx
          have hnN : ((n : Int) != N) = false := by have := HG.out.len.1; simp; omega
          have HLE := Lib.hid (HTOP X2 HX2.out).out
          have hris : riB g' s2 g s = false := not_risen HE2.out.2.2.1 (by
            rw [← HS2.out, ← HE.out.2.2.2.2]
            exact sum_mono hs X2 (by rw [HXL.out.len, HX2.out.len]) (by rw [HXL.out.len]; exact HLE.out))
          have bx := DN.out.gf.box.cell
          have mx := DN.out.m.cell
          have nx := HN5.out.cell
          go_wp2_with fail
          refine (risen_any _ _ _ _ _).mono ?_
          rintro e W13 ⟨rfl, hk⟩
          rw [hris]
          have DM := Lib.hid (DN.out.kept hk)
          have RHM := Lib.hid (RHO.out.kept hk)
          have HO6 : Hid (w.heap.size ≤ q ∧ B ≤ q ∧ q < Z ∧ ¬ cb = q ∧ Blk W13 q (lv Lp ++ rest).toArray 2) := Lib.hid ⟨HO5.out.1, HO5.out.2.1, HO5.out.2.2.1, HO5.out.2.2.2.1, HO5.out.2.2.2.2.kept hk⟩
          have HN6 := Lib.hid (HN5.out.kept hk)
          clear hk hris bx mx nx DN RHO HO5 HN5 HTOP hnN
          go_wp2_with fail
          go_loopw [124] (fun z wr => ∃ v : Nat, z = .int .i64 v ∧ v ≤ n ∧ Hid (Kept W13 wr)) (fun z _ => n - (intOf z).toNat)
          case atStart => exact ⟨0, rfl, by omega, Lib.hid (Upd.refl _ _)⟩
          case round =>
            obtain ⟨v, rfl, hv, HK⟩ := hrel
            by_cases hvn : v < n
            · have i1 : (0 : Int) ≤ (v : Int) := by omega
              have i2 : (v : Int) < (n : Int) := by omega
              obtain ⟨xb', xo, ex, xc⟩ := (DM.out.h.kept HK.out).num (i := v) (by rw [HX2.out.len]; exact hvn)
              cases ex
              rw [Nat.zero_add] at xc
              obtain ⟨ob', oo, eo, oc⟩ := (RHM.out.kept HK.out).num (i := v) (by rw [HXL.out.len]; exact hvn)
              cases eo
              rw [Nat.zero_add] at oc
              have hle := HLE.out v hvn
              generalize X2.getD v 0 = x1 at xc hle
              generalize hs.getD v 0 = h1 at oc hle
              have g1 : decide (x1 < h1) = false := decide_eq_false (by omega)
              clear hle
              go_upto_region 23 with (fail)
              refine wp_region_kept (by kernel_rfl) (by kernel_rfl) ?_
              repeat (go_big_quiet_step (fail))
              refine wpQuiet_nil ?_
              intro w9 hk9
              have HK9 := Lib.hid (HK.out.trans hk9)
              clear hk9
              go_wp2_with fail
              go_roundw
              case rel => exact ⟨v + 1, by go_num, by omega, HK9⟩
              case measure => simp [intOf]; omega
            · obtain rfl : n = v := by omega
              have D7 := Lib.hid (DM.out.kept HK.out)
              have HO7 : Hid (w.heap.size ≤ q ∧ B ≤ q ∧ q < Z ∧ ¬ cb = q ∧ Blk wr q (lv Lp ++ rest).toArray 2) := Lib.hid ⟨HO6.out.1, HO6.out.2.1, HO6.out.2.2.1, HO6.out.2.2.2.1, HO6.out.2.2.2.2.kept HK.out⟩
              have HN7 := Lib.hid (HN6.out.kept HK.out)
              clear DM HO6 HN6 RHM HK
              have mx := D7.out.m.cell
              have fx := D7.out.m.free
              have nx := HN7.out.cell
              go_upto_region 26 with (fail)
              go_still_tail 3, (by kernel_rfl)
              change wpList _ _ _ _ _ wr.drew
              have D8 := Lib.hid (D7.out.kept (Upd.refl _ _).drew)
              have HO8 : Hid (w.heap.size ≤ q ∧ B ≤ q ∧ q < Z ∧ ¬ cb = q ∧ Blk wr.drew q (lv Lp ++ rest).toArray 2) := Lib.hid ⟨HO7.out.1, HO7.out.2.1, HO7.out.2.2.1, HO7.out.2.2.2.1, HO7.out.2.2.2.2.drew⟩
              clear D7 HO7 HN7 mx fx nx
              generalize wr.drew = W14 at D8 HO8 ⊢
              have D9 := Lib.hid (D8.out.mark HCL.out HO8.out g' s2)
              have mx := D8.out.m.cell
              have fx := D8.out.m.free
              clear D8 HO8
              go_wp2_with fail
              go_roundw
              case rel => exact ⟨j + 1, xb, Lp, X2, es2, g', s2, rfl, by go_num, by omega, Lib.hid ⟨HLN.out, HPN.out⟩, HX2, Lib.hid ⟨HE2.out.1, HE2.out.2.1, HE2.out.2.2.2.1, HE2.out.2.2.2.2, HS2.out⟩, D9⟩
              case measure => simp [intOf]; omega
    · obtain rfl : mv = j := by omega
      go_wp2_with fail
      refine (awake20_any _).mono ?_
      rintro e Wz ⟨rfl, hkz⟩
      have HKZ := Lib.hid (D0.out.kp.trans hkz)
      clear hkz
      go_wp2_with fail
      go_ret
      exact ⟨rfl, HKZ.out⟩
theorem globalsDown_walk (N S T : Int) (a : Option Addr) (cap : Nat) (els : List (List Value)) (s1 : Option Addr) (cap1 : Nat) (z1 : List Int) (s2 : Option Addr) (cap2 : Nat) (z2 : List Int) (w : World) (_wN : (Lit.int .i64 N).wf = true) (_wS : (Lit.int .i64 S).wf = true) (_wT : (Lit.int .i64 T).wf = true) (hrow : FlatRow [some .i64, some .i64, some .i64] w a cap els) (_hf : ∀ x ∈ els, fits [some .i64, some .i64, some .i64] x)
    (w1 : IntRow .i64 w s1 cap1 z1) (m1 : ∀ n ∈ z1, (Lit.int .i64 n).wf = true) (w2 : IntRow .u8 w s2 cap2 z2) (m2 : ∀ n ∈ z2, (Lit.int .u8 n).wf = true) :
    Calls Try.prog 7 #[.agg #[.int .i64 N, .int .i64 S, .int .i64 T, .slice a els.length cap], .slice s1 z1.length cap1, .slice s2 z2.length cap2] w fun e w' => e = .returned (.bool true) ∧ Kept w w' := by
  obtain ⟨xs, hl, hA, hx⟩ := ars_of_flat hrow
  have hle := hrow.le
  have hmo := hrow.most
  have l1 := w1.le
  have l1' := w1.most
  have l2 := w2.le
  have l2' := w2.most
  unfold maxLen at hmo l1' l2'
  exact globalsDown_core N S T a els.length cap xs s1 cap1 z1 s2 cap2 z2 w hA hl hle hmo (fun x hx0 => bounds_i64 (hx x hx0).2.2) w1.rd (fun x hx0 => bounds_i64 (m1 x hx0)) (by omega) w2.rd (fun x hx0 => bounds_u8 (m2 x hx0)) (by omega) (by omega)
end Go.Proofs.Yticeionjlknlcaa
