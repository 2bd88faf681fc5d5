/- relaxed.state.does (printed by gen_reldoes.py) -/
import Derived.Test.YtdhimfkmgcfohaaRelLegal2
import Derived.Test.YtdhimfkmgcfohaaQuietTail
import Derived.Deep.CutRange
import Derived.Deep.RegionHeld3
import Derived.Deep.MidRow
import Derived.Deep.Onto
import Derived.Laws.OwnMore
import Derived.Deep.AppendLies
namespace Go.Proofs.Ytdhimfkmgcfohaa
set_option linter.unusedVariables false
set_option linter.unusedSimpArgs false
open Go.RowKit
attribute [local go_sem] cell?_ext

theorem updCellO (w : World) (b o : Nat) (u : Value) : Upd (fun k => k = b) w (w.setCell ⟨b, o, none⟩ u) := Upd.setCell (S := fun k => k = b) (p := ⟨b, o, none⟩) (Upd.refl _ _) (.inl rfl) u
theorem OwnP.setR {W : World} {base : Nat} {p : PS} {n m g : Nat} {ea : Option Addr} {za : Option Addr} {rc ec zc : Nat} (h : OwnP W base p n m (some ⟨g, 0, none⟩) rc ea ec za zc) (i : Nat) (x : Int) :
    OwnP (W.setCell ⟨g, i, none⟩ (.int .i64 x)) base ⟨p.rs.set i x, p.es, p.hs⟩ n m (some ⟨g, 0, none⟩) rc ea ec za zc := by
  have hu := updCellO W g i (.int .i64 x)
  have hok : p.rs.length = m ∧ p.es.length = n ∧ p.hs.length = n := h.ok
  have hr := h.r.stored i (.int .i64 x)
  rw [show (lv p.rs).set i (.int .i64 x) = lv (p.rs.set i x) by simp [lv, List.map_set]] at hr
  exact ⟨hr.1, ownsRow_far h.e hu (fun k h1 e => h.far g rfl (by rw [h1, e])), ownsRow_far h.z hu (fun k h1 e => rows_ne h.r h.z (by decide) g rfl (by rw [h1, e])), ⟨by simpa using hok.1, hok.2.1, hok.2.2⟩, h.far⟩
theorem OwnP.setE {W : World} {base : Nat} {p : PS} {n m g : Nat} {ra : Option Addr} {za : Option Addr} {rc ec zc : Nat} (h : OwnP W base p n m ra rc (some ⟨g, 0, none⟩) ec za zc) (i : Nat) (x : Int) :
    OwnP (W.setCell ⟨g, i, none⟩ (.int .i64 x)) base ⟨p.rs, p.es.set i x, p.hs⟩ n m ra rc (some ⟨g, 0, none⟩) ec za zc := by
  have hu := updCellO W g i (.int .i64 x)
  have hok : p.rs.length = m ∧ p.es.length = n ∧ p.hs.length = n := h.ok
  have hr := h.e.stored i (.int .i64 x)
  rw [show (lv p.es).set i (.int .i64 x) = lv (p.es.set i x) by simp [lv, List.map_set]] at hr
  exact ⟨ownsRow_far h.r hu (fun k h1 e => h.far g (by rw [h1, e]) rfl), hr.1, ownsRow_far h.z hu (fun k h1 e => rows_ne h.e h.z (by decide) g rfl (by rw [h1, e])), ⟨hok.1, by simpa using hok.2.1, hok.2.2⟩, h.far⟩
theorem OwnP.setZ {W : World} {base : Nat} {p : PS} {n m g : Nat} {ra : Option Addr} {ea : Option Addr} {rc ec zc : Nat} (h : OwnP W base p n m ra rc ea ec (some ⟨g, 0, none⟩) zc) (i : Nat) (x : Int) :
    OwnP (W.setCell ⟨g, i, none⟩ (.int .i64 x)) base ⟨p.rs, p.es, p.hs.set i x⟩ n m ra rc ea ec (some ⟨g, 0, none⟩) zc := by
  have hu := updCellO W g i (.int .i64 x)
  have hok : p.rs.length = m ∧ p.es.length = n ∧ p.hs.length = n := h.ok
  have hr := h.z.stored i (.int .i64 x)
  rw [show (lv p.hs).set i (.int .i64 x) = lv (p.hs.set i x) by simp [lv, List.map_set]] at hr
  exact ⟨ownsRow_far h.r hu (fun k h1 e => rows_ne h.r h.z (by decide) g (by rw [h1, e]) rfl), ownsRow_far h.e hu (fun k h1 e => rows_ne h.e h.z (by decide) g (by rw [h1, e]) rfl), hr.1, ⟨hok.1, hok.2.1, by simpa using hok.2.2⟩, h.far⟩
/-- The blocks of a state's rows. -/
def OB (n m : Nat) (ra : Option Addr) (rc : Nat) (ea : Option Addr) (ec : Nat) (za : Option Addr) (zc : Nat) (j : Nat) : Prop := (Value.slice ra m rc).ownBlock = some j ∨ (Value.slice ea n ec).ownBlock = some j ∨ (Value.slice za n zc).ownBlock = some j
/-- A block of another kind is none of these. -/
theorem OwnP.box {w : World} {base : Nat} {p : PS} {n m : Nat} {ra : Option Addr} {rc : Nat} {ea : Option Addr} {ec : Nat} {za : Option Addr} {zc : Nat} (h : OwnP w base p n m ra rc ea ec za zc) {b : Nat} {arr : Array Value} {T : TypeId} (hb : Blk w b arr T) (h1 : 2 ≠ T) (h2 : 3 ≠ T) : ¬ OB n m ra rc ea ec za zc b := by
  rintro (e | e | e)
  · exact blk_row_ne hb h.r h1 e
  · exact blk_row_ne hb h.e h1 e
  · exact blk_row_ne hb h.z h2 e
theorem OwnP.ge {w : World} {base : Nat} {p : PS} {n m : Nat} {ra : Option Addr} {rc : Nat} {ea : Option Addr} {ec : Nat} {za : Option Addr} {zc : Nat} (h : OwnP w base p n m ra rc ea ec za zc) {b : Nat} (hb : OB n m ra rc ea ec za zc b) : base ≤ b ∧ b < w.heap.size := by
  rcases hb with e | e | e
  · exact World.ownsRow.lt h.r b e
  · exact World.ownsRow.lt h.e b e
  · exact World.ownsRow.lt h.z b e
set_option maxRecDepth 100000 in
set_option maxHeartbeats 4000000 in
theorem does_any (N S T : Int) (n m : Nat) (a3 a4 a5 a6 a7 a8 : Option Addr) (c3 c4 c5 c6 c7 c8 : Nat) (ys : List Ar) (p : PS) (ra : Option Addr) (rc : Nat) (ea : Option Addr) (ec : Nat) (za : Option Addr) (zc : Nat) (who wt u ar d h lo : Int) (w0 w : World) (hg : Gr N S T n m ys) (hcr : CsrR w0 n ys a3 a4 a5 a6 a7 a8) (hk : Kept w0 w) (hO : OwnP w w0.heap.size p n m ra rc ea ec za zc) (hu0 : 0 ≤ u) (hu1 : u < N) (hpu : wt ≠ 2 → 0 ≤ ar ∧ ar < m) :
    Calls Try.prog 43 #[.agg #[.int .i64 N, .int .i64 S, .int .i64 T, .slice a3 (n + 1) c3, .slice a4 m c4, .slice a5 m c5, .slice a6 m c6, .slice a7 m c7, .slice a8 m c8, .slice ra m rc, .slice ea n ec, .slice za n zc], .agg #[.int .i64 who, .int .u8 wt, .int .i64 u, .int .i64 ar, .int .i64 d, .int .i64 h, .int .i64 lo]] w fun e w' => e = .returned (.tuple #[]) ∧ OwnP w' w0.heap.size (doesP n ys p ⟨who, wt, u, ar, d, h, lo⟩) n m ra rc ea ec za zc ∧ Kept w0 w' ∧ Upd (OB n m ra rc ea ec za zc) w w' := by
  obtain ⟨hN, hn2, hn16, hm640, -⟩ := hg.len
  obtain ⟨eg, ecc, e1, -⟩ := hO.e.form (by omega)
  cases e1
  obtain ⟨zg, zcc, e2, -⟩ := hO.z.form (by omega)
  cases e2
  have HK := Lib.hid (((Upd.refl (fun _ => False) w).alloc (.cells #[.int .i64 N, .int .i64 S, .int .i64 T, .slice a3 (n + 1) c3, .slice a4 m c4, .slice a5 m c5, .slice a6 m c6, .slice a7 m c7, .slice a8 m c8, .slice ra m rc, .slice (some ⟨eg, 0, none⟩) n ec, .slice (some ⟨zg, 0, none⟩) n zc] 73)).alloc (.cells #[.int .i64 who, .int .u8 wt, .int .i64 u, .int .i64 ar, .int .i64 d, .int .i64 h, .int .i64 lo] 39))
  have HB := Lib.hid ((Blk.new w #[.int .i64 N, .int .i64 S, .int .i64 T, .slice a3 (n + 1) c3, .slice a4 m c4, .slice a5 m c5, .slice a6 m c6, .slice a7 m c7, .slice a8 m c8, .slice ra m rc, .slice (some ⟨eg, 0, none⟩) n ec, .slice (some ⟨zg, 0, none⟩) n zc] 73).alloc (.cells #[.int .i64 who, .int .u8 wt, .int .i64 u, .int .i64 ar, .int .i64 d, .int .i64 h, .int .i64 lo] 39))
  have HE := Lib.hid (Blk.new (w.alloc (.cells #[.int .i64 N, .int .i64 S, .int .i64 T, .slice a3 (n + 1) c3, .slice a4 m c4, .slice a5 m c5, .slice a6 m c6, .slice a7 m c7, .slice a8 m c8, .slice ra m rc, .slice (some ⟨eg, 0, none⟩) n ec, .slice (some ⟨zg, 0, none⟩) n zc] 73)) #[.int .i64 who, .int .u8 wt, .int .i64 u, .int .i64 ar, .int .i64 d, .int .i64 h, .int .i64 lo] 39)
  have hs1 : (w.alloc (.cells #[.int .i64 N, .int .i64 S, .int .i64 T, .slice a3 (n + 1) c3, .slice a4 m c4, .slice a5 m c5, .slice a6 m c6, .slice a7 m c7, .slice a8 m c8, .slice ra m rc, .slice (some ⟨eg, 0, none⟩) n ec, .slice (some ⟨zg, 0, none⟩) n zc] 73)).heap.size = w.heap.size + 1 := World.size_alloc _ _
  rw [hs1] at HE
  have HG := Lib.hid hg
  have HCR := Lib.hid hcr
  have HKW := Lib.hid hk
  have HO := Lib.hid hO
  have hnn : (n : Int) = N := hN
  clear hg hcr hk hO hN hn2
  go_enter Try.func43, Try.ntmps43
  go_upto_region 1 with (fail)
  try rw [hs1]
  clear hs1
  have X0 : Hid (Kept w0 ((w.alloc (.cells #[.int .i64 N, .int .i64 S, .int .i64 T, .slice a3 (n + 1) c3, .slice a4 m c4, .slice a5 m c5, .slice a6 m c6, .slice a7 m c7, .slice a8 m c8, .slice ra m rc, .slice (some ⟨eg, 0, none⟩) n ec, .slice (some ⟨zg, 0, none⟩) n zc] 73)).alloc (.cells #[.int .i64 who, .int .u8 wt, .int .i64 u, .int .i64 ar, .int .i64 d, .int .i64 h, .int .i64 lo] 39)) ∧ OwnP ((w.alloc (.cells #[.int .i64 N, .int .i64 S, .int .i64 T, .slice a3 (n + 1) c3, .slice a4 m c4, .slice a5 m c5, .slice a6 m c6, .slice a7 m c7, .slice a8 m c8, .slice ra m rc, .slice (some ⟨eg, 0, none⟩) n ec, .slice (some ⟨zg, 0, none⟩) n zc] 73)).alloc (.cells #[.int .i64 who, .int .u8 wt, .int .i64 u, .int .i64 ar, .int .i64 d, .int .i64 h, .int .i64 lo] 39)) w0.heap.size p n m ra rc (some ⟨eg, 0, none⟩) ec (some ⟨zg, 0, none⟩) zc ∧ Blk ((w.alloc (.cells #[.int .i64 N, .int .i64 S, .int .i64 T, .slice a3 (n + 1) c3, .slice a4 m c4, .slice a5 m c5, .slice a6 m c6, .slice a7 m c7, .slice a8 m c8, .slice ra m rc, .slice (some ⟨eg, 0, none⟩) n ec, .slice (some ⟨zg, 0, none⟩) n zc] 73)).alloc (.cells #[.int .i64 who, .int .u8 wt, .int .i64 u, .int .i64 ar, .int .i64 d, .int .i64 h, .int .i64 lo] 39)) w.heap.size #[.int .i64 N, .int .i64 S, .int .i64 T, .slice a3 (n + 1) c3, .slice a4 m c4, .slice a5 m c5, .slice a6 m c6, .slice a7 m c7, .slice a8 m c8, .slice ra m rc, .slice (some ⟨eg, 0, none⟩) n ec, .slice (some ⟨zg, 0, none⟩) n zc] 73 ∧ Blk ((w.alloc (.cells #[.int .i64 N, .int .i64 S, .int .i64 T, .slice a3 (n + 1) c3, .slice a4 m c4, .slice a5 m c5, .slice a6 m c6, .slice a7 m c7, .slice a8 m c8, .slice ra m rc, .slice (some ⟨eg, 0, none⟩) n ec, .slice (some ⟨zg, 0, none⟩) n zc] 73)).alloc (.cells #[.int .i64 who, .int .u8 wt, .int .i64 u, .int .i64 ar, .int .i64 d, .int .i64 h, .int .i64 lo] 39)) (w.heap.size + 1) #[.int .i64 who, .int .u8 wt, .int .i64 u, .int .i64 ar, .int .i64 d, .int .i64 h, .int .i64 lo] 39 ∧ Upd (OB n m ra rc (some ⟨eg, 0, none⟩) ec (some ⟨zg, 0, none⟩) zc) w ((w.alloc (.cells #[.int .i64 N, .int .i64 S, .int .i64 T, .slice a3 (n + 1) c3, .slice a4 m c4, .slice a5 m c5, .slice a6 m c6, .slice a7 m c7, .slice a8 m c8, .slice ra m rc, .slice (some ⟨eg, 0, none⟩) n ec, .slice (some ⟨zg, 0, none⟩) n zc] 73)).alloc (.cells #[.int .i64 who, .int .u8 wt, .int .i64 u, .int .i64 ar, .int .i64 d, .int .i64 h, .int .i64 lo] 39))) := Lib.hid ⟨HKW.out.trans HK.out, HO.out.kept HK.out, HB.out, HE.out, HK.out.wide (fun _ _ f => f.elim)⟩
  clear HK HB HE HKW HO
  generalize ((w.alloc (.cells #[.int .i64 N, .int .i64 S, .int .i64 T, .slice a3 (n + 1) c3, .slice a4 m c4, .slice a5 m c5, .slice a6 m c6, .slice a7 m c7, .slice a8 m c8, .slice ra m rc, .slice (some ⟨eg, 0, none⟩) n ec, .slice (some ⟨zg, 0, none⟩) n zc] 73)).alloc (.cells #[.int .i64 who, .int .u8 wt, .int .i64 u, .int .i64 ar, .int .i64 d, .int .i64 h, .int .i64 lo] 39)) = W0 at X0 ⊢
  generalize w.heap.size + 1 = eb at X0 ⊢
  generalize w.heap.size = sb at X0 ⊢
  obtain ⟨un, rfl⟩ : ∃ k : Nat, u = (k : Int) := ⟨u.toNat, by omega⟩
  have hun : un < n := by omega
  have i1 : (un : Int) < (n : Int) := by omega
  have i2 : (0 : Int) ≤ (un : Int) := by omega
  clear hu0 hu1 hnn
  have bx := X0.out.2.2.1.cell
  have ex := X0.out.2.2.2.1.cell
  by_cases q1 : wt = 2
  · as_aux_lemma =>
    have b1 : (wt == 2) = true := by simpa using q1
    have HW := Lib.hid q1
    clear q1 hpu
    have cz : W0.cell? ⟨zg, un, none⟩ = some (.int .i64 (p.hs.getD un 0)) := by
      have h := X0.out.2.1.z.cellAt un (by omega)
      rw [h, lv_get (by have := X0.out.2.1.ok; have := this.2.2; omega)]
    have fz : W0.frozen? ⟨zg, un, none⟩ = false := X0.out.2.1.z.frozenAt un
    generalize p.hs.getD un 0 = xz at cz
    have HF : Hid (OwnP (W0.setCell ⟨zg, un, none⟩ (.int .i64 h)) w0.heap.size (doesP n ys p ⟨who, wt, (un : Int), ar, d, h, lo⟩) n m ra rc (some ⟨eg, 0, none⟩) ec (some ⟨zg, 0, none⟩) zc ∧ Kept w0 (W0.setCell ⟨zg, un, none⟩ (.int .i64 h)) ∧ Upd (OB n m ra rc (some ⟨eg, 0, none⟩) ec (some ⟨zg, 0, none⟩) zc) w (W0.setCell ⟨zg, un, none⟩ (.int .i64 h))) := Lib.hid (by
      have x := X0.out
      have hu := updCellO W0 zg un (.int .i64 h)
      have hw : Upd (OB n m ra rc (some ⟨eg, 0, none⟩) ec (some ⟨zg, 0, none⟩) zc) W0 (W0.setCell ⟨zg, un, none⟩ (.int .i64 h)) := hu.wide (fun j _ e => by rw [e]; exact .inr (.inr rfl))
      refine ⟨?_, x.1.then hw (fun i hi e => by have := (x.2.1.ge e).1; omega), x.2.2.2.2.trans hw⟩
      have e : doesP n ys p ⟨who, wt, (un : Int), ar, d, h, lo⟩ = ⟨p.rs, p.es, p.hs.set un h⟩ := by unfold doesP; simp [HW.out]
      rw [e]
      exact x.2.1.setZ un h)
    clear X0
    go_wp2_with fail
    exact bodyPost_ret (v := .tuple #[]) (by simp [results, Try.results43]) rfl ⟨rfl, HF.out⟩
  · as_aux_lemma =>
    have b1 : (wt == 2) = false := by simpa using q1
    obtain ⟨ha0, ham⟩ := hpu q1
    obtain ⟨an, rfl⟩ : ∃ k : Nat, ar = (k : Int) := ⟨ar.toNat, by omega⟩
    have hanm : an < m := by omega
    obtain ⟨rg, rcc, e1, -⟩ := X0.out.2.1.r.form (by omega)
    cases e1
    have HW := Lib.hid q1
    obtain ⟨hrv, hrvm, -⟩ := rv_facts HG.out an hanm
    obtain ⟨hhd, hhdn⟩ := hd_get HG.out an hanm
    obtain ⟨b5, o5, rfl, k5⟩ := HCR.out.r5.at an (List.getElem?_eq_some_iff.1 hrv).1
    obtain ⟨b4, o4, rfl, k4⟩ := HCR.out.r4.at an (List.getElem?_eq_some_iff.1 hhd).1
    rw [hrv] at k5
    rw [hhd] at k4
    have HDE : Hid (doesP n ys p ⟨who, wt, (un : Int), (an : Int), d, h, lo⟩ = ⟨plusAt (plusAt p.rs an (-d)) (rv n ys an) d, plusAt (plusAt p.es un (-d)) (hd n ys an) d, p.hs⟩) := Lib.hid (by unfold doesP; simp [HW.out])
    generalize rv n ys an = rn at hrvm k5 HDE
    generalize hd n ys an = hn at hhdn k4 HDE
    have i3 : (an : Int) < (m : Int) := by omega
    have i4 : (0 : Int) ≤ (an : Int) := by omega
    have i5 : (rn : Int) < (m : Int) := by omega
    have i6 : (0 : Int) ≤ (rn : Int) := by omega
    have i7 : (hn : Int) < (n : Int) := by omega
    have i8 : (0 : Int) ≤ (hn : Int) := by omega
    clear q1 hpu hrv hhd ha0 ham
    obtain ⟨l1, l2, l3⟩ := (show p.rs.length = m ∧ p.es.length = n ∧ p.hs.length = n from X0.out.2.1.ok)
    have HLL := Lib.hid (And.intro l1 l2)
    clear l1 l2 l3
    have cA : W0.cell? ⟨rg, an, none⟩ = some (.int .i64 ((p.rs).getD an 0)) := by
      have h := X0.out.2.1.r.cellAt an (by omega)
      rw [h]
      exact lv_get (by have := HLL.out.1; simp; omega)
    have fA : W0.frozen? ⟨rg, an, none⟩ = false := X0.out.2.1.r.frozenAt an
    obtain ⟨x1, hx1⟩ : ∃ x, (p.rs).getD an 0 = x := ⟨_, rfl⟩
    rw [hx1] at cA
    obtain ⟨q1, hq1⟩ : ∃ q, wrap64 (x1 - d) = q := ⟨_, rfl⟩
    have hq1' : IntKind.i64.wrap (x1 - d) = q1 := by rw [← hq1]; simp only [IntKind.wrap_i64, wrap64]
    have HQ1 : Hid (wrap64 ((p.rs).getD an 0 + -d) = q1) := Lib.hid (by rw [hx1, ← hq1]; rfl)
    clear hx1
    go_upto_region 3 with (fail)
    refine wp_region_quiet_tail 11 (by kernel_rfl) (by kernel_rfl) ?_
    simp only [List.take_succ_cons, List.take_zero, List.drop_succ_cons, List.drop_zero]
    repeat (go_big_quiet_step (fail))
    refine wpQuiet_nil ?_
    go_wp2_with fail
    have X1 : Hid (Kept w0 (W0.setCell ⟨rg, an, none⟩ (.int .i64 q1)) ∧ OwnP (W0.setCell ⟨rg, an, none⟩ (.int .i64 q1)) w0.heap.size ⟨p.rs.set an q1, p.es, p.hs⟩ n m (some ⟨rg, 0, none⟩) rc (some ⟨eg, 0, none⟩) ec (some ⟨zg, 0, none⟩) zc ∧ Blk (W0.setCell ⟨rg, an, none⟩ (.int .i64 q1)) sb #[.int .i64 N, .int .i64 S, .int .i64 T, .slice a3 (n + 1) c3, .slice (some ⟨b4, o4, none⟩) m c4, .slice (some ⟨b5, o5, none⟩) m c5, .slice a6 m c6, .slice a7 m c7, .slice a8 m c8, .slice (some ⟨rg, 0, none⟩) m rc, .slice (some ⟨eg, 0, none⟩) n ec, .slice (some ⟨zg, 0, none⟩) n zc] 73 ∧ Blk (W0.setCell ⟨rg, an, none⟩ (.int .i64 q1)) eb #[.int .i64 who, .int .u8 wt, .int .i64 (un : Int), .int .i64 (an : Int), .int .i64 d, .int .i64 h, .int .i64 lo] 39 ∧ Upd (OB n m (some ⟨rg, 0, none⟩) rc (some ⟨eg, 0, none⟩) ec (some ⟨zg, 0, none⟩) zc) w (W0.setCell ⟨rg, an, none⟩ (.int .i64 q1))) := Lib.hid (by
      have hu := updCellO W0 rg (an) (.int .i64 q1)
      have x := X0.out
      have hob : ∀ j, j = rg → OB n m (some ⟨rg, 0, none⟩) rc (some ⟨eg, 0, none⟩) ec (some ⟨zg, 0, none⟩) zc j := fun j e => by rw [e]; exact .inl rfl
      have hw : Upd (OB n m (some ⟨rg, 0, none⟩) rc (some ⟨eg, 0, none⟩) ec (some ⟨zg, 0, none⟩) zc) W0 (W0.setCell ⟨rg, an, none⟩ (.int .i64 q1)) := hu.wide (fun j _ e => hob j e)
      exact ⟨x.1.then hw (fun i hi e => by have := (x.2.1.ge e).1; omega), x.2.1.setR (an) q1, x.2.2.1.upd hw (x.2.1.box x.2.2.1 (by decide) (by decide)), x.2.2.2.1.upd hw (x.2.1.box x.2.2.2.1 (by decide) (by decide)), x.2.2.2.2.trans hw⟩)
    clear X0
    have X1 := Lib.hid (show Kept w0 (W0.setCell ⟨rg, an, none⟩ (.int .i64 q1)).drew ∧ OwnP (W0.setCell ⟨rg, an, none⟩ (.int .i64 q1)).drew w0.heap.size ⟨p.rs.set an q1, p.es, p.hs⟩ n m (some ⟨rg, 0, none⟩) rc (some ⟨eg, 0, none⟩) ec (some ⟨zg, 0, none⟩) zc ∧ Blk (W0.setCell ⟨rg, an, none⟩ (.int .i64 q1)).drew sb #[.int .i64 N, .int .i64 S, .int .i64 T, .slice a3 (n + 1) c3, .slice (some ⟨b4, o4, none⟩) m c4, .slice (some ⟨b5, o5, none⟩) m c5, .slice a6 m c6, .slice a7 m c7, .slice a8 m c8, .slice (some ⟨rg, 0, none⟩) m rc, .slice (some ⟨eg, 0, none⟩) n ec, .slice (some ⟨zg, 0, none⟩) n zc] 73 ∧ Blk (W0.setCell ⟨rg, an, none⟩ (.int .i64 q1)).drew eb #[.int .i64 who, .int .u8 wt, .int .i64 (un : Int), .int .i64 (an : Int), .int .i64 d, .int .i64 h, .int .i64 lo] 39 ∧ Upd (OB n m (some ⟨rg, 0, none⟩) rc (some ⟨eg, 0, none⟩) ec (some ⟨zg, 0, none⟩) zc) w (W0.setCell ⟨rg, an, none⟩ (.int .i64 q1)).drew from ⟨X1.out.1.drew, X1.out.2.1.kept (Upd.refl _ _).drew, X1.out.2.2.1.kept (Upd.refl _ _).drew, X1.out.2.2.2.1.kept (Upd.refl _ _).drew, X1.out.2.2.2.2.drew⟩)
    generalize (W0.setCell ⟨rg, an, none⟩ (.int .i64 q1)).drew = W1 at X1 ⊢
    clear bx ex cA
    have bx := X1.out.2.2.1.cell
    have ex := X1.out.2.2.2.1.cell
    have j5 := (keptCells X1.out.1 _ (by rw [k5]; rfl)).trans k5
    have cA : W1.cell? ⟨rg, rn, none⟩ = some (.int .i64 ((p.rs.set an q1).getD rn 0)) := by
      have h := X1.out.2.1.r.cellAt rn (by omega)
      rw [h]
      exact lv_get (by have := HLL.out.1; simp; omega)
    have fA : W1.frozen? ⟨rg, rn, none⟩ = false := X1.out.2.1.r.frozenAt rn
    obtain ⟨x2, hx2⟩ : ∃ x, (p.rs.set an q1).getD rn 0 = x := ⟨_, rfl⟩
    rw [hx2] at cA
    obtain ⟨q2, hq2⟩ : ∃ q, wrap64 (x2 + d) = q := ⟨_, rfl⟩
    have hq2' : IntKind.i64.wrap (x2 + d) = q2 := by rw [← hq2]; simp only [IntKind.wrap_i64, wrap64]
    have HQ2 : Hid (wrap64 ((p.rs.set an q1).getD rn 0 + d) = q2) := Lib.hid (by rw [hx2, ← hq2])
    clear hx2
    go_upto_region 4 with (fail)
    refine wp_region_quiet_tail 16 (by kernel_rfl) (by kernel_rfl) ?_
    simp only [List.take_succ_cons, List.take_zero, List.drop_succ_cons, List.drop_zero]
    repeat (go_big_quiet_step (fail))
    refine wpQuiet_nil ?_
    go_wp2_with fail
    have X2 : Hid (Kept w0 (W1.setCell ⟨rg, rn, none⟩ (.int .i64 q2)) ∧ OwnP (W1.setCell ⟨rg, rn, none⟩ (.int .i64 q2)) w0.heap.size ⟨(p.rs.set an q1).set rn q2, p.es, p.hs⟩ n m (some ⟨rg, 0, none⟩) rc (some ⟨eg, 0, none⟩) ec (some ⟨zg, 0, none⟩) zc ∧ Blk (W1.setCell ⟨rg, rn, none⟩ (.int .i64 q2)) sb #[.int .i64 N, .int .i64 S, .int .i64 T, .slice a3 (n + 1) c3, .slice (some ⟨b4, o4, none⟩) m c4, .slice (some ⟨b5, o5, none⟩) m c5, .slice a6 m c6, .slice a7 m c7, .slice a8 m c8, .slice (some ⟨rg, 0, none⟩) m rc, .slice (some ⟨eg, 0, none⟩) n ec, .slice (some ⟨zg, 0, none⟩) n zc] 73 ∧ Blk (W1.setCell ⟨rg, rn, none⟩ (.int .i64 q2)) eb #[.int .i64 who, .int .u8 wt, .int .i64 (un : Int), .int .i64 (an : Int), .int .i64 d, .int .i64 h, .int .i64 lo] 39 ∧ Upd (OB n m (some ⟨rg, 0, none⟩) rc (some ⟨eg, 0, none⟩) ec (some ⟨zg, 0, none⟩) zc) w (W1.setCell ⟨rg, rn, none⟩ (.int .i64 q2))) := Lib.hid (by
      have hu := updCellO W1 rg (rn) (.int .i64 q2)
      have x := X1.out
      have hob : ∀ j, j = rg → OB n m (some ⟨rg, 0, none⟩) rc (some ⟨eg, 0, none⟩) ec (some ⟨zg, 0, none⟩) zc j := fun j e => by rw [e]; exact .inl rfl
      have hw : Upd (OB n m (some ⟨rg, 0, none⟩) rc (some ⟨eg, 0, none⟩) ec (some ⟨zg, 0, none⟩) zc) W1 (W1.setCell ⟨rg, rn, none⟩ (.int .i64 q2)) := hu.wide (fun j _ e => hob j e)
      exact ⟨x.1.then hw (fun i hi e => by have := (x.2.1.ge e).1; omega), x.2.1.setR (rn) q2, x.2.2.1.upd hw (x.2.1.box x.2.2.1 (by decide) (by decide)), x.2.2.2.1.upd hw (x.2.1.box x.2.2.2.1 (by decide) (by decide)), x.2.2.2.2.trans hw⟩)
    clear X1
    have X2 := Lib.hid (show Kept w0 (W1.setCell ⟨rg, rn, none⟩ (.int .i64 q2)).drew ∧ OwnP (W1.setCell ⟨rg, rn, none⟩ (.int .i64 q2)).drew w0.heap.size ⟨(p.rs.set an q1).set rn q2, p.es, p.hs⟩ n m (some ⟨rg, 0, none⟩) rc (some ⟨eg, 0, none⟩) ec (some ⟨zg, 0, none⟩) zc ∧ Blk (W1.setCell ⟨rg, rn, none⟩ (.int .i64 q2)).drew sb #[.int .i64 N, .int .i64 S, .int .i64 T, .slice a3 (n + 1) c3, .slice (some ⟨b4, o4, none⟩) m c4, .slice (some ⟨b5, o5, none⟩) m c5, .slice a6 m c6, .slice a7 m c7, .slice a8 m c8, .slice (some ⟨rg, 0, none⟩) m rc, .slice (some ⟨eg, 0, none⟩) n ec, .slice (some ⟨zg, 0, none⟩) n zc] 73 ∧ Blk (W1.setCell ⟨rg, rn, none⟩ (.int .i64 q2)).drew eb #[.int .i64 who, .int .u8 wt, .int .i64 (un : Int), .int .i64 (an : Int), .int .i64 d, .int .i64 h, .int .i64 lo] 39 ∧ Upd (OB n m (some ⟨rg, 0, none⟩) rc (some ⟨eg, 0, none⟩) ec (some ⟨zg, 0, none⟩) zc) w (W1.setCell ⟨rg, rn, none⟩ (.int .i64 q2)).drew from ⟨X2.out.1.drew, X2.out.2.1.kept (Upd.refl _ _).drew, X2.out.2.2.1.kept (Upd.refl _ _).drew, X2.out.2.2.2.1.kept (Upd.refl _ _).drew, X2.out.2.2.2.2.drew⟩)
    generalize (W1.setCell ⟨rg, rn, none⟩ (.int .i64 q2)).drew = W2 at X2 ⊢
    clear bx ex cA
    clear j5
    have bx := X2.out.2.2.1.cell
    have ex := X2.out.2.2.2.1.cell
    have cA : W2.cell? ⟨eg, un, none⟩ = some (.int .i64 ((p.es).getD un 0)) := by
      have h := X2.out.2.1.e.cellAt un (by omega)
      rw [h]
      exact lv_get (by have := HLL.out.2; simp; omega)
    have fA : W2.frozen? ⟨eg, un, none⟩ = false := X2.out.2.1.e.frozenAt un
    obtain ⟨x3, hx3⟩ : ∃ x, (p.es).getD un 0 = x := ⟨_, rfl⟩
    rw [hx3] at cA
    obtain ⟨q3, hq3⟩ : ∃ q, wrap64 (x3 - d) = q := ⟨_, rfl⟩
    have hq3' : IntKind.i64.wrap (x3 - d) = q3 := by rw [← hq3]; simp only [IntKind.wrap_i64, wrap64]
    have HQ3 : Hid (wrap64 ((p.es).getD un 0 + -d) = q3) := Lib.hid (by rw [hx3, ← hq3]; rfl)
    clear hx3
    go_upto_region 5 with (fail)
    refine wp_region_quiet_tail 11 (by kernel_rfl) (by kernel_rfl) ?_
    simp only [List.take_succ_cons, List.take_zero, List.drop_succ_cons, List.drop_zero]
    repeat (go_big_quiet_step (fail))
    refine wpQuiet_nil ?_
    go_wp2_with fail
    have X3 : Hid (Kept w0 (W2.setCell ⟨eg, un, none⟩ (.int .i64 q3)) ∧ OwnP (W2.setCell ⟨eg, un, none⟩ (.int .i64 q3)) w0.heap.size ⟨(p.rs.set an q1).set rn q2, p.es.set un q3, p.hs⟩ n m (some ⟨rg, 0, none⟩) rc (some ⟨eg, 0, none⟩) ec (some ⟨zg, 0, none⟩) zc ∧ Blk (W2.setCell ⟨eg, un, none⟩ (.int .i64 q3)) sb #[.int .i64 N, .int .i64 S, .int .i64 T, .slice a3 (n + 1) c3, .slice (some ⟨b4, o4, none⟩) m c4, .slice (some ⟨b5, o5, none⟩) m c5, .slice a6 m c6, .slice a7 m c7, .slice a8 m c8, .slice (some ⟨rg, 0, none⟩) m rc, .slice (some ⟨eg, 0, none⟩) n ec, .slice (some ⟨zg, 0, none⟩) n zc] 73 ∧ Blk (W2.setCell ⟨eg, un, none⟩ (.int .i64 q3)) eb #[.int .i64 who, .int .u8 wt, .int .i64 (un : Int), .int .i64 (an : Int), .int .i64 d, .int .i64 h, .int .i64 lo] 39 ∧ Upd (OB n m (some ⟨rg, 0, none⟩) rc (some ⟨eg, 0, none⟩) ec (some ⟨zg, 0, none⟩) zc) w (W2.setCell ⟨eg, un, none⟩ (.int .i64 q3))) := Lib.hid (by
      have hu := updCellO W2 eg (un) (.int .i64 q3)
      have x := X2.out
      have hob : ∀ j, j = eg → OB n m (some ⟨rg, 0, none⟩) rc (some ⟨eg, 0, none⟩) ec (some ⟨zg, 0, none⟩) zc j := fun j e => by rw [e]; exact .inr (.inl rfl)
      have hw : Upd (OB n m (some ⟨rg, 0, none⟩) rc (some ⟨eg, 0, none⟩) ec (some ⟨zg, 0, none⟩) zc) W2 (W2.setCell ⟨eg, un, none⟩ (.int .i64 q3)) := hu.wide (fun j _ e => hob j e)
      exact ⟨x.1.then hw (fun i hi e => by have := (x.2.1.ge e).1; omega), x.2.1.setE (un) q3, x.2.2.1.upd hw (x.2.1.box x.2.2.1 (by decide) (by decide)), x.2.2.2.1.upd hw (x.2.1.box x.2.2.2.1 (by decide) (by decide)), x.2.2.2.2.trans hw⟩)
    clear X2
    have X3 := Lib.hid (show Kept w0 (W2.setCell ⟨eg, un, none⟩ (.int .i64 q3)).drew ∧ OwnP (W2.setCell ⟨eg, un, none⟩ (.int .i64 q3)).drew w0.heap.size ⟨(p.rs.set an q1).set rn q2, p.es.set un q3, p.hs⟩ n m (some ⟨rg, 0, none⟩) rc (some ⟨eg, 0, none⟩) ec (some ⟨zg, 0, none⟩) zc ∧ Blk (W2.setCell ⟨eg, un, none⟩ (.int .i64 q3)).drew sb #[.int .i64 N, .int .i64 S, .int .i64 T, .slice a3 (n + 1) c3, .slice (some ⟨b4, o4, none⟩) m c4, .slice (some ⟨b5, o5, none⟩) m c5, .slice a6 m c6, .slice a7 m c7, .slice a8 m c8, .slice (some ⟨rg, 0, none⟩) m rc, .slice (some ⟨eg, 0, none⟩) n ec, .slice (some ⟨zg, 0, none⟩) n zc] 73 ∧ Blk (W2.setCell ⟨eg, un, none⟩ (.int .i64 q3)).drew eb #[.int .i64 who, .int .u8 wt, .int .i64 (un : Int), .int .i64 (an : Int), .int .i64 d, .int .i64 h, .int .i64 lo] 39 ∧ Upd (OB n m (some ⟨rg, 0, none⟩) rc (some ⟨eg, 0, none⟩) ec (some ⟨zg, 0, none⟩) zc) w (W2.setCell ⟨eg, un, none⟩ (.int .i64 q3)).drew from ⟨X3.out.1.drew, X3.out.2.1.kept (Upd.refl _ _).drew, X3.out.2.2.1.kept (Upd.refl _ _).drew, X3.out.2.2.2.1.kept (Upd.refl _ _).drew, X3.out.2.2.2.2.drew⟩)
    generalize (W2.setCell ⟨eg, un, none⟩ (.int .i64 q3)).drew = W3 at X3 ⊢
    clear bx ex cA
    have bx := X3.out.2.2.1.cell
    have ex := X3.out.2.2.2.1.cell
    have j4 := (keptCells X3.out.1 _ (by rw [k4]; rfl)).trans k4
    have cA : W3.cell? ⟨eg, hn, none⟩ = some (.int .i64 ((p.es.set un q3).getD hn 0)) := by
      have h := X3.out.2.1.e.cellAt hn (by omega)
      rw [h]
      exact lv_get (by have := HLL.out.2; simp; omega)
    have fA : W3.frozen? ⟨eg, hn, none⟩ = false := X3.out.2.1.e.frozenAt hn
    obtain ⟨x4, hx4⟩ : ∃ x, (p.es.set un q3).getD hn 0 = x := ⟨_, rfl⟩
    rw [hx4] at cA
    obtain ⟨q4, hq4⟩ : ∃ q, wrap64 (x4 + d) = q := ⟨_, rfl⟩
    have hq4' : IntKind.i64.wrap (x4 + d) = q4 := by rw [← hq4]; simp only [IntKind.wrap_i64, wrap64]
    have HQ4 : Hid (wrap64 ((p.es.set un q3).getD hn 0 + d) = q4) := Lib.hid (by rw [hx4, ← hq4])
    clear hx4
    go_upto_region 6 with (fail)
    refine wp_region_quiet_tail 16 (by kernel_rfl) (by kernel_rfl) ?_
    simp only [List.take_succ_cons, List.take_zero, List.drop_succ_cons, List.drop_zero]
    repeat (go_big_quiet_step (fail))
    refine wpQuiet_nil ?_
    go_wp2_with fail
    have X4 : Hid (Kept w0 (W3.setCell ⟨eg, hn, none⟩ (.int .i64 q4)) ∧ OwnP (W3.setCell ⟨eg, hn, none⟩ (.int .i64 q4)) w0.heap.size ⟨(p.rs.set an q1).set rn q2, (p.es.set un q3).set hn q4, p.hs⟩ n m (some ⟨rg, 0, none⟩) rc (some ⟨eg, 0, none⟩) ec (some ⟨zg, 0, none⟩) zc ∧ Blk (W3.setCell ⟨eg, hn, none⟩ (.int .i64 q4)) sb #[.int .i64 N, .int .i64 S, .int .i64 T, .slice a3 (n + 1) c3, .slice (some ⟨b4, o4, none⟩) m c4, .slice (some ⟨b5, o5, none⟩) m c5, .slice a6 m c6, .slice a7 m c7, .slice a8 m c8, .slice (some ⟨rg, 0, none⟩) m rc, .slice (some ⟨eg, 0, none⟩) n ec, .slice (some ⟨zg, 0, none⟩) n zc] 73 ∧ Blk (W3.setCell ⟨eg, hn, none⟩ (.int .i64 q4)) eb #[.int .i64 who, .int .u8 wt, .int .i64 (un : Int), .int .i64 (an : Int), .int .i64 d, .int .i64 h, .int .i64 lo] 39 ∧ Upd (OB n m (some ⟨rg, 0, none⟩) rc (some ⟨eg, 0, none⟩) ec (some ⟨zg, 0, none⟩) zc) w (W3.setCell ⟨eg, hn, none⟩ (.int .i64 q4))) := Lib.hid (by
      have hu := updCellO W3 eg (hn) (.int .i64 q4)
      have x := X3.out
      have hob : ∀ j, j = eg → OB n m (some ⟨rg, 0, none⟩) rc (some ⟨eg, 0, none⟩) ec (some ⟨zg, 0, none⟩) zc j := fun j e => by rw [e]; exact .inr (.inl rfl)
      have hw : Upd (OB n m (some ⟨rg, 0, none⟩) rc (some ⟨eg, 0, none⟩) ec (some ⟨zg, 0, none⟩) zc) W3 (W3.setCell ⟨eg, hn, none⟩ (.int .i64 q4)) := hu.wide (fun j _ e => hob j e)
      exact ⟨x.1.then hw (fun i hi e => by have := (x.2.1.ge e).1; omega), x.2.1.setE (hn) q4, x.2.2.1.upd hw (x.2.1.box x.2.2.1 (by decide) (by decide)), x.2.2.2.1.upd hw (x.2.1.box x.2.2.2.1 (by decide) (by decide)), x.2.2.2.2.trans hw⟩)
    clear X3
    have X4 := Lib.hid (show Kept w0 (W3.setCell ⟨eg, hn, none⟩ (.int .i64 q4)).drew ∧ OwnP (W3.setCell ⟨eg, hn, none⟩ (.int .i64 q4)).drew w0.heap.size ⟨(p.rs.set an q1).set rn q2, (p.es.set un q3).set hn q4, p.hs⟩ n m (some ⟨rg, 0, none⟩) rc (some ⟨eg, 0, none⟩) ec (some ⟨zg, 0, none⟩) zc ∧ Blk (W3.setCell ⟨eg, hn, none⟩ (.int .i64 q4)).drew sb #[.int .i64 N, .int .i64 S, .int .i64 T, .slice a3 (n + 1) c3, .slice (some ⟨b4, o4, none⟩) m c4, .slice (some ⟨b5, o5, none⟩) m c5, .slice a6 m c6, .slice a7 m c7, .slice a8 m c8, .slice (some ⟨rg, 0, none⟩) m rc, .slice (some ⟨eg, 0, none⟩) n ec, .slice (some ⟨zg, 0, none⟩) n zc] 73 ∧ Blk (W3.setCell ⟨eg, hn, none⟩ (.int .i64 q4)).drew eb #[.int .i64 who, .int .u8 wt, .int .i64 (un : Int), .int .i64 (an : Int), .int .i64 d, .int .i64 h, .int .i64 lo] 39 ∧ Upd (OB n m (some ⟨rg, 0, none⟩) rc (some ⟨eg, 0, none⟩) ec (some ⟨zg, 0, none⟩) zc) w (W3.setCell ⟨eg, hn, none⟩ (.int .i64 q4)).drew from ⟨X4.out.1.drew, X4.out.2.1.kept (Upd.refl _ _).drew, X4.out.2.2.1.kept (Upd.refl _ _).drew, X4.out.2.2.2.1.kept (Upd.refl _ _).drew, X4.out.2.2.2.2.drew⟩)
    generalize (W3.setCell ⟨eg, hn, none⟩ (.int .i64 q4)).drew = W4 at X4 ⊢
    clear bx ex cA
    have HF : Hid (OwnP W4 w0.heap.size (doesP n ys p ⟨who, wt, (un : Int), (an : Int), d, h, lo⟩) n m (some ⟨rg, 0, none⟩) rc (some ⟨eg, 0, none⟩) ec (some ⟨zg, 0, none⟩) zc ∧ Kept w0 W4 ∧ Upd (OB n m (some ⟨rg, 0, none⟩) rc (some ⟨eg, 0, none⟩) ec (some ⟨zg, 0, none⟩) zc) w W4) := Lib.hid (by
      refine ⟨?_, X4.out.1, X4.out.2.2.2.2⟩
      rw [HDE.out]
      simp only [plusAt, HQ1.out, HQ2.out, HQ3.out, HQ4.out]
      exact X4.out.2.1)
    clear X4 j4 HDE HQ1 HQ2 HQ3 HQ4
    go_wp2_with fail
    go_end0
    exact ⟨rfl, HF.out⟩
end Go.Proofs.Ytdhimfkmgcfohaa
