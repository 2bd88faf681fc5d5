/- RelaxedValid (printed by gen_relvalid.py) -/
import Derived.Test.YtdhimfkmgcfohaaRelVld
import Derived.Test.YtdhimfkmgcfohaaRelFit
import Derived.Test.YtdhimfkmgcfohaaRelMove
import Derived.Test.YtdhimfkmgcfohaaSomeNet12
import Derived.Test.YtdhimfkmgcfohaaAwake09
import Derived.Deep.CutRange
import Derived.Deep.RegionHeld3
import Derived.Deep.MidRow
import Derived.Deep.Onto
import Derived.Deep.CutRange
namespace Go.Proofs.Ytdhimfkmgcfohaa
set_option linter.unusedVariables false
set_option linter.unusedSimpArgs false
open Go.RowKit
attribute [local go_sem] cell?_ext

theorem OwnP.base_le {w : World} {base : Nat} {p : PS} {n m : Nat} {ra : Option Addr} {rc : Nat} {ea : Option Addr} {ec : Nat} {za : Option Addr} {zc : Nat} (h : OwnP w base p n m ra rc ea ec za zc) (hn : 0 < n) : base ≤ w.heap.size := by
  rcases h.e.2 with ⟨_, h2⟩ | ⟨g, cap, cur, _, hg, hh, _⟩
  · omega
  · have := (Array.getElem?_eq_some_iff.1 hh).1; omega
theorem act_of {vs : List Value} (h : fits [some .i64, some .u8, some .i64, some .i64, some .i64, some .i64, some .i64, none, some .u8] vs) : ∃ (who wt u ar d h lo : Int) (raw : Bool) (ft : Int), vs = [.int .i64 who, .int .u8 wt, .int .i64 u, .int .i64 ar, .int .i64 d, .int .i64 h, .int .i64 lo, .bool raw, .int .u8 ft] ∧ (Lit.int .u8 wt).wf = true ∧ (Lit.int .u8 ft).wf = true := by
  obtain ⟨x1, u1, e1, h1, f1⟩ := fits_int h
  obtain ⟨x2, u2, e2, h2, f2⟩ := fits_int f1
  obtain ⟨x3, u3, e3, h3, f3⟩ := fits_int f2
  obtain ⟨x4, u4, e4, h4, f4⟩ := fits_int f3
  obtain ⟨x5, u5, e5, h5, f5⟩ := fits_int f4
  obtain ⟨x6, u6, e6, h6, f6⟩ := fits_int f5
  obtain ⟨x7, u7, e7, h7, f7⟩ := fits_int f6
  obtain ⟨x8, u8, e8, f8⟩ := fits_bool f7
  obtain ⟨x9, u9, e9, h9, f9⟩ := fits_int f8
  exact ⟨x1, x2, x3, x4, x5, x6, x7, x8, x9, by rw [e1, e2, e3, e4, e5, e6, e7, e8, e9, fits_nil f9], h2, h9⟩
set_option maxRecDepth 100000 in
set_option maxHeartbeats 8000000 in
theorem relaxedValid_core (N0 S0 T0 : Int) (a : Option Addr) (k0 cap : Nat) (ys0 : List Ar) (la : Option Addr) (lc : Nat) (els : List (List Value)) (w : World)
    (h : Ars w a ys0) (hk0 : ys0.length = k0) (hle : k0 ≤ cap) (hmost : cap ≤ 9223372036854775807) (hwf : ∀ x ∈ ys0, -9223372036854775808 ≤ x.c ∧ x.c ≤ 9223372036854775807)
    (hl1 : els.length ≤ lc) (hl2 : lc ≤ 9223372036854775807) (hcells : els.length = 0 ∨ ∃ b off, la = some ⟨b, off, none⟩ ∧ ∀ i (h : i < els.length) j v, els[i][j]? = some v → w.cell? ⟨b, off + i * 9 + j, none⟩ = some v) (hfit : ∀ e ∈ els, fits [some .i64, some .u8, some .i64, some .i64, some .i64, some .i64, some .i64, none, some .u8] e) :
    Calls Try.prog 6 #[.agg #[.int .i64 N0, .int .i64 S0, .int .i64 T0, .slice a k0 cap], .slice la els.length lc] w fun e w' => e = .returned (.bool true) ∧ Kept w w' := by
  have HS : ∀ (w : World), Ars w a ys0 → Hid (Calls Try.prog 9 #[.agg #[.int .i64 N0, .int .i64 S0, .int .i64 T0, .slice a k0 cap], .int .i64 12, .int .i64 30] w (NetIs w)) := by
    intro w h
    subst hk0
    exact Lib.hid (Some_any N0 S0 T0 a cap ys0 w h hle hmost hwf)
  have HX := Lib.hid (h.kept ((Upd.refl (fun _ => False) w).alloc (.cells #[.int .i64 N0, .int .i64 S0, .int .i64 T0, .slice a k0 cap] 24)))
  have HK := Lib.hid ((Upd.refl (fun _ => False) w).alloc (.cells #[.int .i64 N0, .int .i64 S0, .int .i64 T0, .slice a k0 cap] 24))
  obtain ⟨M, hM⟩ : ∃ M, M = min els.length 60 := ⟨_, rfl⟩
  have hM1 : M ≤ els.length := by omega
  have hM2 : M ≤ 60 := by omega
  have HSL := Lib.hid (fun w => run_take (P := Try.prog) Try.underlying25 (size := 9) (by kernel_rfl) la els.length lc M (by omega) w)
  have HIF := Lib.hid (show (if (60 : Int) < (els.length : Int) then (60 : Int) else (els.length : Int)) = (M : Int) ∧ (if 60 < els.length then (60 : Int) else (els.length : Int)) = (M : Int) by constructor <;> split <;> omega)
  have HCE := Lib.hid hcells
  have HFI := Lib.hid hfit
  clear h hle hmost hwf hcells hfit hM hl1 hl2
  go_enter Try.func6, Try.ntmps6
  go_wp2_with fail
  refine (HS _ HX.out).out.mono ?_
  rintro e w1 ⟨N, S, T, a', cap', ys, rfl, hok, hown, hk1⟩
  have HK1 := Lib.hid (HK.out.trans hk1)
  have HBG := Lib.hid (begun_any N S T a' cap' ys.length ys w1 hown.at.2 rfl hok)
  clear hk1 hok hown HS HX HK
  go_wp2_with fail
  refine HBG.out.mono ?_
  rintro e w2 ⟨n, m, lo, B, a3, c3, a4, c4, a5, c5, a6, c6, a7, c7, a8, c8, ra, rc, ea, ec, za, zc, rfl, hg, hcr, hcl, hb, ho, hk2⟩
  clear HBG
  have HG := Lib.hid hg
  have HCL := Lib.hid hcl
  have hkk := ((Upd.refl (fun _ => False) w2).alloc (.cells #[.int .i64 N, .int .i64 S, .int .i64 T, .slice a3 (n + 1) c3, .slice a4 m c4, .slice a5 m c5, .slice a6 m c6, .slice a7 m c7, .slice a8 m c8] 32)).alloc (.cells #[.slice ra m rc, .slice ea n ec, .slice za n zc] 29)
  have hs1 : (w2.alloc (.cells #[.int .i64 N, .int .i64 S, .int .i64 T, .slice a3 (n + 1) c3, .slice a4 m c4, .slice a5 m c5, .slice a6 m c6, .slice a7 m c7, .slice a8 m c8] 32)).heap.size = w2.heap.size + 1 := World.size_alloc _ _
  have HPB := Lib.hid (Blk.new (w2.alloc (.cells #[.int .i64 N, .int .i64 S, .int .i64 T, .slice a3 (n + 1) c3, .slice a4 m c4, .slice a5 m c5, .slice a6 m c6, .slice a7 m c7, .slice a8 m c8] 32)) #[.slice ra m rc, .slice ea n ec, .slice za n zc] 29)
  rw [hs1] at HPB
  have HV : Hid (VInv N S T n m ys (begP N S n ys)) := Lib.hid (begP_valid hg)
  obtain ⟨p, hp⟩ : ∃ p, begP N S n ys = p := ⟨_, rfl⟩
  rw [hp] at ho HV
  have HBL := Lib.hid (show B ≤ w2.heap.size ∧ w.heap.size ≤ B from ⟨ho.base_le (by have := hg.len; omega), by have := HK1.out.size; omega⟩)
  have Y0 : Hid (Kept w ((w2.alloc (.cells #[.int .i64 N, .int .i64 S, .int .i64 T, .slice a3 (n + 1) c3, .slice a4 m c4, .slice a5 m c5, .slice a6 m c6, .slice a7 m c7, .slice a8 m c8] 32)).alloc (.cells #[.slice ra m rc, .slice ea n ec, .slice za n zc] 29)) ∧ CsrR ((w2.alloc (.cells #[.int .i64 N, .int .i64 S, .int .i64 T, .slice a3 (n + 1) c3, .slice a4 m c4, .slice a5 m c5, .slice a6 m c6, .slice a7 m c7, .slice a8 m c8] 32)).alloc (.cells #[.slice ra m rc, .slice ea n ec, .slice za n zc] 29)) n ys a3 a4 a5 a6 a7 a8 ∧ Blk ((w2.alloc (.cells #[.int .i64 N, .int .i64 S, .int .i64 T, .slice a3 (n + 1) c3, .slice a4 m c4, .slice a5 m c5, .slice a6 m c6, .slice a7 m c7, .slice a8 m c8] 32)).alloc (.cells #[.slice ra m rc, .slice ea n ec, .slice za n zc] 29)) w2.heap.size #[.int .i64 N, .int .i64 S, .int .i64 T, .slice a3 (n + 1) c3, .slice a4 m c4, .slice a5 m c5, .slice a6 m c6, .slice a7 m c7, .slice a8 m c8] 32 ∧ Blk ((w2.alloc (.cells #[.int .i64 N, .int .i64 S, .int .i64 T, .slice a3 (n + 1) c3, .slice a4 m c4, .slice a5 m c5, .slice a6 m c6, .slice a7 m c7, .slice a8 m c8] 32)).alloc (.cells #[.slice ra m rc, .slice ea n ec, .slice za n zc] 29)) (w2.heap.size + 1) #[.slice ra m rc, .slice ea n ec, .slice za n zc] 29 ∧ OwnP ((w2.alloc (.cells #[.int .i64 N, .int .i64 S, .int .i64 T, .slice a3 (n + 1) c3, .slice a4 m c4, .slice a5 m c5, .slice a6 m c6, .slice a7 m c7, .slice a8 m c8] 32)).alloc (.cells #[.slice ra m rc, .slice ea n ec, .slice za n zc] 29)) w.heap.size p n m ra rc ea ec za zc) := Lib.hid ⟨(HK1.out.trans hk2).trans hkk, hcr.kept hkk, (Blk.new w2 #[.int .i64 N, .int .i64 S, .int .i64 T, .slice a3 (n + 1) c3, .slice a4 m c4, .slice a5 m c5, .slice a6 m c6, .slice a7 m c7, .slice a8 m c8] 32).alloc (.cells #[.slice ra m rc, .slice ea n ec, .slice za n zc] 29), HPB.out, (ho.kept hkk).mono HBL.out.2⟩
  clear hg hcl hcr ho hk2 hkk hp hb HPB
  go_upto_region 2 with (fail)
  try rw [hs1]
  clear hs1
  have HPL : Hid (B ≤ w2.heap.size + 1) := Lib.hid (by have := HBL.out; omega)
  have HPW : Hid (w.heap.size ≤ w2.heap.size + 1) := Lib.hid (by have := HBL.out; omega)
  have HNE : Hid (¬ w2.heap.size = w2.heap.size + 1) := Lib.hid (by omega)
  generalize ((w2.alloc (.cells #[.int .i64 N, .int .i64 S, .int .i64 T, .slice a3 (n + 1) c3, .slice a4 m c4, .slice a5 m c5, .slice a6 m c6, .slice a7 m c7, .slice a8 m c8] 32)).alloc (.cells #[.slice ra m rc, .slice ea n ec, .slice za n zc] 29)) = W3 at Y0 ⊢
  generalize w2.heap.size + 1 = pb at Y0 HPL HPW HNE ⊢
  generalize w2.heap.size = cb at Y0 HNE HBL ⊢
  have hz9 : Hid ((Try.prog.info? 32).map (·.size) = some 9) := Lib.hid (by kernel_rfl)
  have hza : Hid ((Try.prog.info? 41).map (·.size) = some 9) := Lib.hid (by kernel_rfl)
  have hz7 : Hid ((Try.prog.info? 39).map (·.size) = some 7) := Lib.hid (by kernel_rfl)
  have hra9 := Blk.range Y0.out.2.2.1
  have px := Y0.out.2.2.2.1.cell
  have HVA := Lib.hid (valids_any N S T n m a3 a4 a5 a6 a7 a8 c3 c4 c5 c6 c7 c8 ys ra rc p.rs za zc p.hs W3 HG.out Y0.out.2.1 Y0.out.2.2.2.2.rd.1 Y0.out.2.2.2.2.rd.2.2.1 (by have := HV.out.ok.2.2; have := HG.out.len; omega))
  rw [HV.out.valid] at HVA
  rw [HV.out.ok.1, HV.out.ok.2.2] at HVA
  go_wp2_with (first | (refine wpList_load_mid rfl _ _ rfl cb 0 rfl [.int .i64 N, .int .i64 S, .int .i64 T, .slice a3 (n + 1) c3, .slice a4 m c4, .slice a5 m c5, .slice a6 m c6, .slice a7 m c7, .slice a8 m c8] _ hra9 Try.underlying32 rfl hz9.out ?_) | fail)
  refine HVA.mono ?_
  rintro e w4 ⟨rfl, hk4⟩
  have Y1 : Hid (Kept w w4 ∧ CsrR w4 n ys a3 a4 a5 a6 a7 a8 ∧ Blk w4 cb #[.int .i64 N, .int .i64 S, .int .i64 T, .slice a3 (n + 1) c3, .slice a4 m c4, .slice a5 m c5, .slice a6 m c6, .slice a7 m c7, .slice a8 m c8] 32 ∧ Blk w4 pb #[.slice ra m rc, .slice ea n ec, .slice za n zc] 29 ∧ OwnP w4 w.heap.size p n m ra rc ea ec za zc) := Lib.hid ⟨Y0.out.1.trans hk4, Y0.out.2.1.kept hk4, Y0.out.2.2.1.kept hk4, Y0.out.2.2.2.1.kept hk4, Y0.out.2.2.2.2.kept hk4⟩
  clear hk4 Y0 hra9 px HVA
  have hsl := HSL.out
  have hif1 := HIF.out.1
  have hif2 := HIF.out.2
  go_upto_region 5 with (fail)
  clear hsl hif1 hif2 HSL HIF
  go_loopw [31] (fun x wr => ∃ (k : Nat) (p : PS) (ra : Option Addr) (rc : Nat) (ea : Option Addr) (ec : Nat) (za : Option Addr) (zc : Nat), x = .int .i64 k ∧ k ≤ M ∧ Hid (VInv N S T n m ys p) ∧ Hid (Kept w wr ∧ CsrR wr n ys a3 a4 a5 a6 a7 a8 ∧ Blk wr cb #[.int .i64 N, .int .i64 S, .int .i64 T, .slice a3 (n + 1) c3, .slice a4 m c4, .slice a5 m c5, .slice a6 m c6, .slice a7 m c7, .slice a8 m c8] 32 ∧ Blk wr pb #[.slice ra m rc, .slice ea n ec, .slice za n zc] 29 ∧ OwnP wr w.heap.size p n m ra rc ea ec za zc)) (fun x _ => M - (intOf x).toNat)
  case atStart => exact ⟨0, p, ra, rc, ea, ec, za, zc, rfl, by omega, HV, Y1⟩
  case round =>
    clear Y1 HV
    obtain ⟨k, p, ra, rc, ea, ec, za, zc, rfl, hk, HV, Y1⟩ := hrel
    by_cases hlt : k < M
    · have hkl : k < els.length := by omega
      obtain ⟨b, off, rfl, hcs⟩ := HCE.out.resolve_left (by omega)
      obtain ⟨who, wt, u, ar, d, h, lo, raw, ft, hel, hw1, hw2⟩ := act_of (HFI.out els[k] (List.getElem_mem hkl))
      have hraE : wr.rangeAt b (off + k * 9) [.int .i64 who, .int .u8 wt, .int .i64 u, .int .i64 ar, .int .i64 d, .int .i64 h, .int .i64 lo, .bool raw, .int .u8 ft] := by
        intro j v hv
        rw [← hel] at hv
        exact (keptCells Y1.out.1 _ (by rw [hcs k hkl j v hv]; rfl)).trans (hcs k hkl j v hv)
      have i1 : (0 : Int) ≤ (k : Int) := by omega
      have i2 : (k : Int) < (M : Int) := by omega
      have hZ := Blk.new wr #[.int .i64 0, .int .u8 0, .int .i64 0, .int .i64 0, .int .i64 0, .int .i64 0, .int .i64 0, .bool false, .int .u8 0] 41
      have hth := Blk.there hZ 9 rfl
      obtain ⟨W4, hW4⟩ : ∃ W4, (wr.alloc (.cells #[.int .i64 0, .int .u8 0, .int .i64 0, .int .i64 0, .int .i64 0, .int .i64 0, .int .i64 0, .bool false, .int .u8 0] 41)).setCells wr.heap.size 0 [.int .i64 who, .int .u8 wt, .int .i64 u, .int .i64 ar, .int .i64 d, .int .i64 h, .int .i64 lo, .bool raw, .int .u8 ft] = W4 := ⟨_, rfl⟩
      have hB4 : Blk W4 wr.heap.size #[.int .i64 who, .int .u8 wt, .int .i64 u, .int .i64 ar, .int .i64 d, .int .i64 h, .int .i64 lo, .bool raw, .int .u8 ft] 41 ∧ Upd (fun k => k = wr.heap.size) (wr.alloc (.cells #[.int .i64 0, .int .u8 0, .int .i64 0, .int .i64 0, .int .i64 0, .int .i64 0, .int .i64 0, .bool false, .int .u8 0] 41)) W4 := by rw [← hW4]; exact Blk.alls hZ [.int .i64 who, .int .u8 wt, .int .i64 u, .int .i64 ar, .int .i64 d, .int .i64 h, .int .i64 lo, .bool raw, .int .u8 ft] rfl
      have HXB := Lib.hid hB4.1
      have KW := Lib.hid (show Kept wr W4 from ((Upd.refl (fun _ => False) wr).alloc _).then hB4.2 (fun i hi e => by omega))
      clear hB4 hZ hel hcs
      go_upto_region 7 with (first | (refine wpList_load_mid rfl _ _ rfl b (off + k * 9) rfl [.int .i64 who, .int .u8 wt, .int .i64 u, .int .i64 ar, .int .i64 d, .int .i64 h, .int .i64 lo, .bool raw, .int .u8 ft] _ hraE Try.underlying41 rfl hza.out ?_) | (refine wpList_store_mid rfl _ _ _ rfl wr.heap.size 0 #[.int .i64 who, .int .u8 wt, .int .i64 u, .int .i64 ar, .int .i64 d, .int .i64 h, .int .i64 lo, .bool raw, .int .u8 ft] rfl rfl hth hza.out (all_oneCell_toArray (cs := [.int .i64 who, .int .u8 wt, .int .i64 u, .int .i64 ar, .int .i64 d, .int .i64 h, .int .i64 lo, .bool raw, .int .u8 ft]) (by simp [Value.oneCell'])) ?_; simp only [hW4]) | fail)
      clear hth hW4 hraE
      have Y4 : Hid (Kept w W4 ∧ CsrR W4 n ys a3 a4 a5 a6 a7 a8 ∧ Blk W4 cb #[.int .i64 N, .int .i64 S, .int .i64 T, .slice a3 (n + 1) c3, .slice a4 m c4, .slice a5 m c5, .slice a6 m c6, .slice a7 m c7, .slice a8 m c8] 32 ∧ Blk W4 pb #[.slice ra m rc, .slice ea n ec, .slice za n zc] 29 ∧ OwnP W4 w.heap.size p n m ra rc ea ec za zc) := Lib.hid ⟨Y1.out.1.trans KW.out, Y1.out.2.1.kept KW.out, Y1.out.2.2.1.kept KW.out, Y1.out.2.2.2.1.kept KW.out, Y1.out.2.2.2.2.kept KW.out⟩
      generalize wr.heap.size = xb at HXB ⊢
      clear Y1 KW
      have hra9 := Blk.range Y4.out.2.2.1
      have hraX := Blk.range HXB.out
      have px := Y4.out.2.2.2.1.cell
      have HFT := Lib.hid (fitted_any N S T n m a3 a4 a5 a6 a7 a8 c3 c4 c5 c6 c7 c8 ys p ra rc ea ec za zc who wt u ar d h lo raw ft W4 HG.out Y4.out.2.1 HV.out.ok Y4.out.2.2.2.2.rd.1 Y4.out.2.2.2.2.rd.2.1 Y4.out.2.2.2.2.rd.2.2.1 hw1)
      go_wp2_with (first | (refine wpList_load_mid rfl _ _ rfl cb 0 rfl [.int .i64 N, .int .i64 S, .int .i64 T, .slice a3 (n + 1) c3, .slice a4 m c4, .slice a5 m c5, .slice a6 m c6, .slice a7 m c7, .slice a8 m c8] _ hra9 Try.underlying32 rfl hz9.out ?_) | (refine wpList_load_mid rfl _ _ rfl xb 0 rfl [.int .i64 who, .int .u8 wt, .int .i64 u, .int .i64 ar, .int .i64 d, .int .i64 h, .int .i64 lo, .bool raw, .int .u8 ft] _ hraX Try.underlying41 rfl hza.out ?_) | fail)
      refine HFT.out.mono ?_
      rintro e W5 ⟨⟨who2, wt2, u2, ar2, d2, h2, lo2⟩, rfl, hw3, hk5⟩
      have hw3 : (Lit.int .u8 wt2).wf = true := hw3
      have Y5 : Hid (Kept w W5 ∧ CsrR W5 n ys a3 a4 a5 a6 a7 a8 ∧ Blk W5 cb #[.int .i64 N, .int .i64 S, .int .i64 T, .slice a3 (n + 1) c3, .slice a4 m c4, .slice a5 m c5, .slice a6 m c6, .slice a7 m c7, .slice a8 m c8] 32 ∧ Blk W5 pb #[.slice ra m rc, .slice ea n ec, .slice za n zc] 29 ∧ OwnP W5 w.heap.size p n m ra rc ea ec za zc) := Lib.hid ⟨Y4.out.1.trans hk5, Y4.out.2.1.kept hk5, Y4.out.2.2.1.kept hk5, Y4.out.2.2.2.1.kept hk5, Y4.out.2.2.2.2.kept hk5⟩
      clear hk5 HFT hra9 hraX px Y4 HXB
      simp only [Ev.cells]
      have hZ := Blk.new W5 #[.int .i64 0, .int .u8 0, .int .i64 0, .int .i64 0, .int .i64 0, .int .i64 0, .int .i64 0] 39
      have hth := Blk.there hZ 7 rfl
      obtain ⟨W6, hW6⟩ : ∃ W6, (W5.alloc (.cells #[.int .i64 0, .int .u8 0, .int .i64 0, .int .i64 0, .int .i64 0, .int .i64 0, .int .i64 0] 39)).setCells W5.heap.size 0 [.int .i64 who2, .int .u8 wt2, .int .i64 u2, .int .i64 ar2, .int .i64 d2, .int .i64 h2, .int .i64 lo2] = W6 := ⟨_, rfl⟩
      have hB4 : Blk W6 W5.heap.size #[.int .i64 who2, .int .u8 wt2, .int .i64 u2, .int .i64 ar2, .int .i64 d2, .int .i64 h2, .int .i64 lo2] 39 ∧ Upd (fun k => k = W5.heap.size) (W5.alloc (.cells #[.int .i64 0, .int .u8 0, .int .i64 0, .int .i64 0, .int .i64 0, .int .i64 0, .int .i64 0] 39)) W6 := by rw [← hW6]; exact Blk.alls hZ [.int .i64 who2, .int .u8 wt2, .int .i64 u2, .int .i64 ar2, .int .i64 d2, .int .i64 h2, .int .i64 lo2] rfl
      have HEB := Lib.hid hB4.1
      have KW := Lib.hid (show Kept W5 W6 from ((Upd.refl (fun _ => False) W5).alloc _).then hB4.2 (fun i hi e => by omega))
      clear hB4 hZ
      go_upto_region 8 with (first | (refine wpList_store_mid rfl _ _ _ rfl W5.heap.size 0 #[.int .i64 who2, .int .u8 wt2, .int .i64 u2, .int .i64 ar2, .int .i64 d2, .int .i64 h2, .int .i64 lo2] rfl rfl hth hz7.out (all_oneCell_toArray (cs := [.int .i64 who2, .int .u8 wt2, .int .i64 u2, .int .i64 ar2, .int .i64 d2, .int .i64 h2, .int .i64 lo2]) (by simp [Value.oneCell'])) ?_; simp only [hW6]) | fail)
      clear hth hW6
      have Y6 : Hid (Kept w W6 ∧ CsrR W6 n ys a3 a4 a5 a6 a7 a8 ∧ Blk W6 cb #[.int .i64 N, .int .i64 S, .int .i64 T, .slice a3 (n + 1) c3, .slice a4 m c4, .slice a5 m c5, .slice a6 m c6, .slice a7 m c7, .slice a8 m c8] 32 ∧ Blk W6 pb #[.slice ra m rc, .slice ea n ec, .slice za n zc] 29 ∧ OwnP W6 w.heap.size p n m ra rc ea ec za zc) := Lib.hid ⟨Y5.out.1.trans KW.out, Y5.out.2.1.kept KW.out, Y5.out.2.2.1.kept KW.out, Y5.out.2.2.2.1.kept KW.out, Y5.out.2.2.2.2.kept KW.out⟩
      generalize W5.heap.size = eb at HEB ⊢
      clear Y5 KW
      have HST := Lib.hid (strict_any N S T n m a3 a4 a5 a6 a7 a8 c3 c4 c5 c6 c7 c8 ys p ra rc ea ec za zc who2 wt2 u2 ar2 d2 h2 lo2 W6 HG.out Y6.out.2.1 HV.out.ok Y6.out.2.2.2.2.rd.1 Y6.out.2.2.2.2.rd.2.1 Y6.out.2.2.2.2.rd.2.2.1 hw3 (HV.out.small HG.out))
      have HSV : Hid (strictP N S T n ys p ⟨who2, wt2, u2, ar2, d2, h2, lo2⟩ = true → ¬ (wt2 = 2 ∧ N < h2) → legalP N S T ys p ⟨who2, wt2, u2, ar2, d2, h2, lo2⟩ = 0 ∧ VInv N S T n m ys (moveP N S T n ys p ⟨who2, wt2, u2, ar2, d2, h2, lo2⟩)) := Lib.hid (fun q1 q2 => strict_valid HG.out HV.out q1 q2)
      generalize strictP N S T n ys p ⟨who2, wt2, u2, ar2, d2, h2, lo2⟩ = V at HST HSV
      have hra9 := Blk.range Y6.out.2.2.1
      have hraE := Blk.range HEB.out
      have px := Y6.out.2.2.2.1.cell
      go_wp2_with (first | (refine wpList_load_mid rfl _ _ rfl cb 0 rfl [.int .i64 N, .int .i64 S, .int .i64 T, .slice a3 (n + 1) c3, .slice a4 m c4, .slice a5 m c5, .slice a6 m c6, .slice a7 m c7, .slice a8 m c8] _ hra9 Try.underlying32 rfl hz9.out ?_) | (refine wpList_load_mid rfl _ _ rfl eb 0 rfl [.int .i64 who2, .int .u8 wt2, .int .i64 u2, .int .i64 ar2, .int .i64 d2, .int .i64 h2, .int .i64 lo2] _ hraE Try.underlying39 rfl hz7.out ?_) | fail)
      refine HST.out.mono ?_
      rintro e W7 ⟨rfl, hk7⟩
      have Y7 : Hid (Kept w W7 ∧ CsrR W7 n ys a3 a4 a5 a6 a7 a8 ∧ Blk W7 cb #[.int .i64 N, .int .i64 S, .int .i64 T, .slice a3 (n + 1) c3, .slice a4 m c4, .slice a5 m c5, .slice a6 m c6, .slice a7 m c7, .slice a8 m c8] 32 ∧ Blk W7 pb #[.slice ra m rc, .slice ea n ec, .slice za n zc] 29 ∧ OwnP W7 w.heap.size p n m ra rc ea ec za zc) := Lib.hid ⟨Y6.out.1.trans hk7, Y6.out.2.1.kept hk7, Y6.out.2.2.1.kept hk7, Y6.out.2.2.2.1.kept hk7, Y6.out.2.2.2.2.kept hk7⟩
      have HEB7 := Lib.hid (HEB.out.kept hk7)
      clear hk7 HST hra9 hraE px Y6 HEB
      have cc := Y7.out.2.2.1.cell
      have ex := HEB7.out.cell
      cases V
      · as_aux_lemma =>
        clear HSV
        go_wp2_with fail
        go_roundw
        case rel => exact ⟨k + 1, p, ra, rc, ea, ec, za, zc, by go_num, by omega, HV, Y7⟩
        case measure => simp [intOf]; omega
      · by_cases q1 : wt2 = 2 ∧ N < h2
        · as_aux_lemma =>
          have b1 : (wt2 == 2) = true := by simpa using q1.1
          have b2 : decide (N < h2) = true := by simpa using q1.2
          obtain ⟨rfl, q2⟩ := q1
          clear HSV
          go_wp2_with fail
          go_roundw
          case rel => exact ⟨k + 1, p, ra, rc, ea, ec, za, zc, by go_num, by omega, HV, Y7⟩
          case measure => simp [intOf]; omega
        · have px := Y7.out.2.2.2.1.cell
          obtain ⟨hl0, hvi⟩ := HSV.out rfl q1
          have HV2 := Lib.hid hvi
          have hmv := move_any N S T n m a3 a4 a5 a6 a7 a8 c3 c4 c5 c6 c7 c8 ys p ra rc ea ec za zc who2 wt2 u2 ar2 d2 h2 lo2 W7 HG.out Y7.out.2.1 HV.out.ok Y7.out.2.2.2.2.rd.1 Y7.out.2.2.2.2.rd.2.1 Y7.out.2.2.2.2.rd.2.2.1 Y7.out.2.2.2.2.rd.2.2.2.1 Y7.out.2.2.2.2.rd.2.2.2.2.1 Y7.out.2.2.2.2.rd.2.2.2.2.2 hw3
          rw [hl0] at hmv
          generalize moveP N S T n ys p ⟨who2, wt2, u2, ar2, d2, h2, lo2⟩ = p2 at hmv HV2
          have HMV := Lib.hid hmv
          have HSZ := Lib.hid Y7.out.1.size
          clear hmv hl0 hvi HSV
          by_cases q2 : wt2 = 2
          · as_aux_lemma =>
            have b1 : (wt2 == 2) = true := by simpa using q2
            have b2 : decide (N < h2) = false := by simpa using fun e => q1 ⟨q2, e⟩
            subst q2
            clear q1
            go_wp2_with fail
            refine HMV.out.mono ?_
            rintro e W8 ⟨oa, oc, qa, qc, ha, hc, rfl, hO, hk8⟩
            have Y8 : Hid (Kept w W8 ∧ CsrR W8 n ys a3 a4 a5 a6 a7 a8 ∧ Blk W8 cb #[.int .i64 N, .int .i64 S, .int .i64 T, .slice a3 (n + 1) c3, .slice a4 m c4, .slice a5 m c5, .slice a6 m c6, .slice a7 m c7, .slice a8 m c8] 32 ∧ Blk W8 pb #[.slice ra m rc, .slice ea n ec, .slice za n zc] 29 ∧ OwnP W8 w.heap.size p n m ra rc ea ec za zc) := Lib.hid ⟨Y7.out.1.trans hk8, Y7.out.2.1.kept hk8, Y7.out.2.2.1.kept hk8, Y7.out.2.2.2.1.kept hk8, Y7.out.2.2.2.2.kept hk8⟩
            have HO8 := Lib.hid (hO.mono HSZ.out)
            clear hk8 hO HMV cc ex px Y7 HEB7 HSZ
            go_upto_region 10 with (fail)
            have hKN := (Upd.refl (fun _ => False) W8).alloc (.cells #[.slice oa m oc, .slice qa n qc, .slice ha n hc] 29)
            have Y9 : Hid (Kept w (W8.alloc (.cells #[.slice oa m oc, .slice qa n qc, .slice ha n hc] 29)) ∧ CsrR (W8.alloc (.cells #[.slice oa m oc, .slice qa n qc, .slice ha n hc] 29)) n ys a3 a4 a5 a6 a7 a8 ∧ Blk (W8.alloc (.cells #[.slice oa m oc, .slice qa n qc, .slice ha n hc] 29)) cb #[.int .i64 N, .int .i64 S, .int .i64 T, .slice a3 (n + 1) c3, .slice a4 m c4, .slice a5 m c5, .slice a6 m c6, .slice a7 m c7, .slice a8 m c8] 32 ∧ Blk (W8.alloc (.cells #[.slice oa m oc, .slice qa n qc, .slice ha n hc] 29)) pb #[.slice ra m rc, .slice ea n ec, .slice za n zc] 29 ∧ OwnP (W8.alloc (.cells #[.slice oa m oc, .slice qa n qc, .slice ha n hc] 29)) w.heap.size p n m ra rc ea ec za zc) := Lib.hid ⟨Y8.out.1.trans hKN, Y8.out.2.1.kept hKN, Y8.out.2.2.1.kept hKN, Y8.out.2.2.2.1.kept hKN, Y8.out.2.2.2.2.kept hKN⟩
            have HQ9 := Lib.hid (Blk.new W8 #[.slice oa m oc, .slice qa n qc, .slice ha n hc] 29)
            have HO9 := Lib.hid (HO8.out.kept hKN)
            clear hKN Y8 HO8
            generalize (W8.alloc (.cells #[.slice oa m oc, .slice qa n qc, .slice ha n hc] 29)) = W9 at Y9 HQ9 HO9 ⊢
            generalize W8.heap.size = qb at HQ9 ⊢
            have cc := Y9.out.2.2.1.cell
            have qx := HQ9.out.cell
            have HVA := (valids_any N S T n m a3 a4 a5 a6 a7 a8 c3 c4 c5 c6 c7 c8 ys oa oc p2.rs ha hc p2.hs W9 HG.out Y9.out.2.1 HO9.out.rd.1 HO9.out.rd.2.2.1 (by have := HV2.out.ok.2.2; have := HG.out.len; omega))
            rw [HV2.out.valid] at HVA
            rw [HV2.out.ok.1, HV2.out.ok.2.2] at HVA
            go_wp2_with fail
            refine HVA.mono ?_
            rintro e WA ⟨rfl, hkA⟩
            have YA : Hid (Kept w WA ∧ CsrR WA n ys a3 a4 a5 a6 a7 a8 ∧ Blk WA cb #[.int .i64 N, .int .i64 S, .int .i64 T, .slice a3 (n + 1) c3, .slice a4 m c4, .slice a5 m c5, .slice a6 m c6, .slice a7 m c7, .slice a8 m c8] 32 ∧ Blk WA pb #[.slice ra m rc, .slice ea n ec, .slice za n zc] 29 ∧ OwnP WA w.heap.size p n m ra rc ea ec za zc) := Lib.hid ⟨Y9.out.1.trans hkA, Y9.out.2.1.kept hkA, Y9.out.2.2.1.kept hkA, Y9.out.2.2.2.1.kept hkA, Y9.out.2.2.2.2.kept hkA⟩
            have HQA := Lib.hid (HQ9.out.kept hkA)
            have HOA := Lib.hid (HO9.out.kept hkA)
            clear hkA HVA cc qx Y9 HQ9 HO9
            have qx := HQA.out.cell
            have px := YA.out.2.2.2.1.cell
            have pf := YA.out.2.2.2.1.free
            have HU : Hid (Upd (fun j => j = pb) WA (((WA.setCell ⟨pb, 0, none⟩ (.slice oa m oc)).setCell ⟨pb, 1, none⟩ (.slice qa n qc)).setCell ⟨pb, 2, none⟩ (.slice ha n hc))) := Lib.hid ((((Upd.refl (fun j => j = pb) WA).setCell (p := ⟨pb, 0, none⟩) (.inl rfl) (.slice oa m oc)).setCell (p := ⟨pb, 1, none⟩) (.inl rfl) (.slice qa n qc)).setCell (p := ⟨pb, 2, none⟩) (.inl rfl) (.slice ha n hc))
            have YF : Hid (Kept w (((WA.setCell ⟨pb, 0, none⟩ (.slice oa m oc)).setCell ⟨pb, 1, none⟩ (.slice qa n qc)).setCell ⟨pb, 2, none⟩ (.slice ha n hc)) ∧ CsrR (((WA.setCell ⟨pb, 0, none⟩ (.slice oa m oc)).setCell ⟨pb, 1, none⟩ (.slice qa n qc)).setCell ⟨pb, 2, none⟩ (.slice ha n hc)) n ys a3 a4 a5 a6 a7 a8 ∧ Blk (((WA.setCell ⟨pb, 0, none⟩ (.slice oa m oc)).setCell ⟨pb, 1, none⟩ (.slice qa n qc)).setCell ⟨pb, 2, none⟩ (.slice ha n hc)) cb #[.int .i64 N, .int .i64 S, .int .i64 T, .slice a3 (n + 1) c3, .slice a4 m c4, .slice a5 m c5, .slice a6 m c6, .slice a7 m c7, .slice a8 m c8] 32 ∧ Blk (((WA.setCell ⟨pb, 0, none⟩ (.slice oa m oc)).setCell ⟨pb, 1, none⟩ (.slice qa n qc)).setCell ⟨pb, 2, none⟩ (.slice ha n hc)) pb #[.slice oa m oc, .slice qa n qc, .slice ha n hc] 29 ∧ OwnP (((WA.setCell ⟨pb, 0, none⟩ (.slice oa m oc)).setCell ⟨pb, 1, none⟩ (.slice qa n qc)).setCell ⟨pb, 2, none⟩ (.slice ha n hc)) w.heap.size p2 n m oa oc qa qc ha hc) := Lib.hid ⟨YA.out.1.then HU.out (fun i hi e => by have := HPW.out; have e2 : i = pb := e; omega), YA.out.2.1.upd HCL.out HU.out (fun j h1 h2 e => by have := HPL.out; have e2 : j = pb := e; omega), YA.out.2.2.1.upd HU.out (fun e => HNE.out e), ((YA.out.2.2.2.1.set 0 (.slice oa m oc)).set 1 (.slice qa n qc)).set 2 (.slice ha n hc), HOA.out.upd HU.out (fun j hj e => by subst e; exact HOA.out.box YA.out.2.2.2.1 (by decide) (by decide) hj)⟩
            clear HU YA HOA HQA
            go_wp2_with fail
            go_roundw
            case rel => exact ⟨k + 1, p2, oa, oc, qa, qc, ha, hc, by go_num, by omega, HV2, YF⟩
            case measure => simp [intOf]; omega
          · as_aux_lemma =>
            have b1 : (wt2 == 2) = false := by simpa using q2
            clear q1 q2
            go_wp2_with fail
            refine HMV.out.mono ?_
            rintro e W8 ⟨oa, oc, qa, qc, ha, hc, rfl, hO, hk8⟩
            have Y8 : Hid (Kept w W8 ∧ CsrR W8 n ys a3 a4 a5 a6 a7 a8 ∧ Blk W8 cb #[.int .i64 N, .int .i64 S, .int .i64 T, .slice a3 (n + 1) c3, .slice a4 m c4, .slice a5 m c5, .slice a6 m c6, .slice a7 m c7, .slice a8 m c8] 32 ∧ Blk W8 pb #[.slice ra m rc, .slice ea n ec, .slice za n zc] 29 ∧ OwnP W8 w.heap.size p n m ra rc ea ec za zc) := Lib.hid ⟨Y7.out.1.trans hk8, Y7.out.2.1.kept hk8, Y7.out.2.2.1.kept hk8, Y7.out.2.2.2.1.kept hk8, Y7.out.2.2.2.2.kept hk8⟩
            have HO8 := Lib.hid (hO.mono HSZ.out)
            clear hk8 hO HMV cc ex px Y7 HEB7 HSZ
            go_upto_region 10 with (fail)
            have hKN := (Upd.refl (fun _ => False) W8).alloc (.cells #[.slice oa m oc, .slice qa n qc, .slice ha n hc] 29)
            have Y9 : Hid (Kept w (W8.alloc (.cells #[.slice oa m oc, .slice qa n qc, .slice ha n hc] 29)) ∧ CsrR (W8.alloc (.cells #[.slice oa m oc, .slice qa n qc, .slice ha n hc] 29)) n ys a3 a4 a5 a6 a7 a8 ∧ Blk (W8.alloc (.cells #[.slice oa m oc, .slice qa n qc, .slice ha n hc] 29)) cb #[.int .i64 N, .int .i64 S, .int .i64 T, .slice a3 (n + 1) c3, .slice a4 m c4, .slice a5 m c5, .slice a6 m c6, .slice a7 m c7, .slice a8 m c8] 32 ∧ Blk (W8.alloc (.cells #[.slice oa m oc, .slice qa n qc, .slice ha n hc] 29)) pb #[.slice ra m rc, .slice ea n ec, .slice za n zc] 29 ∧ OwnP (W8.alloc (.cells #[.slice oa m oc, .slice qa n qc, .slice ha n hc] 29)) w.heap.size p n m ra rc ea ec za zc) := Lib.hid ⟨Y8.out.1.trans hKN, Y8.out.2.1.kept hKN, Y8.out.2.2.1.kept hKN, Y8.out.2.2.2.1.kept hKN, Y8.out.2.2.2.2.kept hKN⟩
            have HQ9 := Lib.hid (Blk.new W8 #[.slice oa m oc, .slice qa n qc, .slice ha n hc] 29)
            have HO9 := Lib.hid (HO8.out.kept hKN)
            clear hKN Y8 HO8
            generalize (W8.alloc (.cells #[.slice oa m oc, .slice qa n qc, .slice ha n hc] 29)) = W9 at Y9 HQ9 HO9 ⊢
            generalize W8.heap.size = qb at HQ9 ⊢
            have cc := Y9.out.2.2.1.cell
            have qx := HQ9.out.cell
            have HVA := (valids_any N S T n m a3 a4 a5 a6 a7 a8 c3 c4 c5 c6 c7 c8 ys oa oc p2.rs ha hc p2.hs W9 HG.out Y9.out.2.1 HO9.out.rd.1 HO9.out.rd.2.2.1 (by have := HV2.out.ok.2.2; have := HG.out.len; omega))
            rw [HV2.out.valid] at HVA
            rw [HV2.out.ok.1, HV2.out.ok.2.2] at HVA
            go_wp2_with fail
            refine HVA.mono ?_
            rintro e WA ⟨rfl, hkA⟩
            have YA : Hid (Kept w WA ∧ CsrR WA n ys a3 a4 a5 a6 a7 a8 ∧ Blk WA cb #[.int .i64 N, .int .i64 S, .int .i64 T, .slice a3 (n + 1) c3, .slice a4 m c4, .slice a5 m c5, .slice a6 m c6, .slice a7 m c7, .slice a8 m c8] 32 ∧ Blk WA pb #[.slice ra m rc, .slice ea n ec, .slice za n zc] 29 ∧ OwnP WA w.heap.size p n m ra rc ea ec za zc) := Lib.hid ⟨Y9.out.1.trans hkA, Y9.out.2.1.kept hkA, Y9.out.2.2.1.kept hkA, Y9.out.2.2.2.1.kept hkA, Y9.out.2.2.2.2.kept hkA⟩
            have HQA := Lib.hid (HQ9.out.kept hkA)
            have HOA := Lib.hid (HO9.out.kept hkA)
            clear hkA HVA cc qx Y9 HQ9 HO9
            have qx := HQA.out.cell
            have px := YA.out.2.2.2.1.cell
            have pf := YA.out.2.2.2.1.free
            have HU : Hid (Upd (fun j => j = pb) WA (((WA.setCell ⟨pb, 0, none⟩ (.slice oa m oc)).setCell ⟨pb, 1, none⟩ (.slice qa n qc)).setCell ⟨pb, 2, none⟩ (.slice ha n hc))) := Lib.hid ((((Upd.refl (fun j => j = pb) WA).setCell (p := ⟨pb, 0, none⟩) (.inl rfl) (.slice oa m oc)).setCell (p := ⟨pb, 1, none⟩) (.inl rfl) (.slice qa n qc)).setCell (p := ⟨pb, 2, none⟩) (.inl rfl) (.slice ha n hc))
            have YF : Hid (Kept w (((WA.setCell ⟨pb, 0, none⟩ (.slice oa m oc)).setCell ⟨pb, 1, none⟩ (.slice qa n qc)).setCell ⟨pb, 2, none⟩ (.slice ha n hc)) ∧ CsrR (((WA.setCell ⟨pb, 0, none⟩ (.slice oa m oc)).setCell ⟨pb, 1, none⟩ (.slice qa n qc)).setCell ⟨pb, 2, none⟩ (.slice ha n hc)) n ys a3 a4 a5 a6 a7 a8 ∧ Blk (((WA.setCell ⟨pb, 0, none⟩ (.slice oa m oc)).setCell ⟨pb, 1, none⟩ (.slice qa n qc)).setCell ⟨pb, 2, none⟩ (.slice ha n hc)) cb #[.int .i64 N, .int .i64 S, .int .i64 T, .slice a3 (n + 1) c3, .slice a4 m c4, .slice a5 m c5, .slice a6 m c6, .slice a7 m c7, .slice a8 m c8] 32 ∧ Blk (((WA.setCell ⟨pb, 0, none⟩ (.slice oa m oc)).setCell ⟨pb, 1, none⟩ (.slice qa n qc)).setCell ⟨pb, 2, none⟩ (.slice ha n hc)) pb #[.slice oa m oc, .slice qa n qc, .slice ha n hc] 29 ∧ OwnP (((WA.setCell ⟨pb, 0, none⟩ (.slice oa m oc)).setCell ⟨pb, 1, none⟩ (.slice qa n qc)).setCell ⟨pb, 2, none⟩ (.slice ha n hc)) w.heap.size p2 n m oa oc qa qc ha hc) := Lib.hid ⟨YA.out.1.then HU.out (fun i hi e => by have := HPW.out; have e2 : i = pb := e; omega), YA.out.2.1.upd HCL.out HU.out (fun j h1 h2 e => by have := HPL.out; have e2 : j = pb := e; omega), YA.out.2.2.1.upd HU.out (fun e => HNE.out e), ((YA.out.2.2.2.1.set 0 (.slice oa m oc)).set 1 (.slice qa n qc)).set 2 (.slice ha n hc), HOA.out.upd HU.out (fun j hj e => by subst e; exact HOA.out.box YA.out.2.2.2.1 (by decide) (by decide) hj)⟩
            clear HU YA HOA HQA
            go_wp2_with fail
            go_roundw
            case rel => exact ⟨k + 1, p2, oa, oc, qa, qc, ha, hc, by go_num, by omega, HV2, YF⟩
            case measure => simp [intOf]; omega
    · as_aux_lemma =>
      have j1 : ¬ (k : Int) < (M : Int) := by omega
      have HAW := Lib.hid (awake09_any wr)
      have HKF0 := Lib.hid Y1.out.1
      clear hlt Y1 HV HCE HFI
      go_wp2_with fail
      refine HAW.out.mono ?_
      rintro e wz ⟨rfl, hkz⟩
      have HKF := Lib.hid (HKF0.out.trans hkz)
      clear hkz HAW HKF0
      go_wp2_with fail
      go_ret
      exact ⟨rfl, HKF.out⟩
theorem relaxedValid_walk (N S T : Int) (a : Option Addr) (cap : Nat) (els : List (List Value)) (s1 : Option Addr) (cap1 : Nat) (z1 : List (List Value)) (w : World) (_wN : (Lit.int .i64 N).wf = true) (_wS : (Lit.int .i64 S).wf = true) (_wT : (Lit.int .i64 T).wf = true)
    (hrow : FlatRow [some .i64, some .i64, some .i64] w a cap els) (_hf : ∀ x ∈ els, fits [some .i64, some .i64, some .i64] x) (w1 : FlatRow [some .i64, some .u8, some .i64, some .i64, some .i64, some .i64, some .i64, none, some .u8] w s1 cap1 z1) (_m1 : ∀ x ∈ z1, fits [some .i64, some .u8, some .i64, some .i64, some .i64, some .i64, some .i64, none, some .u8] x) :
    Calls Try.prog 6 #[.agg #[.int .i64 N, .int .i64 S, .int .i64 T, .slice a els.length cap], .slice s1 z1.length cap1] w fun e w' => e = .returned (.bool true) ∧ Kept w w' := by
  obtain ⟨xs, hl, hA, hx⟩ := ars_of_flat hrow
  have hmo := hrow.most
  have l1' := w1.most
  unfold maxLen at hmo l1'
  exact relaxedValid_core N S T a els.length cap xs s1 cap1 z1 w hA hl hrow.le hmo (fun x hx0 => bounds_i64 (hx x hx0).2.2) w1.le (by omega) w1.cells w1.fit
end Go.Proofs.Ytdhimfkmgcfohaa
