/- acequialow.Within of a right net. -/
import Derived.Test.YticeionjlknlcaaNetOk
import Derived.Deep.CutRange
namespace Go.Proofs.Yticeionjlknlcaa
set_option linter.unusedVariables false
open Go.RowKit

/-- A number, turned to one from 0 on. -/
def up0 (x : Int) : Int := if x < 0 then -(x + 1) else x
/-- What is within the k-th arc's capacity. -/
def wth (ls : List Int) (k : Nat) (x : Ar) : Int := if ls.length ≤ k ∨ x.f = x.t then 0 else up0 (ls.getD k 0) % (x.c + 1)
def wths (ls : List Int) (ys : List Ar) : List Int := ys.mapIdx (wth ls)
/-- A flow within the capacities. -/
def FsOk (fs : List Int) (ys : List Ar) : Prop := fs.length = ys.length ∧ ∀ (k : Nat) (x : Ar), ys[k]? = some x → ∃ v, fs[k]? = some v ∧ 0 ≤ v ∧ v ≤ x.c
theorem wths_len (ls : List Int) (ys : List Ar) : (wths ls ys).length = ys.length := by simp [wths]
theorem wths_at (ls : List Int) (ys : List Ar) (k : Nat) (h : k < ys.length) (h' : k < (wths ls ys).length) : (wths ls ys)[k] = wth ls k ys[k] := by simp [wths]
theorem wth_ok (ls : List Int) (k : Nat) (x : Ar) (hc : 0 ≤ x.c) : 0 ≤ wth ls k x ∧ wth ls k x ≤ x.c := by
  unfold wth
  split
  · omega
  · have h1 := Int.emod_nonneg (up0 (ls.getD k 0)) (show x.c + 1 ≠ 0 by omega)
    have h2 := Int.emod_lt_of_pos (up0 (ls.getD k 0)) (show 0 < x.c + 1 by omega)
    omega
theorem wths_ok {N : Int} (ls : List Int) (ys : List Ar) (hy : ∀ x ∈ ys, ArcOk N x) : FsOk (wths ls ys) ys := by
  refine ⟨wths_len ls ys, fun k x hx => ?_⟩
  obtain ⟨hk, rfl⟩ := List.getElem?_eq_some_iff.1 hx
  have ho := hy _ (List.getElem_mem hk)
  have hw := wth_ok ls k ys[k] (by unfold ArcOk at ho; omega)
  refine ⟨wth ls k ys[k], ?_, hw.1, hw.2⟩
  rw [List.getElem?_eq_getElem (by rw [wths_len]; exact hk), wths_at _ _ _ hk]
theorem filled_same {α : Type} (xs : List α) (z : α) (k : Nat) (h : k < xs.length) (hz : xs[k] = z) : filled xs z (k + 1) = filled xs z k := by
  rw [← filled_set xs z k h, hz]
  have hl : (filled xs z k).length = xs.length := length_filled xs z k (by omega)
  refine List.ext_getElem (by simp) fun i h1 h2 => ?_
  rw [List.getElem_set]
  split
  · rename_i e
    subst e
    simp [filled, List.getElem_append]
    exact fun _ => hz.symm
  · rfl
theorem map_at {ls : List Int} {k : Nat} (h : k < ls.length) : (ls.map (Value.int .i64))[k]? = some (.int .i64 (ls.getD k 0)) := by simp [h]

set_option maxHeartbeats 4000000 in
theorem Within_ok (N S T : Int) (a : Option Addr) (cap : Nat) (ys : List Ar) (la : Option Addr) (lc : Nat) (ls : List Int) (w : World) (h : Ars w a ys) (hy : ∀ x ∈ ys, ArcOk N x) (hlen : ys.length ≤ 40)
    (hl : Rd w la (ls.map (Value.int .i64))) (hi : ∀ x ∈ ls, -9223372036854775808 ≤ x ∧ x ≤ 9223372036854775807) (hll : ls.length ≤ 9223372036854775807) :
    Calls Try.prog 37 #[.agg #[.int .i64 N, .int .i64 S, .int .i64 T, .slice a ys.length cap], .slice la ls.length lc] w fun e w' => ∃ g, e = .returned (.slice (some ⟨g, 0, none⟩) ys.length ys.length) ∧ Blk w' g ((wths ls ys).map (Value.int .i64)).toArray 2 ∧ w.heap.size ≤ g ∧ Kept w w' := by
  have hmk := fun w => make_one (P := Try.prog) (t := 25) (e := 2) (z := .int .i64 0) (v := .int .i64 0) (bytes := 8) Try.underlying25 (by kernel_rfl) rfl .i64 ys.length (by omega) (by omega) w
  have HK := Lib.hid (((Upd.refl (fun _ => False) w).alloc (.cells #[.int .i64 N, .int .i64 S, .int .i64 T, .slice a ys.length cap] 24)).alloc (.cells (zeros ys.length (.int .i64 0)) 2))
  have HX := Lib.hid h
  have HY := Lib.hid hy
  have HL := Lib.hid hl
  have HI := Lib.hid hi
  have HB := Lib.hid ((Blk.new w #[.int .i64 N, .int .i64 S, .int .i64 T, .slice a ys.length cap] 24).alloc (.cells (zeros ys.length (.int .i64 0)) 2))
  have HR := Lib.hid (Blk.new (w.alloc (.cells #[.int .i64 N, .int .i64 S, .int .i64 T, .slice a ys.length cap] 24)) (zeros ys.length (.int .i64 0)) 2)
  have e1 : (w.alloc (.cells #[.int .i64 N, .int .i64 S, .int .i64 T, .slice a ys.length cap] 24)).heap.size = w.heap.size + 1 := by simp
  rw [e1] at HR
  clear h hy hl hi e1
  go_enter Try.func37, Try.ntmps37
  go_upto_region 2 with (fail)
  generalize ((w.alloc (.cells #[.int .i64 N, .int .i64 S, .int .i64 T, .slice a ys.length cap] 24)).alloc (.cells (zeros ys.length (.int .i64 0)) 2)) = W0 at HK HB HR ⊢
  clear hmk
  rw [zeros_ints, ← wths_len ls ys, ← filled_zero] at HR
  have cp := HB.out.cell
  go_wp2_with fail
  clear cp
  go_loopw [16] (fun ix wr => ∃ (k : Nat), ix = .int .i64 k ∧ k ≤ ys.length ∧ Hid (Kept w wr) ∧ Hid (Blk wr (w.heap.size + 1) ((filled (wths ls ys) 0 k).map (Value.int .i64)).toArray 2)) (fun ix _ => ys.length - (intOf ix).toNat)
  case atStart => exact ⟨0, rfl, by omega, HK, HR⟩
  case round =>
    clear HK HB HR
    obtain ⟨k, rfl, hk, HK, HR⟩ := hrel
    by_cases hlt : k < ys.length
    · obtain ⟨b, off, rfl, c0, c1, c2⟩ := (HX.out.kept HK.out).at k hlt
      obtain ⟨x, hxe⟩ : ∃ x, ys[k] = x := ⟨_, rfl⟩
      have ho := HY.out _ (List.getElem_mem hlt)
      have hF := wths_at ls ys k hlt (by rw [wths_len]; exact hlt)
      rw [hxe] at c0 c1 c2 ho hF
      obtain ⟨f, t, c⟩ := x
      simp only at c0 c1 c2
      simp only [ArcOk] at ho
      clear hxe
      have hc0 : 0 ≤ c := by omega
      have hc1 : c < 1125899906842624 := by omega
      clear ho
      have HF := Lib.hid hF
      clear hF
      have j0 : (0 : Int) ≤ (k : Int) := by omega
      have j1 : (k : Int) < (ys.length : Int) := by omega
      have HA := Lib.hid (Blk.new wr #[.int .i64 f, .int .i64 t, .int .i64 c] 67)
      have HK := Lib.hid (HK.out.trans ((Upd.refl (fun _ => False) _).alloc (.cells #[.int .i64 f, .int .i64 t, .int .i64 c] 67)))
      have HR := Lib.hid (HR.out.kept ((Upd.refl _ _).alloc (.cells #[.int .i64 f, .int .i64 t, .int .i64 c] 67)))
      go_upto_region 5 with (fail)
      clear c0 c1 c2
      generalize (wr.alloc (.cells #[.int .i64 f, .int .i64 t, .int .i64 c] 67)) = W1 at HA HK HR ⊢
      generalize wr.heap.size = xb at HA ⊢
      have ca := HA.out.cell
      by_cases hge : ls.length ≤ k
      · have j2 : (ls.length : Int) ≤ (k : Int) := by omega
        go_wp2_with fail
        go_roundw
        case rel => exact ⟨k + 1, by go_num, by omega, HK, Lib.hid (by rw [filled_same _ _ _ (by rw [wths_len]; exact hlt) (by rw [HF.out]; simp [wth, hge])]; exact HR.out)⟩
        case measure => simp [intOf]; omega
      · have j2 : ¬ (ls.length : Int) ≤ (k : Int) := by omega
        by_cases hft : f = t
        · have hb1 : (f == t) = true := by simpa using hft
          go_wp2_with fail
          go_roundw
          case rel => exact ⟨k + 1, by go_num, by omega, HK, Lib.hid (by rw [filled_same _ _ _ (by rw [wths_len]; exact hlt) (by rw [HF.out]; simp [wth, hft])]; exact HR.out)⟩
          case measure => simp [intOf]; omega
        · have hb1 : (f == t) = false := by simpa using hft
          have hkl : k < ls.length := by omega
          obtain ⟨lb, lo, rfl, cl⟩ := (HL.out.kept HK.out).at k (by simpa using hkl)
          rw [map_at hkl] at cl
          have hr := HI.out (ls.getD k 0) (by rw [show ls.getD k 0 = ls[k] by simp [hkl]]; exact List.getElem_mem hkl)
          have hW : wth ls k ⟨f, t, c⟩ = up0 (ls.getD k 0) % (c + 1) := by simp only [wth]; rw [if_neg (by simp only [not_or]; exact ⟨hge, hft⟩)]
          rw [hW] at HF
          generalize ls.getD k 0 = x at hr cl HF
          clear hW hft hge
          have j3 : (k : Int) < (ls.length : Int) := by omega
          obtain ⟨hr1, hr2⟩ := hr
          have hrem := fun (y : Int) (hy : 0 ≤ y) (w : World) (T : TypeId) => rem_i64 (P := Try.prog) (x := y) (y := c + 1) hy (by omega) (by omega) w T
          have hco := HR.out.filling (by rw [wths_len]; exact hlt)
          have hfo := HR.out.free k
          by_cases hx : x < 0
          · obtain ⟨y, hyy⟩ : ∃ y, -(x + 1) = y := ⟨_, rfl⟩
            have hu : up0 x = -(x + 1) := by simp [up0, hx]
            have w1 : wrap64 (x + 1) = x + 1 := by unfold wrap64; omega
            have w2 : wrap64 (-(x + 1)) = y := by unfold wrap64; omega
            go_upto_region 9 with (fail)
            clear w1 w2
            have hy0 : 0 ≤ y := by omega
            have hrm := hrem y hy0
            rw [hu, hyy] at HF
            clear hu hrem hyy hr1 hr2 hx
            have hq0 := Int.emod_nonneg y (show c + 1 ≠ 0 by omega)
            have hq1 := Int.emod_lt_of_pos y (show 0 < c + 1 by omega)
            have w3 : wrap64 (c + 1) = c + 1 := by unfold wrap64; omega
            have w4 : IntKind.i64.wrap (c + 1) = c + 1 := by rw [IntKind.wrap_i64]; omega
            have hc3 : c < 4611686018427387904 := by omega
            go_wp2_with fail
            go_roundw
            case rel => exact ⟨k + 1, by go_num, by omega, Lib.hid (HK.out.then (Upd.setCell (S := fun i => i = w.heap.size + 1) (Upd.refl _ _) (.inl rfl) _) (fun i hi e => by omega)), Lib.hid (by
              have h2 := HR.out.fill (by rw [wths_len]; exact hlt)
              rw [HF.out] at h2
              exact h2)⟩
            case measure => simp [intOf]; omega
          · have hu : up0 x = x := by simp [up0, hx]
            go_upto_region 9 with (fail)
            have hy0 : 0 ≤ x := by omega
            have hrm := hrem x hy0
            rw [hu] at HF
            clear hu hrem hr1 hr2 hx
            have hq0 := Int.emod_nonneg x (show c + 1 ≠ 0 by omega)
            have hq1 := Int.emod_lt_of_pos x (show 0 < c + 1 by omega)
            have w3 : wrap64 (c + 1) = c + 1 := by unfold wrap64; omega
            have w4 : IntKind.i64.wrap (c + 1) = c + 1 := by rw [IntKind.wrap_i64]; omega
            have hc3 : c < 4611686018427387904 := by omega
            go_wp2_with fail
            go_roundw
            case rel => exact ⟨k + 1, by go_num, by omega, Lib.hid (HK.out.then (Upd.setCell (S := fun i => i = w.heap.size + 1) (Upd.refl _ _) (.inl rfl) _) (fun i hi e => by omega)), Lib.hid (by
              have h2 := HR.out.fill (by rw [wths_len]; exact hlt)
              rw [HF.out] at h2
              exact h2)⟩
            case measure => simp [intOf]; omega
    · have hkM : k = ys.length := by omega
      subst hkM
      go_wp2_with fail
      go_ret
      refine ⟨_, rfl, ?_, by omega, HK.out⟩
      have h2 := HR.out
      rw [← wths_len ls ys, filled_all] at h2
      exact h2
end Go.Proofs.Yticeionjlknlcaa
