/- relaxed.Right (printed by gen_relright.py) -/
import Derived.Test.YtdhimfkmgcfohaaRelHeights
import Derived.Test.YtdhimfkmgcfohaaRelPairs
import Derived.Test.YtdhimfkmgcfohaaRelExcess
import Derived.Deep.CutRange
import Derived.Deep.RegionHeld3
import Derived.Deep.MidRow
import Derived.Deep.Onto
namespace Go.Proofs.Ytdhimfkmgcfohaa
set_option linter.unusedVariables false
set_option linter.unusedSimpArgs false
open Go.RowKit
attribute [local go_sem] cell?_ext

def rightP (N S T : Int) (n m : Nat) (ys : List Ar) (p : PS) : Bool := decide (p.rs.length = m) && (decide (p.es.length = n) && (decide (p.hs.length = n) && (heightsB N S T p.hs && (pairsB n m ys p.rs && excessB S n m ys p.rs p.es))))
set_option maxRecDepth 100000 in
set_option maxHeartbeats 8000000 in
theorem relRight_any (N S T : Int) (n m : Nat) (a3 a4 a5 a6 a7 a8 : Option Addr) (c3 c4 c5 c6 c7 c8 : Nat) (ys : List Ar) (p : PS) (ra : Option Addr) (rc : Nat) (ea : Option Addr) (ec : Nat) (za : Option Addr) (zc : Nat) (rl el zl : Nat) (w : World) (hg : Gr N S T n m ys) (hcr : CsrR w n ys a3 a4 a5 a6 a7 a8) (hr : Rd w ra (lv p.rs)) (he : Rd w ea (lv p.es)) (hz : Rd w za (lv p.hs)) (h1 : p.rs.length = rl) (h2 : p.es.length = el) (h3 : p.hs.length = zl) (hri : ∀ x ∈ p.rs, -9223372036854775808 ≤ x ∧ x ≤ 9223372036854775807) :
    Calls Try.prog 10 #[.agg #[.int .i64 N, .int .i64 S, .int .i64 T, .slice a3 (n + 1) c3, .slice a4 m c4, .slice a5 m c5, .slice a6 m c6, .slice a7 m c7, .slice a8 m c8], .agg #[.slice ra rl rc, .slice ea el ec, .slice za zl zc]] w fun e w' => e = .returned (.bool (rightP N S T n m ys p)) ∧ Kept w w' := by
  have hs1 : (w.alloc (.cells #[.int .i64 N, .int .i64 S, .int .i64 T, .slice a3 (n + 1) c3, .slice a4 m c4, .slice a5 m c5, .slice a6 m c6, .slice a7 m c7, .slice a8 m c8] 32)).heap.size = w.heap.size + 1 := World.size_alloc _ _
  have hs2 : ((w.alloc (.cells #[.int .i64 N, .int .i64 S, .int .i64 T, .slice a3 (n + 1) c3, .slice a4 m c4, .slice a5 m c5, .slice a6 m c6, .slice a7 m c7, .slice a8 m c8] 32)).alloc (.cells #[.slice ra rl rc, .slice ea el ec, .slice za zl zc] 29)).heap.size = w.heap.size + 1 + 1 := by rw [← hs1]; exact World.size_alloc _ _
  have HK := Lib.hid ((((Upd.refl (fun _ => False) w).alloc (.cells #[.int .i64 N, .int .i64 S, .int .i64 T, .slice a3 (n + 1) c3, .slice a4 m c4, .slice a5 m c5, .slice a6 m c6, .slice a7 m c7, .slice a8 m c8] 32)).alloc (.cells #[.slice ra rl rc, .slice ea el ec, .slice za zl zc] 29)).alloc (.cells #[.int .i64 N, .int .i64 S, .int .i64 T, .slice a3 (n + 1) c3, .slice a4 m c4, .slice a5 m c5, .slice a6 m c6, .slice a7 m c7, .slice a8 m c8, .slice ra rl rc, .slice ea el ec, .slice za zl zc] 73))
  have HB := Lib.hid (((Blk.new w #[.int .i64 N, .int .i64 S, .int .i64 T, .slice a3 (n + 1) c3, .slice a4 m c4, .slice a5 m c5, .slice a6 m c6, .slice a7 m c7, .slice a8 m c8] 32).alloc (.cells #[.slice ra rl rc, .slice ea el ec, .slice za zl zc] 29)).alloc (.cells #[.int .i64 N, .int .i64 S, .int .i64 T, .slice a3 (n + 1) c3, .slice a4 m c4, .slice a5 m c5, .slice a6 m c6, .slice a7 m c7, .slice a8 m c8, .slice ra rl rc, .slice ea el ec, .slice za zl zc] 73))
  have HP := Lib.hid ((Blk.new (w.alloc (.cells #[.int .i64 N, .int .i64 S, .int .i64 T, .slice a3 (n + 1) c3, .slice a4 m c4, .slice a5 m c5, .slice a6 m c6, .slice a7 m c7, .slice a8 m c8] 32)) #[.slice ra rl rc, .slice ea el ec, .slice za zl zc] 29).alloc (.cells #[.int .i64 N, .int .i64 S, .int .i64 T, .slice a3 (n + 1) c3, .slice a4 m c4, .slice a5 m c5, .slice a6 m c6, .slice a7 m c7, .slice a8 m c8, .slice ra rl rc, .slice ea el ec, .slice za zl zc] 73))
  have HS := Lib.hid (Blk.new ((w.alloc (.cells #[.int .i64 N, .int .i64 S, .int .i64 T, .slice a3 (n + 1) c3, .slice a4 m c4, .slice a5 m c5, .slice a6 m c6, .slice a7 m c7, .slice a8 m c8] 32)).alloc (.cells #[.slice ra rl rc, .slice ea el ec, .slice za zl zc] 29)) #[.int .i64 N, .int .i64 S, .int .i64 T, .slice a3 (n + 1) c3, .slice a4 m c4, .slice a5 m c5, .slice a6 m c6, .slice a7 m c7, .slice a8 m c8, .slice ra rl rc, .slice ea el ec, .slice za zl zc] 73)
  rw [hs1] at HP
  rw [hs2] at HS
  obtain ⟨V, hV⟩ : ∃ V, rightP N S T n m ys p = V := ⟨_, rfl⟩
  rw [hV]
  obtain ⟨y1, hy1⟩ : ∃ q, heightsB N S T p.hs = q := ⟨_, rfl⟩
  obtain ⟨y2, hy2⟩ : ∃ q, pairsB n m ys p.rs = q := ⟨_, rfl⟩
  obtain ⟨y3, hy3⟩ : ∃ q, excessB S n m ys p.rs p.es = q := ⟨_, rfl⟩
  have HV : Hid (V = (decide (rl = m) && (decide (el = n) && (decide (zl = n) && (y1 && (y2 && y3)))))) := Lib.hid (by rw [← hV, ← hy1, ← hy2, ← hy3, ← h1, ← h2, ← h3]; rfl)
  have hl16 := hg.len
  have hso : el = n → SomeOr ea n ec := fun e => .inl (by obtain ⟨b, o, e, -⟩ := he.num (i := 0) (by omega); exact ⟨_, e⟩)
  have hHE : ∀ W, Kept w W → rl = m → el = n → zl = n → Hid (Calls Try.prog 32 #[.agg #[.int .i64 N, .int .i64 S, .int .i64 T, .slice a3 (n + 1) c3, .slice a4 m c4, .slice a5 m c5, .slice a6 m c6, .slice a7 m c7, .slice a8 m c8, .slice ra rl rc, .slice ea el ec, .slice za zl zc]] W fun e w' => e = .returned (.bool y1) ∧ Kept W w') := by
    intro W k e1 e2 e3
    have hk : p.ok n m := ⟨h1.trans e1, h2.trans e2, h3.trans e3⟩
    have h := heights_any N S T n m a3 a4 a5 a6 a7 a8 c3 c4 c5 c6 c7 c8 ys p ra rc ea ec za zc W hg (hcr.kept k) hk (hr.kept k) (he.kept k) (hz.kept k)
    rw [hy1] at h
    rw [e1, e2, e3]
    exact Lib.hid h
  have hPA : ∀ W, Kept w W → rl = m → el = n → zl = n → Hid (Calls Try.prog 33 #[.agg #[.int .i64 N, .int .i64 S, .int .i64 T, .slice a3 (n + 1) c3, .slice a4 m c4, .slice a5 m c5, .slice a6 m c6, .slice a7 m c7, .slice a8 m c8, .slice ra rl rc, .slice ea el ec, .slice za zl zc]] W fun e w' => e = .returned (.bool y2) ∧ Kept W w') := by
    intro W k e1 e2 e3
    have h := pairs_any N S T n m a3 a4 a5 a6 a7 a8 c3 c4 c5 c6 c7 c8 ys p ra rc ea ec za zc W hg (hcr.kept k) (h1.trans e1) (hr.kept k) hri
    rw [hy2] at h
    rw [e1, e2, e3]
    exact Lib.hid h
  have hEX : ∀ W, Kept w W → rl = m → el = n → zl = n → Hid (Calls Try.prog 34 #[.agg #[.int .i64 N, .int .i64 S, .int .i64 T, .slice a3 (n + 1) c3, .slice a4 m c4, .slice a5 m c5, .slice a6 m c6, .slice a7 m c7, .slice a8 m c8, .slice ra rl rc, .slice ea el ec, .slice za zl zc]] W fun e w' => e = .returned (.bool y3) ∧ Kept W w') := by
    intro W k e1 e2 e3
    have hk : p.ok n m := ⟨h1.trans e1, h2.trans e2, h3.trans e3⟩
    have h := excess_any N S T n m a3 a4 a5 a6 a7 a8 c3 c4 c5 c6 c7 c8 ys p ra rc ea ec za zc W hg (hcr.kept k) hk (hr.kept k) (he.kept k) (hz.kept k) (hso e2)
    rw [hy3] at h
    rw [e1, e2, e3]
    exact Lib.hid h
  clear hso
  have hNn : (n : Int) = N := hl16.1
  have hN0 : (0 : Int) < N := by omega
  have c0 : decide ((0 : Int) < N) = true := by simpa using hN0
  clear hg hcr hr he hz h1 h2 h3 hri hV hy1 hy2 hy3 hl16
  go_enter Try.func10, Try.ntmps10
  go_upto_region 2 with (fail)
  try rw [hs2]
  try rw [hs1]
  clear hs1 hs2
  generalize (((w.alloc (.cells #[.int .i64 N, .int .i64 S, .int .i64 T, .slice a3 (n + 1) c3, .slice a4 m c4, .slice a5 m c5, .slice a6 m c6, .slice a7 m c7, .slice a8 m c8] 32)).alloc (.cells #[.slice ra rl rc, .slice ea el ec, .slice za zl zc] 29)).alloc (.cells #[.int .i64 N, .int .i64 S, .int .i64 T, .slice a3 (n + 1) c3, .slice a4 m c4, .slice a5 m c5, .slice a6 m c6, .slice a7 m c7, .slice a8 m c8, .slice ra rl rc, .slice ea el ec, .slice za zl zc] 73)) = W0 at HK HB HP HS ⊢
  generalize w.heap.size + 1 + 1 = sb at HS ⊢
  generalize w.heap.size + 1 = pb at HP ⊢
  generalize w.heap.size = cb at HB ⊢
  have bx := HB.out.cell
  have px := HP.out.cell
  have sx := HS.out.cell
  have HLN := fun u => Lib.hid (len_any N S T n m a3 a4 a5 a6 a7 a8 c3 c4 c5 c6 c7 c8 (ext W0 u))
  by_cases q1 : rl = m
  · have c1 : ((rl : Int) == (m : Int)) = true := by simp; omega
    by_cases q2 : el = n
    · have c2 : ((el : Int) == N) = true := by simp; omega
      by_cases q3 : zl = n
      · have c3 : ((zl : Int) == N) = true := by simp; omega
        have HHE := fun u => hHE (ext W0 u) (HK.out.trans (kept_ext W0 u)) q1 q2 q3
        have HPA := fun u => hPA (ext W0 u) (HK.out.trans (kept_ext W0 u)) q1 q2 q3
        have HEX := fun u => hEX (ext W0 u) (HK.out.trans (kept_ext W0 u)) q1 q2 q3
        have HV2 : Hid (V = (y1 && (y2 && y3))) := Lib.hid (by rw [HV.out]; simp [q1, q2, q3])
        clear hHE hPA hEX q1 q2 q3 HV hNn
        cases y1
        · as_aux_lemma =>
          have HZF : Hid (V = false) := Lib.hid (by rw [HV2.out]; rfl)
          refine wp_region_kept (by kernel_rfl) (by kernel_rfl) ?_
          repeat (go_big_quiet_step ((first
              | (go_at_call 31; exact kept_call (HLN _).out)
              | (go_at_call 32; exact kept_call (HHE _).out)
              | (go_at_call 33; exact kept_call (HPA _).out)
              | (go_at_call 34; exact kept_call (HEX _).out))))
          refine wpQuiet_nil ?_
          intro w1 hk1
          have HKF := Lib.hid (HK.out.trans hk1)
          clear hk1
          go_wp2_with fail
          go_ret
          exact ⟨by rw [HZF.out]; rfl, HKF.out⟩
        · cases y2
          · as_aux_lemma =>
            have HZF : Hid (V = false) := Lib.hid (by rw [HV2.out]; rfl)
            refine wp_region_kept (by kernel_rfl) (by kernel_rfl) ?_
            repeat (go_big_quiet_step ((first
                | (go_at_call 31; exact kept_call (HLN _).out)
                | (go_at_call 32; exact kept_call (HHE _).out)
                | (go_at_call 33; exact kept_call (HPA _).out)
                | (go_at_call 34; exact kept_call (HEX _).out))))
            refine wpQuiet_nil ?_
            intro w1 hk1
            have HKF := Lib.hid (HK.out.trans hk1)
            clear hk1
            go_wp2_with fail
            go_ret
            exact ⟨by rw [HZF.out]; rfl, HKF.out⟩
          · as_aux_lemma =>
            have HZF : Hid (V = y3) := Lib.hid (by rw [HV2.out]; rfl)
            refine wp_region_kept (by kernel_rfl) (by kernel_rfl) ?_
            repeat (go_big_quiet_step ((first
                | (go_at_call 31; exact kept_call (HLN _).out)
                | (go_at_call 32; exact kept_call (HHE _).out)
                | (go_at_call 33; exact kept_call (HPA _).out)
                | (go_at_call 34; exact kept_call (HEX _).out))))
            refine wpQuiet_nil ?_
            intro w1 hk1
            have HKF := Lib.hid (HK.out.trans hk1)
            clear hk1
            go_wp2_with fail
            go_ret
            exact ⟨by rw [HZF.out]; rfl, HKF.out⟩
      · as_aux_lemma =>
        have c3 : ((zl : Int) == N) = false := by simp; omega
        have HZF : Hid (V = false) := Lib.hid (by rw [HV.out]; simp [q3])
        clear q1 q2 q3 hHE hPA hEX hNn
        refine wp_region_kept (by kernel_rfl) (by kernel_rfl) ?_
        repeat (go_big_quiet_step ((go_at_call 31; exact kept_call (HLN _).out)))
        refine wpQuiet_nil ?_
        intro w1 hk1
        have HKF := Lib.hid (HK.out.trans hk1)
        clear hk1
        go_wp2_with fail
        go_ret
        exact ⟨by rw [HZF.out]; rfl, HKF.out⟩
    · as_aux_lemma =>
      have c2 : ((el : Int) == N) = false := by simp; omega
      have HZF : Hid (V = false) := Lib.hid (by rw [HV.out]; simp [q2])
      clear q1 q2 hHE hPA hEX hNn
      refine wp_region_kept (by kernel_rfl) (by kernel_rfl) ?_
      repeat (go_big_quiet_step ((go_at_call 31; exact kept_call (HLN _).out)))
      refine wpQuiet_nil ?_
      intro w1 hk1
      have HKF := Lib.hid (HK.out.trans hk1)
      clear hk1
      go_wp2_with fail
      go_ret
      exact ⟨by rw [HZF.out]; rfl, HKF.out⟩
  · as_aux_lemma =>
    have c1 : ((rl : Int) == (m : Int)) = false := by simp; omega
    have HZF : Hid (V = false) := Lib.hid (by rw [HV.out]; simp [q1])
    clear q1 hHE hPA hEX hNn
    refine wp_region_kept (by kernel_rfl) (by kernel_rfl) ?_
    repeat (go_big_quiet_step ((go_at_call 31; exact kept_call (HLN _).out)))
    refine wpQuiet_nil ?_
    intro w1 hk1
    have HKF := Lib.hid (HK.out.trans hk1)
    clear hk1
    go_wp2_with fail
    go_ret
    exact ⟨by rw [HZF.out]; rfl, HKF.out⟩

end Go.Proofs.Ytdhimfkmgcfohaa
