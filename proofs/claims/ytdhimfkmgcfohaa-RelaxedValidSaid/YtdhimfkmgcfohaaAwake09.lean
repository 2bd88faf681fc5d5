/- The chapter's examples. (printed by gen_awake09.py) -/
import Derived.Test.YtdhimfkmgcfohaaRelBegun
import Derived.Test.YtdhimfkmgcfohaaRelRight
import Derived.Test.YtdhimfkmgcfohaaRelStrict
import Derived.Test.YtdhimfkmgcfohaaRelMove
import Derived.Deep.CutRange
import Derived.Deep.RegionHeld3
import Derived.Deep.MidRow
import Derived.Deep.Onto
import Derived.Deep.CutRange
namespace Go.Proofs.Ytdhimfkmgcfohaa
set_option linter.unusedVariables false
set_option linter.unusedSimpArgs false
open Go.RowKit
attribute [local go_sem] cell?_ext

/-- What was there ahead of a region, after it. -/
structure KK (w W : World) : Prop where
  k : Kept w W
theorem KK.kept {w W W' : World} (h : KK w W) (hk : Kept W W') : KK w W' := ⟨h.k.trans hk⟩
theorem KK.up {w W : World} (h : KK w W) : w.heap.size ≤ W.heap.size := h.k.size
theorem KK.upd {w W W' : World} {xb : Nat} (h : KK w W) (hU : Upd (fun k => k = xb) W W') (hx : w.heap.size ≤ xb) : KK w W' := ⟨h.k.then hU (fun i hi e => by omega)⟩
def exB : List Ar := [⟨0, 1, 5⟩, ⟨1, 2, 5⟩]
theorem exBOk : NetOk 3 0 2 exB := ⟨by omega, by omega, by omega, by omega, by omega, by decide, by simp [exB, ArcOk]⟩
theorem exBGr : Gr 3 0 2 3 4 exB := ⟨exBOk, by decide, by decide +kernel⟩
theorem arsNewB (W : World) (ys : List Ar) : Ars (W.alloc (.cells (acells ys).toArray 68)) (some ⟨W.heap.size, 0, none⟩) ys :=
  .inr ⟨W.heap.size, 0, rfl, fun i u hu => by rw [Nat.zero_add, (Blk.new W _ _).cell]; simpa using hu⟩
def exP : PS := ⟨[0, 5, 5, 0], [-5, 5, 0], [3, 1, 0]⟩
theorem exP_is : (⟨(begP 3 0 3 exB).rs, (begP 3 0 3 exB).es, (begP 3 0 3 exB).hs.set 1 1⟩ : PS) = exP := by
  show PS.mk (resAll (exB.map (begF 0)) 3 exB) (begL 0 3 exB exB.length) (((List.replicate 3 0).set (0 : Int).toNat 3).set 1 1) = _
  rw [show resAll (exB.map (begF 0)) 3 exB = [0, 5, 5, 0] by decide +kernel, show begL 0 3 exB exB.length = [-5, 5, 0] by decide +kernel]
  rfl
theorem exP_ok : exP.ok 3 4 := ⟨rfl, rfl, rfl⟩
theorem ex1 : rightP 3 0 2 3 4 exB exP = true := by decide +kernel
theorem ex2 : legalP 3 0 2 exB exP ⟨0, 1, 1, 2, 3, 1, 0⟩ = 0 := by decide +kernel
theorem ex3 : strictP 3 0 2 3 exB exP ⟨0, 1, 1, 2, 3, 1, 0⟩ = false := by decide +kernel
theorem ex4 : strictP 3 0 2 3 exB exP ⟨0, 1, 1, 2, 5, 1, 0⟩ = true := by decide +kernel
theorem ex5 : legalP 3 0 2 exB exP ⟨0, 1, 1, 2, 3, 1, 1⟩ = 30 := by decide +kernel
theorem ex6 : legalP 3 0 2 exB exP ⟨0, 2, 1, 0, 0, 6, 0⟩ = 0 := by decide +kernel
theorem ex7 : legalP 3 0 2 exB exP ⟨0, 2, 1, 0, 0, 1, 0⟩ = 30 := by decide +kernel
theorem ex8 : legalP 3 0 2 exB exP ⟨0, 2, 1, 0, 0, 7, 0⟩ = 30 := by decide +kernel
theorem ex9 : legalP 3 0 2 exB exP ⟨0, 2, 2, 0, 0, 6, 0⟩ = 2 := by decide +kernel
def BegB (w : World) (e : Ending) (w' : World) : Prop := ∃ lo B a3 c3 a4 c4 a5 c5 a6 c6 a7 c7 a8 c8 ra rc ea ec gz zc, e = .returned (.tuple #[.agg #[.int .i64 3, .int .i64 0, .int .i64 2, .slice a3 4 c3, .slice a4 4 c4, .slice a5 4 c5, .slice a6 4 c6, .slice a7 4 c7, .slice a8 4 c8], .agg #[.slice ra 4 rc, .slice ea 3 ec, .slice (some ⟨gz, 0, none⟩) 3 zc]]) ∧
  CsrR w' 3 exB a3 a4 a5 a6 a7 a8 ∧ CsrL lo B a3 a4 a5 a6 a7 a8 ∧ w.heap.size ≤ B ∧ OwnP w' B (begP 3 0 3 exB) 3 4 ra rc ea ec (some ⟨gz, 0, none⟩) zc ∧ Kept w w'
theorem begun_ex (g : Nat) (w : World) (h : Ars w (some ⟨g, 0, none⟩) exB) : Calls Try.prog 8 #[.agg #[.int .i64 3, .int .i64 0, .int .i64 2, .slice (some ⟨g, 0, none⟩) 2 2]] w (BegB w) := by
  refine (begun_any 3 0 2 (some ⟨g, 0, none⟩) 2 2 exB w h rfl exBOk).mono ?_
  rintro e w' ⟨n, m, lo, B, a3, c3, a4, c4, a5, c5, a6, c6, a7, c7, a8, c8, ra, rc, ea, ec, za, zc, rfl, hg, hcr, hcl, hb, ho, hk⟩
  have hn3 : n = 3 := by rw [← hg.hn]; rfl
  subst hn3
  have hm4 : m = 4 := by rw [← hg.hm]; exact exBGr.hm
  subst hm4
  rcases ho.z.2 with ⟨h, h2⟩ | ⟨gz, cap, cur, hv, _⟩
  · exact absurd h2 (by decide)
  · cases hv
    exact ⟨lo, B, a3, c3, a4, c4, a5, c5, a6, c6, a7, c7, a8, c8, ra, rc, ea, ec, gz, _, rfl, hcr, hcl, hb, ho, hk⟩
theorem right_ex {a3 a4 a5 a6 a7 a8 : Option Addr} {c3 c4 c5 c6 c7 c8 : Nat} {ra : Option Addr} {rc : Nat} {ea : Option Addr} {ec : Nat} {gz zc B : Nat} (w : World) (hcr : CsrR w 3 exB a3 a4 a5 a6 a7 a8) (ho : OwnP w B exP 3 4 ra rc ea ec (some ⟨gz, 0, none⟩) zc) : Calls Try.prog 10 #[.agg #[.int .i64 3, .int .i64 0, .int .i64 2, .slice a3 4 c3, .slice a4 4 c4, .slice a5 4 c5, .slice a6 4 c6, .slice a7 4 c7, .slice a8 4 c8], .agg #[.slice ra 4 rc, .slice ea 3 ec, .slice (some ⟨gz, 0, none⟩) 3 zc]] w fun e w' => e = .returned (.bool true) ∧ Kept w w' := by
  obtain ⟨r1, r2, r3, s1, s2, s3⟩ := ho.rd
  have h := relRight_any 3 0 2 3 4 a3 a4 a5 a6 a7 a8 c3 c4 c5 c6 c7 c8 exB exP ra rc ea ec (some ⟨gz, 0, none⟩) zc 4 3 3 w exBGr hcr r1 r2 r3 rfl rfl rfl (by decide)
  rw [ex1] at h
  exact h
theorem legal_ex {a3 a4 a5 a6 a7 a8 : Option Addr} {c3 c4 c5 c6 c7 c8 : Nat} {ra : Option Addr} {rc : Nat} {ea : Option Addr} {ec : Nat} {gz zc B : Nat} (w : World) (hcr : CsrR w 3 exB a3 a4 a5 a6 a7 a8) (ho : OwnP w B exP 3 4 ra rc ea ec (some ⟨gz, 0, none⟩) zc) {who u ar d h lo v : Int} {wt : Int} (hv : legalP 3 0 2 exB exP ⟨who, wt, u, ar, d, h, lo⟩ = v) (hwt : (Lit.int .u8 wt).wf = true) : Calls Try.prog 16 #[.agg #[.int .i64 3, .int .i64 0, .int .i64 2, .slice a3 4 c3, .slice a4 4 c4, .slice a5 4 c5, .slice a6 4 c6, .slice a7 4 c7, .slice a8 4 c8], .agg #[.slice ra 4 rc, .slice ea 3 ec, .slice (some ⟨gz, 0, none⟩) 3 zc], .agg #[.int .i64 who, .int .u8 wt, .int .i64 u, .int .i64 ar, .int .i64 d, .int .i64 h, .int .i64 lo]] w fun e w' => e = .returned (.int .i64 v) ∧ Kept w w' := by
  obtain ⟨r1, r2, r3, s1, s2, s3⟩ := ho.rd
  have h := legal_any 3 0 2 3 4 a3 a4 a5 a6 a7 a8 c3 c4 c5 c6 c7 c8 exB exP ra rc ea ec (some ⟨gz, 0, none⟩) zc who wt u ar d h lo w exBGr hcr exP_ok r1 r2 r3 hwt
  rw [hv] at h
  exact h
theorem strict_ex {a3 a4 a5 a6 a7 a8 : Option Addr} {c3 c4 c5 c6 c7 c8 : Nat} {ra : Option Addr} {rc : Nat} {ea : Option Addr} {ec : Nat} {gz zc B : Nat} (w : World) (hcr : CsrR w 3 exB a3 a4 a5 a6 a7 a8) (ho : OwnP w B exP 3 4 ra rc ea ec (some ⟨gz, 0, none⟩) zc) {who u ar d h lo : Int} {wt : Int} {v : Bool} (hv : strictP 3 0 2 3 exB exP ⟨who, wt, u, ar, d, h, lo⟩ = v) (hwt : (Lit.int .u8 wt).wf = true) : Calls Try.prog 17 #[.agg #[.int .i64 3, .int .i64 0, .int .i64 2, .slice a3 4 c3, .slice a4 4 c4, .slice a5 4 c5, .slice a6 4 c6, .slice a7 4 c7, .slice a8 4 c8], .agg #[.slice ra 4 rc, .slice ea 3 ec, .slice (some ⟨gz, 0, none⟩) 3 zc], .agg #[.int .i64 who, .int .u8 wt, .int .i64 u, .int .i64 ar, .int .i64 d, .int .i64 h, .int .i64 lo]] w fun e w' => e = .returned (.bool v) ∧ Kept w w' := by
  obtain ⟨r1, r2, r3, s1, s2, s3⟩ := ho.rd
  have h := strict_any 3 0 2 3 4 a3 a4 a5 a6 a7 a8 c3 c4 c5 c6 c7 c8 exB exP ra rc ea ec (some ⟨gz, 0, none⟩) zc who wt u ar d h lo w exBGr hcr exP_ok r1 r2 r3 hwt (by decide)
  rw [hv] at h
  exact h
set_option maxRecDepth 100000 in
set_option maxHeartbeats 4000000 in
theorem awake09_any (w : World) : Calls Try.prog 21 #[] w fun e w' => e = .returned (.bool true) ∧ Kept w w' := by
  have HB := fun (w : World) (g : Nat) (h : Ars w (some ⟨g, 0, none⟩) exB) => Lib.hid (begun_ex g w h)
  have HAN := Lib.hid (arsNewB w exB)
  go_enter Try.func21, Try.ntmps21
  go_wp2_with fail
  refine (HB _ _ HAN.out).out.mono ?_
  rintro e w1 ⟨lo, B, a3, c3, a4, c4, a5, c5, a6, c6, a7, c7, a8, c8, ra, rc, ea, ec, gz, zc, rfl, hcr, hcl, hb, ho, hk⟩
  have hkk := ((Upd.refl (fun _ => False) w1).alloc (.cells #[.int .i64 3, .int .i64 0, .int .i64 2, .slice a3 4 c3, .slice a4 4 c4, .slice a5 4 c5, .slice a6 4 c6, .slice a7 4 c7, .slice a8 4 c8] 32)).alloc (.cells #[.slice ra 4 rc, .slice ea 3 ec, .slice (some ⟨gz, 0, none⟩) 3 zc] 29)
  have hs1 : (w1.alloc (.cells #[.int .i64 3, .int .i64 0, .int .i64 2, .slice a3 4 c3, .slice a4 4 c4, .slice a5 4 c5, .slice a6 4 c6, .slice a7 4 c7, .slice a8 4 c8] 32)).heap.size = w1.heap.size + 1 := World.size_alloc _ _
  have HC := Lib.hid ((Blk.new w1 #[.int .i64 3, .int .i64 0, .int .i64 2, .slice a3 4 c3, .slice a4 4 c4, .slice a5 4 c5, .slice a6 4 c6, .slice a7 4 c7, .slice a8 4 c8] 32).alloc (.cells #[.slice ra 4 rc, .slice ea 3 ec, .slice (some ⟨gz, 0, none⟩) 3 zc] 29))
  have HP := Lib.hid (Blk.new (w1.alloc (.cells #[.int .i64 3, .int .i64 0, .int .i64 2, .slice a3 4 c3, .slice a4 4 c4, .slice a5 4 c5, .slice a6 4 c6, .slice a7 4 c7, .slice a8 4 c8] 32)) #[.slice ra 4 rc, .slice ea 3 ec, .slice (some ⟨gz, 0, none⟩) 3 zc] 29)
  rw [hs1] at HP
  have HCR := Lib.hid (hcr.kept hkk)
  have HCL := Lib.hid hcl
  have HBB := Lib.hid hb
  have HO := Lib.hid (ho.kept hkk)
  have HK := Lib.hid ((((Upd.refl (fun _ => False) w).alloc (.cells (acells exB).toArray 68)).trans hk).trans hkk)
  have HBW := Lib.hid (show w.heap.size ≤ B by have := World.size_alloc w (.cells (acells exB).toArray 68); omega)
  clear hcr ho hk HB HAN hkk hcl hb
  go_upto_region 4 with (fail)
  try rw [hs1]
  clear hs1
  generalize ((w1.alloc (.cells #[.int .i64 3, .int .i64 0, .int .i64 2, .slice a3 4 c3, .slice a4 4 c4, .slice a5 4 c5, .slice a6 4 c6, .slice a7 4 c7, .slice a8 4 c8] 32)).alloc (.cells #[.slice ra 4 rc, .slice ea 3 ec, .slice (some ⟨gz, 0, none⟩) 3 zc] 29)) = W2 at HC HP HCR HO HK ⊢
  generalize w1.heap.size + 1 = pb at HP ⊢
  generalize w1.heap.size = cb at HC ⊢
  have cA : W2.cell? ⟨gz, 1, none⟩ = some (.int .i64 0) := HO.out.z.cellAt 1 (by decide)
  have fA : W2.frozen? ⟨gz, 1, none⟩ = false := HO.out.z.frozenAt 1
  have px := HP.out.cell
  go_upto_region 5 with (fail)
  clear cA fA px
  have hu := updCellO W2 gz 1 (.int .i64 1)
  have HO5 : Hid (OwnP (W2.setCell ⟨gz, 1, none⟩ (.int .i64 1)) B exP 3 4 ra rc ea ec (some ⟨gz, 0, none⟩) zc) := Lib.hid (by have h := HO.out.setZ 1 1; rw [exP_is] at h; exact h)
  have HC5 := Lib.hid (HC.out.upd hu (fun e => HO.out.box HC.out (by decide) (by decide) (.inr (.inr (by rw [e]; rfl)))))
  have HP5 := Lib.hid (HP.out.upd hu (fun e => HO.out.box HP.out (by decide) (by decide) (.inr (.inr (by rw [e]; rfl)))))
  have HGB := (HO.out.ge (b := gz) (.inr (.inr rfl))).1
  have HCR5 := Lib.hid (HCR.out.upd HCL.out hu (fun k h1 h2 e => by have e2 : k = gz := e; omega))
  have HK5 := Lib.hid (HK.out.then hu (fun i hi e => by have := HBW.out; have e2 : i = gz := e; omega))
  clear hu HO HC HP HCR HK HGB HCL HBB HBW
  generalize W2.setCell ⟨gz, 1, none⟩ (.int .i64 1) = W5 at HO5 HC5 HP5 HCR5 HK5 ⊢
  go_upto_region 6 with (fail)
  have HZ7 : Hid ((Try.prog.info? 39).map (·.size) = some 7) := Lib.hid (by kernel_rfl)
  have EB6 := Lib.hid (Blk.new W5 #[.int .i64 0, .int .u8 1, .int .i64 1, .int .i64 2, .int .i64 3, .int .i64 1, .int .i64 0] 39)
  obtain ⟨W6, hW6⟩ : ∃ W6, W6 = W5.alloc (.cells #[.int .i64 0, .int .u8 1, .int .i64 1, .int .i64 2, .int .i64 3, .int .i64 1, .int .i64 0] 39) := ⟨_, rfl⟩
  rw [← hW6] at EB6 ⊢
  have HW6 := Lib.hid hW6
  clear hW6
  generalize W5.heap.size = eb at EB6 ⊢
  refine wp_region_inv (fun l us W => ∃ (b0 b1 b2 b3 b4 b5 : Bool) (v26 v27 v4 v5 : Value) (xb yb : Nat), l = #[b0, b1, b2, b3, b4, b5] ∧ us = [v26, v27, v4, v5] ∧ Hid (KK W6 W) ∧
      Hid (b0 = true → v26 = .agg #[.int .i64 0, .int .u8 1, .int .i64 1, .int .i64 2, .int .i64 3, .int .i64 1, .int .i64 0]) ∧
      Hid (b1 = true → v27 = .agg #[.int .i64 0, .int .u8 1, .int .i64 1, .int .i64 2, .int .i64 3, .int .i64 1, .int .i64 0]) ∧
      Hid (b2 = true → v4 = .pointer (some ⟨xb, 0, none⟩) ∧ W6.heap.size ≤ xb ∧ Blk W xb (if b4 then #[.int .i64 0, .int .u8 1, .int .i64 1, .int .i64 2, .int .i64 3, .int .i64 1, .int .i64 0] else #[.int .i64 0, .int .u8 0, .int .i64 0, .int .i64 0, .int .i64 0, .int .i64 0, .int .i64 0]) 39) ∧
      Hid (b3 = true → v5 = .pointer (some ⟨yb, 0, none⟩) ∧ W6.heap.size ≤ yb ∧ Blk W yb (if b5 then #[.int .i64 0, .int .u8 1, .int .i64 1, .int .i64 2, .int .i64 3, .int .i64 1, .int .i64 0] else #[.int .i64 0, .int .u8 0, .int .i64 0, .int .i64 0, .int .i64 0, .int .i64 0, .int .i64 0]) 39) ∧
      Hid (b2 = true → b3 = true → ¬ xb = yb) ∧
      Hid (b4 = true → b2 = true) ∧
      Hid (b5 = true → b3 = true)) [26, 27, 4, 5] [undef, undef, undef, undef] (by kernel_rfl) (by kernel_rfl) (by simp only [putAll, Act.put, List.setIfInBounds_toArray, List.set_cons_zero, List.set_cons_succ]) ?_ ?_ ?_
  · exact ⟨false, false, false, false, false, false, _, _, _, _, 0, 0, rfl, rfl, Lib.hid (⟨(Upd.refl _ _).drew⟩), Lib.hid (by simp), Lib.hid (by simp), Lib.hid (by simp), Lib.hid (by simp), Lib.hid (by simp), Lib.hid (by simp), Lib.hid (by simp)⟩
  · rintro i l us W ⟨b0, b1, b2, b3, b4, b5, v26, v27, v4, v5, xb, yb, rfl, rfl, hI, h0, h1, h2, h3, n2_3, g4, g5⟩ hr
    have hi : i = 0 ∨ i = 1 ∨ i = 2 ∨ i = 3 ∨ i = 4 ∨ i = 5 := by
      have := ready_lt hr
      simp at this
      omega
    rcases hi with rfl | rfl | rfl | rfl | rfl | rfl
    · skip
      obtain ⟨hn, hd⟩ := ready_at hr rfl
      simp [Region.binds] at hn hd
      have hlb := EB6.out.kept hI.out.k
      refine wpOp_step (o := ⟨some 26, .load 39 (.tmp 3), 39, _, _, none⟩) rfl (fun K' hK => ?_)
      simp only [putAll, Act.put, List.setIfInBounds_toArray, List.set_cons_zero, List.set_cons_succ]
      refine wp_load_mid 39 (.tmp 3) rfl eb 0 rfl [.int .i64 0, .int .u8 1, .int .i64 1, .int .i64 2, .int .i64 3, .int .i64 1, .int .i64 0] _ (Blk.range hlb) Try.underlying39 rfl HZ7.out ?_
      exact hK _ _ ⟨_, by simp only [putAll, Act.put, List.setIfInBounds_toArray, List.set_cons_zero, List.set_cons_succ], true, b1, b2, b3, b4, b5, _, _, _, _, xb, yb, rfl, rfl, hI, Lib.hid (fun _ => rfl), h1, h2, h3, n2_3, g4, g5⟩
    · skip
      obtain ⟨hn, hd⟩ := ready_at hr rfl
      simp [Region.binds] at hn hd
      have hlb := EB6.out.kept hI.out.k
      refine wpOp_step (o := ⟨some 27, .load 39 (.tmp 3), 39, _, _, none⟩) rfl (fun K' hK => ?_)
      simp only [putAll, Act.put, List.setIfInBounds_toArray, List.set_cons_zero, List.set_cons_succ]
      refine wp_load_mid 39 (.tmp 3) rfl eb 0 rfl [.int .i64 0, .int .u8 1, .int .i64 1, .int .i64 2, .int .i64 3, .int .i64 1, .int .i64 0] _ (Blk.range hlb) Try.underlying39 rfl HZ7.out ?_
      exact hK _ _ ⟨_, by simp only [putAll, Act.put, List.setIfInBounds_toArray, List.set_cons_zero, List.set_cons_succ], b0, true, b2, b3, b4, b5, _, _, _, _, xb, yb, rfl, rfl, hI, h0, Lib.hid (fun _ => rfl), h2, h3, n2_3, g4, g5⟩
    · skip
      obtain ⟨hn, hd⟩ := ready_at hr rfl
      simp [Region.binds] at hn hd
      have hbq : b4 = false := by cases b4 with | false => rfl | true => (have := g4.out rfl; rw [hn] at this; cases this)
      subst hbq
      refine wpOp_step rfl (fun K' hK => ?_)
      simp only [putAll, Act.put, List.setIfInBounds_toArray, List.set_cons_zero, List.set_cons_succ]
      go_simp
      exact hK _ _ ⟨_, by simp only [putAll, Act.put, List.setIfInBounds_toArray, List.set_cons_zero, List.set_cons_succ], b0, b1, true, b3, false, b5, _, _, _, _, W.heap.size, yb, rfl, rfl, (Lib.hid (hI.out.kept ((Upd.refl _ _).alloc _))), h0, h1, Lib.hid (fun _ => ⟨rfl, hI.out.up, Blk.new _ _ _⟩), Lib.hid (fun hb => ⟨(h3.out hb).1, (h3.out hb).2.1, (h3.out hb).2.2.kept ((Upd.refl _ _).alloc _)⟩), Lib.hid (fun _ hb e => by have := (h3.out hb).2.2.lt; omega), Lib.hid (by simp), g5⟩
    · skip
      obtain ⟨hn, hd⟩ := ready_at hr rfl
      simp [Region.binds] at hn hd
      have hbq : b5 = false := by cases b5 with | false => rfl | true => (have := g5.out rfl; rw [hn] at this; cases this)
      subst hbq
      refine wpOp_step rfl (fun K' hK => ?_)
      simp only [putAll, Act.put, List.setIfInBounds_toArray, List.set_cons_zero, List.set_cons_succ]
      go_simp
      exact hK _ _ ⟨_, by simp only [putAll, Act.put, List.setIfInBounds_toArray, List.set_cons_zero, List.set_cons_succ], b0, b1, b2, true, b4, false, _, _, _, _, xb, W.heap.size, rfl, rfl, (Lib.hid (hI.out.kept ((Upd.refl _ _).alloc _))), h0, h1, Lib.hid (fun hb => ⟨(h2.out hb).1, (h2.out hb).2.1, (h2.out hb).2.2.kept ((Upd.refl _ _).alloc _)⟩), Lib.hid (fun _ => ⟨rfl, hI.out.up, Blk.new _ _ _⟩), Lib.hid (fun hb _ e => by have := (h2.out hb).2.2.lt; omega), g4, Lib.hid (by simp)⟩
    · skip
      obtain ⟨hn, hd⟩ := ready_at hr rfl
      simp [Region.binds] at hn hd
      obtain rfl := h0.out (by simp [hd])
      obtain ⟨hp, hx, hbk⟩ := h2.out (by simp [hd])
      subst hn hp
      have hbk : Blk W _ _ _ := hbk
      have hc := hbk.cell
      have hf := hbk.free
      refine wpOp_step (o := ⟨none, .store 39 (.tmp 4) (.tmp 26), 0, _, _, none⟩) rfl (fun K' hK => ?_)
      simp only [putAll, Act.put, List.setIfInBounds_toArray, List.set_cons_zero, List.set_cons_succ]
      simp only [if_false, Bool.false_eq_true] at hbk
      refine wp_store_mid 39 (.tmp 4) (.tmp 26) rfl xb 0 #[.int .i64 0, .int .u8 1, .int .i64 1, .int .i64 2, .int .i64 3, .int .i64 1, .int .i64 0] rfl rfl (Blk.there hbk 7 rfl) HZ7.out (all_oneCell_toArray (cs := [.int .i64 0, .int .u8 1, .int .i64 1, .int .i64 2, .int .i64 3, .int .i64 1, .int .i64 0]) (by simp [Value.oneCell'])) ?_
      have hs := hbk.alls [.int .i64 0, .int .u8 1, .int .i64 1, .int .i64 2, .int .i64 3, .int .i64 1, .int .i64 0] rfl
      exact hK _ _ ⟨_, by simp only [putAll, Act.put, List.setIfInBounds_toArray, List.set_cons_zero, List.set_cons_succ], b0, b1, b2, b3, true, b5, _, _, _, _, xb, yb, rfl, rfl, (Lib.hid (hI.out.upd hs.2 hx)), h0, h1, Lib.hid (fun _ => ⟨rfl, hx, hs.1⟩), Lib.hid (fun hb => ⟨(h3.out hb).1, (h3.out hb).2.1, (h3.out hb).2.2.upd hs.2 (fun e => n2_3.out (by simp [hd]) hb e.symm)⟩), n2_3, Lib.hid (fun _ => (by simp [hd])), g5⟩
    · skip
      obtain ⟨hn, hd⟩ := ready_at hr rfl
      simp [Region.binds] at hn hd
      obtain rfl := h1.out (by simp [hd])
      obtain ⟨hp, hx, hbk⟩ := h3.out (by simp [hd])
      subst hn hp
      have hbk : Blk W _ _ _ := hbk
      have hc := hbk.cell
      have hf := hbk.free
      refine wpOp_step (o := ⟨none, .store 39 (.tmp 5) (.tmp 27), 0, _, _, none⟩) rfl (fun K' hK => ?_)
      simp only [putAll, Act.put, List.setIfInBounds_toArray, List.set_cons_zero, List.set_cons_succ]
      simp only [if_false, Bool.false_eq_true] at hbk
      refine wp_store_mid 39 (.tmp 5) (.tmp 27) rfl yb 0 #[.int .i64 0, .int .u8 1, .int .i64 1, .int .i64 2, .int .i64 3, .int .i64 1, .int .i64 0] rfl rfl (Blk.there hbk 7 rfl) HZ7.out (all_oneCell_toArray (cs := [.int .i64 0, .int .u8 1, .int .i64 1, .int .i64 2, .int .i64 3, .int .i64 1, .int .i64 0]) (by simp [Value.oneCell'])) ?_
      have hs := hbk.alls [.int .i64 0, .int .u8 1, .int .i64 1, .int .i64 2, .int .i64 3, .int .i64 1, .int .i64 0] rfl
      exact hK _ _ ⟨_, by simp only [putAll, Act.put, List.setIfInBounds_toArray, List.set_cons_zero, List.set_cons_succ], b0, b1, b2, b3, b4, true, _, _, _, _, xb, yb, rfl, rfl, (Lib.hid (hI.out.upd hs.2 hx)), h0, h1, Lib.hid (fun hb => ⟨(h2.out hb).1, (h2.out hb).2.1, (h2.out hb).2.2.upd hs.2 (fun e => n2_3.out hb (by simp [hd]) e)⟩), Lib.hid (fun _ => ⟨rfl, hx, hs.1⟩), n2_3, g4, Lib.hid (fun _ => (by simp [hd]))⟩
  · rintro l us W ⟨b0, b1, b2, b3, b4, b5, v26, v27, v4, v5, xb, yb, rfl, rfl, hI, h0, h1, h2, h3, n2_3, g4, g5⟩ hall
    as_aux_lemma =>
    obtain rfl : b0 = true := by simpa using hall 0
    obtain rfl : b1 = true := by simpa using hall 1
    obtain rfl : b2 = true := by simpa using hall 2
    obtain rfl : b3 = true := by simpa using hall 3
    obtain rfl : b4 = true := by simpa using hall 4
    obtain rfl : b5 = true := by simpa using hall 5
    obtain rfl := h0.out rfl
    obtain rfl := h1.out rfl
    obtain ⟨rfl, hx2, hB2⟩ := h2.out rfl
    obtain ⟨rfl, hx3, hB3⟩ := h3.out rfl
    simp only [putAll, Act.put, List.setIfInBounds_toArray, List.set_cons_zero, List.set_cons_succ]
    have XB := Lib.hid (show Blk W xb #[.int .i64 0, .int .u8 1, .int .i64 1, .int .i64 2, .int .i64 3, .int .i64 1, .int .i64 0] 39 from hB2)
    have YB := Lib.hid (show Blk W yb #[.int .i64 0, .int .u8 1, .int .i64 1, .int .i64 2, .int .i64 3, .int .i64 1, .int .i64 0] 39 from hB3)
    have EB := Lib.hid (EB6.out.kept hI.out.k)
    have K6 := Lib.hid (((Upd.refl (fun _ => False) W5).alloc (.cells #[.int .i64 0, .int .u8 1, .int .i64 1, .int .i64 2, .int .i64 3, .int .i64 1, .int .i64 0] 39)).trans (HW6.out ▸ hI.out.k))
    have HN6 : Hid (¬ xb = yb ∧ ¬ eb = xb ∧ ¬ eb = yb ∧ W5.heap.size ≤ xb ∧ W5.heap.size ≤ yb) := Lib.hid (by
      have h1 := EB6.out.lt
      have h2 := n2_3.out rfl rfl
      have h3 := World.size_alloc W5 (.cells #[.int .i64 0, .int .u8 1, .int .i64 1, .int .i64 2, .int .i64 3, .int .i64 1, .int .i64 0] 39)
      have h4 := HW6.out
      rw [← h4] at h3
      omega)
    clear hall hI hB2 hB3 hx2 hx3 EB6 HW6 n2_3 g4 g5
    have ne1 : ¬ xb = yb := HN6.out.1
    have ne2 : ¬ yb = xb := fun e => ne1 e.symm
    have c1 := XB.out.cell
    have f1 := XB.out.free
    have c2 := YB.out.cell
    have f2 := YB.out.free
    go_upto_region 8 with (fail)
    clear c1 c2 f1 f2
    have XB7 : Hid (Blk ((W.setCell ⟨xb, 4, none⟩ (.int .i64 5)).setCell ⟨yb, 6, none⟩ (.int .i64 1)) xb #[.int .i64 0, .int .u8 1, .int .i64 1, .int .i64 2, .int .i64 5, .int .i64 1, .int .i64 0] 39) := Lib.hid (Blk.other (XB.out.set 4 (.int .i64 5)) (p := ⟨yb, 6, none⟩) ne1 (.int .i64 1))
    have YB7 : Hid (Blk ((W.setCell ⟨xb, 4, none⟩ (.int .i64 5)).setCell ⟨yb, 6, none⟩ (.int .i64 1)) yb #[.int .i64 0, .int .u8 1, .int .i64 1, .int .i64 2, .int .i64 3, .int .i64 1, .int .i64 1] 39) := Lib.hid ((Blk.other YB.out (p := ⟨xb, 4, none⟩) ne2 (.int .i64 5)).set 6 (.int .i64 1))
    have EB7 : Hid (Blk ((W.setCell ⟨xb, 4, none⟩ (.int .i64 5)).setCell ⟨yb, 6, none⟩ (.int .i64 1)) eb #[.int .i64 0, .int .u8 1, .int .i64 1, .int .i64 2, .int .i64 3, .int .i64 1, .int .i64 0] 39) := Lib.hid (Blk.other (Blk.other EB.out (p := ⟨xb, 4, none⟩) HN6.out.2.1 (.int .i64 5)) (p := ⟨yb, 6, none⟩) HN6.out.2.2.1 (.int .i64 1))
    have K7 : Hid (Kept W5 ((W.setCell ⟨xb, 4, none⟩ (.int .i64 5)).setCell ⟨yb, 6, none⟩ (.int .i64 1))) := Lib.hid ((K6.out.then (updCellO W xb 4 (.int .i64 5)) (fun i hi e => by have := HN6.out; have e2 : i = xb := e; omega)).then (updCellO (W.setCell ⟨xb, 4, none⟩ (.int .i64 5)) yb 6 (.int .i64 1)) (fun i hi e => by have := HN6.out; have e2 : i = yb := e; omega))
    clear XB YB EB K6 ne1 ne2 HN6
    generalize ((W.setCell ⟨xb, 4, none⟩ (.int .i64 5)).setCell ⟨yb, 6, none⟩ (.int .i64 1)) = W7 at XB7 YB7 EB7 K7 ⊢
    go_upto_region 9 with (fail)
    have LB8 := Lib.hid (Blk.new W7 #[.int .i64 0, .int .u8 2, .int .i64 1, .int .i64 0, .int .i64 0, .int .i64 6, .int .i64 0] 39)
    have k8 := (Upd.refl (fun _ => False) W7).alloc (.cells #[.int .i64 0, .int .u8 2, .int .i64 1, .int .i64 0, .int .i64 0, .int .i64 6, .int .i64 0] 39)
    have XB8 := Lib.hid (XB7.out.kept k8)
    have YB8 := Lib.hid (YB7.out.kept k8)
    have EB8 := Lib.hid (EB7.out.kept k8)
    have K8 := Lib.hid (K7.out.trans k8)
    clear k8 XB7 YB7 EB7 K7
    generalize W7.alloc (.cells #[.int .i64 0, .int .u8 2, .int .i64 1, .int .i64 0, .int .i64 0, .int .i64 6, .int .i64 0] 39) = W8 at LB8 XB8 YB8 EB8 K8 ⊢
    generalize W7.heap.size = lb at LB8 ⊢
    clear W7
    obtain ⟨JI, HJI⟩ : ∃ JI : Bool → Bool → Bool → Bool → Bool → Bool → Bool → Bool → Bool → Value → Value → Value → Value → Value → Value → Nat → Nat → Nat → World → Prop, Hid (∀ (b0 b1 b2 b3 b4 b5 b6 b7 b8 : Bool) (v31 v32 v33 v7 v8 v9 : Value) (qb rb sb : Nat) (W : World), JI b0 b1 b2 b3 b4 b5 b6 b7 b8 v31 v32 v33 v7 v8 v9 qb rb sb W ↔ (Hid (KK W8 W) ∧
        Hid (b0 = true → v31 = .agg #[.int .i64 0, .int .u8 2, .int .i64 1, .int .i64 0, .int .i64 0, .int .i64 6, .int .i64 0]) ∧
        Hid (b1 = true → v32 = .agg #[.int .i64 0, .int .u8 2, .int .i64 1, .int .i64 0, .int .i64 0, .int .i64 6, .int .i64 0]) ∧
        Hid (b2 = true → v33 = .agg #[.int .i64 0, .int .u8 2, .int .i64 1, .int .i64 0, .int .i64 0, .int .i64 6, .int .i64 0]) ∧
        Hid (b3 = true → v7 = .pointer (some ⟨qb, 0, none⟩) ∧ W8.heap.size ≤ qb ∧ Blk W qb (if b6 then #[.int .i64 0, .int .u8 2, .int .i64 1, .int .i64 0, .int .i64 0, .int .i64 6, .int .i64 0] else #[.int .i64 0, .int .u8 0, .int .i64 0, .int .i64 0, .int .i64 0, .int .i64 0, .int .i64 0]) 39) ∧
        Hid (b4 = true → v8 = .pointer (some ⟨rb, 0, none⟩) ∧ W8.heap.size ≤ rb ∧ Blk W rb (if b7 then #[.int .i64 0, .int .u8 2, .int .i64 1, .int .i64 0, .int .i64 0, .int .i64 6, .int .i64 0] else #[.int .i64 0, .int .u8 0, .int .i64 0, .int .i64 0, .int .i64 0, .int .i64 0, .int .i64 0]) 39) ∧
        Hid (b5 = true → v9 = .pointer (some ⟨sb, 0, none⟩) ∧ W8.heap.size ≤ sb ∧ Blk W sb (if b8 then #[.int .i64 0, .int .u8 2, .int .i64 1, .int .i64 0, .int .i64 0, .int .i64 6, .int .i64 0] else #[.int .i64 0, .int .u8 0, .int .i64 0, .int .i64 0, .int .i64 0, .int .i64 0, .int .i64 0]) 39) ∧
        Hid (b3 = true → b4 = true → ¬ qb = rb) ∧
        Hid (b3 = true → b5 = true → ¬ qb = sb) ∧
        Hid (b4 = true → b5 = true → ¬ rb = sb) ∧
        Hid (b6 = true → b3 = true) ∧
        Hid (b7 = true → b4 = true) ∧
        Hid (b8 = true → b5 = true))) := ⟨fun b0 b1 b2 b3 b4 b5 b6 b7 b8 v31 v32 v33 v7 v8 v9 qb rb sb W => (Hid (KK W8 W) ∧
        Hid (b0 = true → v31 = .agg #[.int .i64 0, .int .u8 2, .int .i64 1, .int .i64 0, .int .i64 0, .int .i64 6, .int .i64 0]) ∧
        Hid (b1 = true → v32 = .agg #[.int .i64 0, .int .u8 2, .int .i64 1, .int .i64 0, .int .i64 0, .int .i64 6, .int .i64 0]) ∧
        Hid (b2 = true → v33 = .agg #[.int .i64 0, .int .u8 2, .int .i64 1, .int .i64 0, .int .i64 0, .int .i64 6, .int .i64 0]) ∧
        Hid (b3 = true → v7 = .pointer (some ⟨qb, 0, none⟩) ∧ W8.heap.size ≤ qb ∧ Blk W qb (if b6 then #[.int .i64 0, .int .u8 2, .int .i64 1, .int .i64 0, .int .i64 0, .int .i64 6, .int .i64 0] else #[.int .i64 0, .int .u8 0, .int .i64 0, .int .i64 0, .int .i64 0, .int .i64 0, .int .i64 0]) 39) ∧
        Hid (b4 = true → v8 = .pointer (some ⟨rb, 0, none⟩) ∧ W8.heap.size ≤ rb ∧ Blk W rb (if b7 then #[.int .i64 0, .int .u8 2, .int .i64 1, .int .i64 0, .int .i64 0, .int .i64 6, .int .i64 0] else #[.int .i64 0, .int .u8 0, .int .i64 0, .int .i64 0, .int .i64 0, .int .i64 0, .int .i64 0]) 39) ∧
        Hid (b5 = true → v9 = .pointer (some ⟨sb, 0, none⟩) ∧ W8.heap.size ≤ sb ∧ Blk W sb (if b8 then #[.int .i64 0, .int .u8 2, .int .i64 1, .int .i64 0, .int .i64 0, .int .i64 6, .int .i64 0] else #[.int .i64 0, .int .u8 0, .int .i64 0, .int .i64 0, .int .i64 0, .int .i64 0, .int .i64 0]) 39) ∧
        Hid (b3 = true → b4 = true → ¬ qb = rb) ∧
        Hid (b3 = true → b5 = true → ¬ qb = sb) ∧
        Hid (b4 = true → b5 = true → ¬ rb = sb) ∧
        Hid (b6 = true → b3 = true) ∧
        Hid (b7 = true → b4 = true) ∧
        Hid (b8 = true → b5 = true)), Lib.hid (fun _ _ _ _ _ _ _ _ _ _ _ _ _ _ _ _ _ _ _ => Iff.rfl)⟩
    refine wp_region_inv (fun l us W => ∃ (b0 b1 b2 b3 b4 b5 b6 b7 b8 : Bool) (v31 v32 v33 v7 v8 v9 : Value) (qb rb sb : Nat), l = #[b0, b1, b2, b3, b4, b5, b6, b7, b8] ∧ us = [v31, v32, v33, v7, v8, v9] ∧ JI b0 b1 b2 b3 b4 b5 b6 b7 b8 v31 v32 v33 v7 v8 v9 qb rb sb W) [31, 32, 33, 7, 8, 9] [undef, undef, undef, undef, undef, undef] (by kernel_rfl) (by kernel_rfl) (by simp only [putAll, Act.put, List.setIfInBounds_toArray, List.set_cons_zero, List.set_cons_succ]) ?_ ?_ ?_
    · exact ⟨false, false, false, false, false, false, false, false, false, _, _, _, _, _, _, 0, 0, 0, rfl, rfl, (HJI.out _ _ _ _ _ _ _ _ _ _ _ _ _ _ _ _ _ _ _ ).2 ⟨Lib.hid (⟨(Upd.refl _ _).drew⟩), Lib.hid (by simp), Lib.hid (by simp), Lib.hid (by simp), Lib.hid (by simp), Lib.hid (by simp), Lib.hid (by simp), Lib.hid (by simp), Lib.hid (by simp), Lib.hid (by simp), Lib.hid (by simp), Lib.hid (by simp), Lib.hid (by simp)⟩⟩
    · rintro i l us W ⟨b0, b1, b2, b3, b4, b5, b6, b7, b8, v31, v32, v33, v7, v8, v9, qb, rb, sb, rfl, rfl, hJI⟩ hr
      have hi : i = 0 ∨ i = 1 ∨ i = 2 ∨ i = 3 ∨ i = 4 ∨ i = 5 ∨ i = 6 ∨ i = 7 ∨ i = 8 := by
        have := ready_lt hr
        simp at this
        omega
      rcases hi with rfl | rfl | rfl | rfl | rfl | rfl | rfl | rfl | rfl
      · skip
        obtain ⟨hI, h0, h1, h2, h3, h4, h5, n3_4, n3_5, n4_5, g6, g7, g8⟩ := (HJI.out _ _ _ _ _ _ _ _ _ _ _ _ _ _ _ _ _ _ _ ).1 hJI
        obtain ⟨hn, hd⟩ := ready_at hr rfl
        simp [Region.binds] at hn hd
        have hlb := LB8.out.kept hI.out.k
        refine wpOp_step (o := ⟨some 31, .load 39 (.tmp 6), 39, _, _, none⟩) rfl (fun K' hK => ?_)
        simp only [putAll, Act.put, List.setIfInBounds_toArray, List.set_cons_zero, List.set_cons_succ]
        refine wp_load_mid 39 (.tmp 6) rfl lb 0 rfl [.int .i64 0, .int .u8 2, .int .i64 1, .int .i64 0, .int .i64 0, .int .i64 6, .int .i64 0] _ (Blk.range hlb) Try.underlying39 rfl HZ7.out ?_
        exact hK _ _ ⟨_, by simp only [putAll, Act.put, List.setIfInBounds_toArray, List.set_cons_zero, List.set_cons_succ], true, b1, b2, b3, b4, b5, b6, b7, b8, _, _, _, _, _, _, qb, rb, sb, rfl, rfl, (HJI.out _ _ _ _ _ _ _ _ _ _ _ _ _ _ _ _ _ _ _ ).2 ⟨hI, Lib.hid (fun _ => rfl), h1, h2, h3, h4, h5, n3_4, n3_5, n4_5, g6, g7, g8⟩⟩
      · skip
        obtain ⟨hI, h0, h1, h2, h3, h4, h5, n3_4, n3_5, n4_5, g6, g7, g8⟩ := (HJI.out _ _ _ _ _ _ _ _ _ _ _ _ _ _ _ _ _ _ _ ).1 hJI
        obtain ⟨hn, hd⟩ := ready_at hr rfl
        simp [Region.binds] at hn hd
        have hlb := LB8.out.kept hI.out.k
        refine wpOp_step (o := ⟨some 32, .load 39 (.tmp 6), 39, _, _, none⟩) rfl (fun K' hK => ?_)
        simp only [putAll, Act.put, List.setIfInBounds_toArray, List.set_cons_zero, List.set_cons_succ]
        refine wp_load_mid 39 (.tmp 6) rfl lb 0 rfl [.int .i64 0, .int .u8 2, .int .i64 1, .int .i64 0, .int .i64 0, .int .i64 6, .int .i64 0] _ (Blk.range hlb) Try.underlying39 rfl HZ7.out ?_
        exact hK _ _ ⟨_, by simp only [putAll, Act.put, List.setIfInBounds_toArray, List.set_cons_zero, List.set_cons_succ], b0, true, b2, b3, b4, b5, b6, b7, b8, _, _, _, _, _, _, qb, rb, sb, rfl, rfl, (HJI.out _ _ _ _ _ _ _ _ _ _ _ _ _ _ _ _ _ _ _ ).2 ⟨hI, h0, Lib.hid (fun _ => rfl), h2, h3, h4, h5, n3_4, n3_5, n4_5, g6, g7, g8⟩⟩
      · skip
        obtain ⟨hI, h0, h1, h2, h3, h4, h5, n3_4, n3_5, n4_5, g6, g7, g8⟩ := (HJI.out _ _ _ _ _ _ _ _ _ _ _ _ _ _ _ _ _ _ _ ).1 hJI
        obtain ⟨hn, hd⟩ := ready_at hr rfl
        simp [Region.binds] at hn hd
        have hlb := LB8.out.kept hI.out.k
        refine wpOp_step (o := ⟨some 33, .load 39 (.tmp 6), 39, _, _, none⟩) rfl (fun K' hK => ?_)
        simp only [putAll, Act.put, List.setIfInBounds_toArray, List.set_cons_zero, List.set_cons_succ]
        refine wp_load_mid 39 (.tmp 6) rfl lb 0 rfl [.int .i64 0, .int .u8 2, .int .i64 1, .int .i64 0, .int .i64 0, .int .i64 6, .int .i64 0] _ (Blk.range hlb) Try.underlying39 rfl HZ7.out ?_
        exact hK _ _ ⟨_, by simp only [putAll, Act.put, List.setIfInBounds_toArray, List.set_cons_zero, List.set_cons_succ], b0, b1, true, b3, b4, b5, b6, b7, b8, _, _, _, _, _, _, qb, rb, sb, rfl, rfl, (HJI.out _ _ _ _ _ _ _ _ _ _ _ _ _ _ _ _ _ _ _ ).2 ⟨hI, h0, h1, Lib.hid (fun _ => rfl), h3, h4, h5, n3_4, n3_5, n4_5, g6, g7, g8⟩⟩
      · skip
        obtain ⟨hI, h0, h1, h2, h3, h4, h5, n3_4, n3_5, n4_5, g6, g7, g8⟩ := (HJI.out _ _ _ _ _ _ _ _ _ _ _ _ _ _ _ _ _ _ _ ).1 hJI
        obtain ⟨hn, hd⟩ := ready_at hr rfl
        simp [Region.binds] at hn hd
        have hbq : b6 = false := by cases b6 with | false => rfl | true => (have := g6.out rfl; rw [hn] at this; cases this)
        subst hbq
        refine wpOp_step rfl (fun K' hK => ?_)
        simp only [putAll, Act.put, List.setIfInBounds_toArray, List.set_cons_zero, List.set_cons_succ]
        go_simp
        exact hK _ _ ⟨_, by simp only [putAll, Act.put, List.setIfInBounds_toArray, List.set_cons_zero, List.set_cons_succ], b0, b1, b2, true, b4, b5, false, b7, b8, _, _, _, _, _, _, W.heap.size, rb, sb, rfl, rfl, (HJI.out _ _ _ _ _ _ _ _ _ _ _ _ _ _ _ _ _ _ _ ).2 ⟨(Lib.hid (hI.out.kept ((Upd.refl _ _).alloc _))), h0, h1, h2, Lib.hid (fun _ => ⟨rfl, hI.out.up, Blk.new _ _ _⟩), Lib.hid (fun hb => ⟨(h4.out hb).1, (h4.out hb).2.1, (h4.out hb).2.2.kept ((Upd.refl _ _).alloc _)⟩), Lib.hid (fun hb => ⟨(h5.out hb).1, (h5.out hb).2.1, (h5.out hb).2.2.kept ((Upd.refl _ _).alloc _)⟩), Lib.hid (fun _ hb e => by have := (h4.out hb).2.2.lt; omega), Lib.hid (fun _ hb e => by have := (h5.out hb).2.2.lt; omega), n4_5, Lib.hid (by simp), g7, g8⟩⟩
      · skip
        obtain ⟨hI, h0, h1, h2, h3, h4, h5, n3_4, n3_5, n4_5, g6, g7, g8⟩ := (HJI.out _ _ _ _ _ _ _ _ _ _ _ _ _ _ _ _ _ _ _ ).1 hJI
        obtain ⟨hn, hd⟩ := ready_at hr rfl
        simp [Region.binds] at hn hd
        have hbq : b7 = false := by cases b7 with | false => rfl | true => (have := g7.out rfl; rw [hn] at this; cases this)
        subst hbq
        refine wpOp_step rfl (fun K' hK => ?_)
        simp only [putAll, Act.put, List.setIfInBounds_toArray, List.set_cons_zero, List.set_cons_succ]
        go_simp
        exact hK _ _ ⟨_, by simp only [putAll, Act.put, List.setIfInBounds_toArray, List.set_cons_zero, List.set_cons_succ], b0, b1, b2, b3, true, b5, b6, false, b8, _, _, _, _, _, _, qb, W.heap.size, sb, rfl, rfl, (HJI.out _ _ _ _ _ _ _ _ _ _ _ _ _ _ _ _ _ _ _ ).2 ⟨(Lib.hid (hI.out.kept ((Upd.refl _ _).alloc _))), h0, h1, h2, Lib.hid (fun hb => ⟨(h3.out hb).1, (h3.out hb).2.1, (h3.out hb).2.2.kept ((Upd.refl _ _).alloc _)⟩), Lib.hid (fun _ => ⟨rfl, hI.out.up, Blk.new _ _ _⟩), Lib.hid (fun hb => ⟨(h5.out hb).1, (h5.out hb).2.1, (h5.out hb).2.2.kept ((Upd.refl _ _).alloc _)⟩), Lib.hid (fun hb _ e => by have := (h3.out hb).2.2.lt; omega), n3_5, Lib.hid (fun _ hb e => by have := (h5.out hb).2.2.lt; omega), g6, Lib.hid (by simp), g8⟩⟩
      · skip
        obtain ⟨hI, h0, h1, h2, h3, h4, h5, n3_4, n3_5, n4_5, g6, g7, g8⟩ := (HJI.out _ _ _ _ _ _ _ _ _ _ _ _ _ _ _ _ _ _ _ ).1 hJI
        obtain ⟨hn, hd⟩ := ready_at hr rfl
        simp [Region.binds] at hn hd
        have hbq : b8 = false := by cases b8 with | false => rfl | true => (have := g8.out rfl; rw [hn] at this; cases this)
        subst hbq
        refine wpOp_step rfl (fun K' hK => ?_)
        simp only [putAll, Act.put, List.setIfInBounds_toArray, List.set_cons_zero, List.set_cons_succ]
        go_simp
        exact hK _ _ ⟨_, by simp only [putAll, Act.put, List.setIfInBounds_toArray, List.set_cons_zero, List.set_cons_succ], b0, b1, b2, b3, b4, true, b6, b7, false, _, _, _, _, _, _, qb, rb, W.heap.size, rfl, rfl, (HJI.out _ _ _ _ _ _ _ _ _ _ _ _ _ _ _ _ _ _ _ ).2 ⟨(Lib.hid (hI.out.kept ((Upd.refl _ _).alloc _))), h0, h1, h2, Lib.hid (fun hb => ⟨(h3.out hb).1, (h3.out hb).2.1, (h3.out hb).2.2.kept ((Upd.refl _ _).alloc _)⟩), Lib.hid (fun hb => ⟨(h4.out hb).1, (h4.out hb).2.1, (h4.out hb).2.2.kept ((Upd.refl _ _).alloc _)⟩), Lib.hid (fun _ => ⟨rfl, hI.out.up, Blk.new _ _ _⟩), n3_4, Lib.hid (fun hb _ e => by have := (h3.out hb).2.2.lt; omega), Lib.hid (fun hb _ e => by have := (h4.out hb).2.2.lt; omega), g6, g7, Lib.hid (by simp)⟩⟩
      · skip
        obtain ⟨hI, h0, h1, h2, h3, h4, h5, n3_4, n3_5, n4_5, g6, g7, g8⟩ := (HJI.out _ _ _ _ _ _ _ _ _ _ _ _ _ _ _ _ _ _ _ ).1 hJI
        obtain ⟨hn, hd⟩ := ready_at hr rfl
        simp [Region.binds] at hn hd
        obtain rfl := h0.out (by simp [hd])
        obtain ⟨hp, hx, hbk⟩ := h3.out (by simp [hd])
        subst hn hp
        have hbk : Blk W _ _ _ := hbk
        have hc := hbk.cell
        have hf := hbk.free
        refine wpOp_step (o := ⟨none, .store 39 (.tmp 7) (.tmp 31), 0, _, _, none⟩) rfl (fun K' hK => ?_)
        simp only [putAll, Act.put, List.setIfInBounds_toArray, List.set_cons_zero, List.set_cons_succ]
        simp only [if_false, Bool.false_eq_true] at hbk
        refine wp_store_mid 39 (.tmp 7) (.tmp 31) rfl qb 0 #[.int .i64 0, .int .u8 2, .int .i64 1, .int .i64 0, .int .i64 0, .int .i64 6, .int .i64 0] rfl rfl (Blk.there hbk 7 rfl) HZ7.out (all_oneCell_toArray (cs := [.int .i64 0, .int .u8 2, .int .i64 1, .int .i64 0, .int .i64 0, .int .i64 6, .int .i64 0]) (by simp [Value.oneCell'])) ?_
        have hs := hbk.alls [.int .i64 0, .int .u8 2, .int .i64 1, .int .i64 0, .int .i64 0, .int .i64 6, .int .i64 0] rfl
        exact hK _ _ ⟨_, by simp only [putAll, Act.put, List.setIfInBounds_toArray, List.set_cons_zero, List.set_cons_succ], b0, b1, b2, b3, b4, b5, true, b7, b8, _, _, _, _, _, _, qb, rb, sb, rfl, rfl, (HJI.out _ _ _ _ _ _ _ _ _ _ _ _ _ _ _ _ _ _ _ ).2 ⟨(Lib.hid (hI.out.upd hs.2 hx)), h0, h1, h2, Lib.hid (fun _ => ⟨rfl, hx, hs.1⟩), Lib.hid (fun hb => ⟨(h4.out hb).1, (h4.out hb).2.1, (h4.out hb).2.2.upd hs.2 (fun e => n3_4.out (by simp [hd]) hb e.symm)⟩), Lib.hid (fun hb => ⟨(h5.out hb).1, (h5.out hb).2.1, (h5.out hb).2.2.upd hs.2 (fun e => n3_5.out (by simp [hd]) hb e.symm)⟩), n3_4, n3_5, n4_5, Lib.hid (fun _ => (by simp [hd])), g7, g8⟩⟩
      · skip
        obtain ⟨hI, h0, h1, h2, h3, h4, h5, n3_4, n3_5, n4_5, g6, g7, g8⟩ := (HJI.out _ _ _ _ _ _ _ _ _ _ _ _ _ _ _ _ _ _ _ ).1 hJI
        obtain ⟨hn, hd⟩ := ready_at hr rfl
        simp [Region.binds] at hn hd
        obtain rfl := h1.out (by simp [hd])
        obtain ⟨hp, hx, hbk⟩ := h4.out (by simp [hd])
        subst hn hp
        have hbk : Blk W _ _ _ := hbk
        have hc := hbk.cell
        have hf := hbk.free
        refine wpOp_step (o := ⟨none, .store 39 (.tmp 8) (.tmp 32), 0, _, _, none⟩) rfl (fun K' hK => ?_)
        simp only [putAll, Act.put, List.setIfInBounds_toArray, List.set_cons_zero, List.set_cons_succ]
        simp only [if_false, Bool.false_eq_true] at hbk
        refine wp_store_mid 39 (.tmp 8) (.tmp 32) rfl rb 0 #[.int .i64 0, .int .u8 2, .int .i64 1, .int .i64 0, .int .i64 0, .int .i64 6, .int .i64 0] rfl rfl (Blk.there hbk 7 rfl) HZ7.out (all_oneCell_toArray (cs := [.int .i64 0, .int .u8 2, .int .i64 1, .int .i64 0, .int .i64 0, .int .i64 6, .int .i64 0]) (by simp [Value.oneCell'])) ?_
        have hs := hbk.alls [.int .i64 0, .int .u8 2, .int .i64 1, .int .i64 0, .int .i64 0, .int .i64 6, .int .i64 0] rfl
        exact hK _ _ ⟨_, by simp only [putAll, Act.put, List.setIfInBounds_toArray, List.set_cons_zero, List.set_cons_succ], b0, b1, b2, b3, b4, b5, b6, true, b8, _, _, _, _, _, _, qb, rb, sb, rfl, rfl, (HJI.out _ _ _ _ _ _ _ _ _ _ _ _ _ _ _ _ _ _ _ ).2 ⟨(Lib.hid (hI.out.upd hs.2 hx)), h0, h1, h2, Lib.hid (fun hb => ⟨(h3.out hb).1, (h3.out hb).2.1, (h3.out hb).2.2.upd hs.2 (fun e => n3_4.out hb (by simp [hd]) e)⟩), Lib.hid (fun _ => ⟨rfl, hx, hs.1⟩), Lib.hid (fun hb => ⟨(h5.out hb).1, (h5.out hb).2.1, (h5.out hb).2.2.upd hs.2 (fun e => n4_5.out (by simp [hd]) hb e.symm)⟩), n3_4, n3_5, n4_5, g6, Lib.hid (fun _ => (by simp [hd])), g8⟩⟩
      · skip
        obtain ⟨hI, h0, h1, h2, h3, h4, h5, n3_4, n3_5, n4_5, g6, g7, g8⟩ := (HJI.out _ _ _ _ _ _ _ _ _ _ _ _ _ _ _ _ _ _ _ ).1 hJI
        obtain ⟨hn, hd⟩ := ready_at hr rfl
        simp [Region.binds] at hn hd
        obtain rfl := h2.out (by simp [hd])
        obtain ⟨hp, hx, hbk⟩ := h5.out (by simp [hd])
        subst hn hp
        have hbk : Blk W _ _ _ := hbk
        have hc := hbk.cell
        have hf := hbk.free
        refine wpOp_step (o := ⟨none, .store 39 (.tmp 9) (.tmp 33), 0, _, _, none⟩) rfl (fun K' hK => ?_)
        simp only [putAll, Act.put, List.setIfInBounds_toArray, List.set_cons_zero, List.set_cons_succ]
        simp only [if_false, Bool.false_eq_true] at hbk
        refine wp_store_mid 39 (.tmp 9) (.tmp 33) rfl sb 0 #[.int .i64 0, .int .u8 2, .int .i64 1, .int .i64 0, .int .i64 0, .int .i64 6, .int .i64 0] rfl rfl (Blk.there hbk 7 rfl) HZ7.out (all_oneCell_toArray (cs := [.int .i64 0, .int .u8 2, .int .i64 1, .int .i64 0, .int .i64 0, .int .i64 6, .int .i64 0]) (by simp [Value.oneCell'])) ?_
        have hs := hbk.alls [.int .i64 0, .int .u8 2, .int .i64 1, .int .i64 0, .int .i64 0, .int .i64 6, .int .i64 0] rfl
        exact hK _ _ ⟨_, by simp only [putAll, Act.put, List.setIfInBounds_toArray, List.set_cons_zero, List.set_cons_succ], b0, b1, b2, b3, b4, b5, b6, b7, true, _, _, _, _, _, _, qb, rb, sb, rfl, rfl, (HJI.out _ _ _ _ _ _ _ _ _ _ _ _ _ _ _ _ _ _ _ ).2 ⟨(Lib.hid (hI.out.upd hs.2 hx)), h0, h1, h2, Lib.hid (fun hb => ⟨(h3.out hb).1, (h3.out hb).2.1, (h3.out hb).2.2.upd hs.2 (fun e => n3_5.out hb (by simp [hd]) e)⟩), Lib.hid (fun hb => ⟨(h4.out hb).1, (h4.out hb).2.1, (h4.out hb).2.2.upd hs.2 (fun e => n4_5.out hb (by simp [hd]) e)⟩), Lib.hid (fun _ => ⟨rfl, hx, hs.1⟩), n3_4, n3_5, n4_5, g6, g7, Lib.hid (fun _ => (by simp [hd]))⟩⟩
    · rintro l us W ⟨b0, b1, b2, b3, b4, b5, b6, b7, b8, v31, v32, v33, v7, v8, v9, qb, rb, sb, rfl, rfl, hJI⟩ hall
      as_aux_lemma =>
      obtain ⟨hI, h0, h1, h2, h3, h4, h5, n3_4, n3_5, n4_5, g6, g7, g8⟩ := (HJI.out _ _ _ _ _ _ _ _ _ _ _ _ _ _ _ _ _ _ _ ).1 hJI
      clear hJI
      obtain rfl : b0 = true := by simpa using hall 0
      obtain rfl : b1 = true := by simpa using hall 1
      obtain rfl : b2 = true := by simpa using hall 2
      obtain rfl : b3 = true := by simpa using hall 3
      obtain rfl : b4 = true := by simpa using hall 4
      obtain rfl : b5 = true := by simpa using hall 5
      obtain rfl : b6 = true := by simpa using hall 6
      obtain rfl : b7 = true := by simpa using hall 7
      obtain rfl : b8 = true := by simpa using hall 8
      obtain rfl := h0.out rfl
      obtain rfl := h1.out rfl
      obtain rfl := h2.out rfl
      obtain ⟨rfl, hx3, hB3⟩ := h3.out rfl
      obtain ⟨rfl, hx4, hB4⟩ := h4.out rfl
      obtain ⟨rfl, hx5, hB5⟩ := h5.out rfl
      simp only [putAll, Act.put, List.setIfInBounds_toArray, List.set_cons_zero, List.set_cons_succ]
      have QB9 := Lib.hid (show Blk W qb #[.int .i64 0, .int .u8 2, .int .i64 1, .int .i64 0, .int .i64 0, .int .i64 6, .int .i64 0] 39 from hB3)
      have RB9 := Lib.hid (show Blk W rb #[.int .i64 0, .int .u8 2, .int .i64 1, .int .i64 0, .int .i64 0, .int .i64 6, .int .i64 0] 39 from hB4)
      have SB9 := Lib.hid (show Blk W sb #[.int .i64 0, .int .u8 2, .int .i64 1, .int .i64 0, .int .i64 0, .int .i64 6, .int .i64 0] 39 from hB5)
      have XB9 := Lib.hid (XB8.out.kept hI.out.k)
      have YB9 := Lib.hid (YB8.out.kept hI.out.k)
      have EB9 := Lib.hid (EB8.out.kept hI.out.k)
      have LB9 := Lib.hid (LB8.out.kept hI.out.k)
      have K9 := Lib.hid (K8.out.trans hI.out.k)
      have HN9 : Hid (¬ qb = rb ∧ ¬ qb = sb ∧ ¬ rb = sb ∧ xb < qb ∧ xb < rb ∧ xb < sb ∧ yb < qb ∧ yb < rb ∧ yb < sb ∧ eb < qb ∧ eb < rb ∧ eb < sb ∧ lb < qb ∧ lb < rb ∧ lb < sb ∧ W5.heap.size ≤ qb ∧ W5.heap.size ≤ rb ∧ W5.heap.size ≤ sb) := Lib.hid (by
        have h1 := XB8.out.lt
        have h2 := YB8.out.lt
        have h3 := EB8.out.lt
        have h4 := LB8.out.lt
        have h5 := K8.out.size
        have h6 := n3_4.out rfl rfl
        have h7 := n3_5.out rfl rfl
        have h8 := n4_5.out rfl rfl
        omega)
      clear hall hI hB3 hB4 hB5 hx3 hx4 hx5 n3_4 n3_5 n4_5 g6 g7 g8 XB8 YB8 EB8 LB8 K8
      have ne1 : ¬ qb = rb := HN9.out.1
      have ne2 : ¬ rb = qb := fun e => ne1 e.symm
      have ne3 : ¬ qb = sb := HN9.out.2.1
      have ne4 : ¬ sb = qb := fun e => ne3 e.symm
      have ne5 : ¬ rb = sb := HN9.out.2.2.1
      have ne6 : ¬ sb = rb := fun e => ne5 e.symm
      have c1 := QB9.out.cell
      have f1 := QB9.out.free
      have c2 := RB9.out.cell
      have f2 := RB9.out.free
      have c3 := SB9.out.cell
      have f3 := SB9.out.free
      go_upto_region 11 with (fail)
      clear c1 c2 c3 f1 f2 f3 ne1 ne2 ne3 ne4 ne5 ne6
      have XBA : Hid (Blk (((W.setCell ⟨qb, 5, none⟩ (.int .i64 1)).setCell ⟨rb, 5, none⟩ (.int .i64 7)).setCell ⟨sb, 2, none⟩ (.int .i64 2)) xb #[.int .i64 0, .int .u8 1, .int .i64 1, .int .i64 2, .int .i64 5, .int .i64 1, .int .i64 0] 39) := Lib.hid (Blk.other (Blk.other (Blk.other XB9.out (p := ⟨qb, 5, none⟩) (fun e => by have := HN9.out; have e2 : xb = qb := e; omega) (.int .i64 1)) (p := ⟨rb, 5, none⟩) (fun e => by have := HN9.out; have e2 : xb = rb := e; omega) (.int .i64 7)) (p := ⟨sb, 2, none⟩) (fun e => by have := HN9.out; have e2 : xb = sb := e; omega) (.int .i64 2))
      have YBA : Hid (Blk (((W.setCell ⟨qb, 5, none⟩ (.int .i64 1)).setCell ⟨rb, 5, none⟩ (.int .i64 7)).setCell ⟨sb, 2, none⟩ (.int .i64 2)) yb #[.int .i64 0, .int .u8 1, .int .i64 1, .int .i64 2, .int .i64 3, .int .i64 1, .int .i64 1] 39) := Lib.hid (Blk.other (Blk.other (Blk.other YB9.out (p := ⟨qb, 5, none⟩) (fun e => by have := HN9.out; have e2 : yb = qb := e; omega) (.int .i64 1)) (p := ⟨rb, 5, none⟩) (fun e => by have := HN9.out; have e2 : yb = rb := e; omega) (.int .i64 7)) (p := ⟨sb, 2, none⟩) (fun e => by have := HN9.out; have e2 : yb = sb := e; omega) (.int .i64 2))
      have EBA : Hid (Blk (((W.setCell ⟨qb, 5, none⟩ (.int .i64 1)).setCell ⟨rb, 5, none⟩ (.int .i64 7)).setCell ⟨sb, 2, none⟩ (.int .i64 2)) eb #[.int .i64 0, .int .u8 1, .int .i64 1, .int .i64 2, .int .i64 3, .int .i64 1, .int .i64 0] 39) := Lib.hid (Blk.other (Blk.other (Blk.other EB9.out (p := ⟨qb, 5, none⟩) (fun e => by have := HN9.out; have e2 : eb = qb := e; omega) (.int .i64 1)) (p := ⟨rb, 5, none⟩) (fun e => by have := HN9.out; have e2 : eb = rb := e; omega) (.int .i64 7)) (p := ⟨sb, 2, none⟩) (fun e => by have := HN9.out; have e2 : eb = sb := e; omega) (.int .i64 2))
      have LBA : Hid (Blk (((W.setCell ⟨qb, 5, none⟩ (.int .i64 1)).setCell ⟨rb, 5, none⟩ (.int .i64 7)).setCell ⟨sb, 2, none⟩ (.int .i64 2)) lb #[.int .i64 0, .int .u8 2, .int .i64 1, .int .i64 0, .int .i64 0, .int .i64 6, .int .i64 0] 39) := Lib.hid (Blk.other (Blk.other (Blk.other LB9.out (p := ⟨qb, 5, none⟩) (fun e => by have := HN9.out; have e2 : lb = qb := e; omega) (.int .i64 1)) (p := ⟨rb, 5, none⟩) (fun e => by have := HN9.out; have e2 : lb = rb := e; omega) (.int .i64 7)) (p := ⟨sb, 2, none⟩) (fun e => by have := HN9.out; have e2 : lb = sb := e; omega) (.int .i64 2))
      have QBA : Hid (Blk (((W.setCell ⟨qb, 5, none⟩ (.int .i64 1)).setCell ⟨rb, 5, none⟩ (.int .i64 7)).setCell ⟨sb, 2, none⟩ (.int .i64 2)) qb #[.int .i64 0, .int .u8 2, .int .i64 1, .int .i64 0, .int .i64 0, .int .i64 1, .int .i64 0] 39) := Lib.hid (Blk.other (Blk.other (QB9.out.set 5 (.int .i64 1)) (p := ⟨rb, 5, none⟩) (fun e => by have := HN9.out; have e2 : qb = rb := e; omega) (.int .i64 7)) (p := ⟨sb, 2, none⟩) (fun e => by have := HN9.out; have e2 : qb = sb := e; omega) (.int .i64 2))
      have RBA : Hid (Blk (((W.setCell ⟨qb, 5, none⟩ (.int .i64 1)).setCell ⟨rb, 5, none⟩ (.int .i64 7)).setCell ⟨sb, 2, none⟩ (.int .i64 2)) rb #[.int .i64 0, .int .u8 2, .int .i64 1, .int .i64 0, .int .i64 0, .int .i64 7, .int .i64 0] 39) := Lib.hid (Blk.other ((Blk.other RB9.out (p := ⟨qb, 5, none⟩) (fun e => by have := HN9.out; have e2 : rb = qb := e; omega) (.int .i64 1)).set 5 (.int .i64 7)) (p := ⟨sb, 2, none⟩) (fun e => by have := HN9.out; have e2 : rb = sb := e; omega) (.int .i64 2))
      have SBA : Hid (Blk (((W.setCell ⟨qb, 5, none⟩ (.int .i64 1)).setCell ⟨rb, 5, none⟩ (.int .i64 7)).setCell ⟨sb, 2, none⟩ (.int .i64 2)) sb #[.int .i64 0, .int .u8 2, .int .i64 2, .int .i64 0, .int .i64 0, .int .i64 6, .int .i64 0] 39) := Lib.hid ((Blk.other (Blk.other SB9.out (p := ⟨qb, 5, none⟩) (fun e => by have := HN9.out; have e2 : sb = qb := e; omega) (.int .i64 1)) (p := ⟨rb, 5, none⟩) (fun e => by have := HN9.out; have e2 : sb = rb := e; omega) (.int .i64 7)).set 2 (.int .i64 2))
      have KA : Hid (Kept W5 (((W.setCell ⟨qb, 5, none⟩ (.int .i64 1)).setCell ⟨rb, 5, none⟩ (.int .i64 7)).setCell ⟨sb, 2, none⟩ (.int .i64 2))) := Lib.hid (((K9.out.then (updCellO _ qb 5 (.int .i64 1)) (fun i hi e => by have := HN9.out; have e2 : i = qb := e; omega)).then (updCellO _ rb 5 (.int .i64 7)) (fun i hi e => by have := HN9.out; have e2 : i = rb := e; omega)).then (updCellO _ sb 2 (.int .i64 2)) (fun i hi e => by have := HN9.out; have e2 : i = sb := e; omega))
      clear XB9 YB9 EB9 LB9 QB9 RB9 SB9 K9 HN9
      generalize (((W.setCell ⟨qb, 5, none⟩ (.int .i64 1)).setCell ⟨rb, 5, none⟩ (.int .i64 7)).setCell ⟨sb, 2, none⟩ (.int .i64 2)) = WA at XBA YBA EBA LBA QBA RBA SBA KA ⊢
      have HOA := Lib.hid (HO5.out.kept KA.out)
      have HCA := Lib.hid (HC5.out.kept KA.out)
      have HPA := Lib.hid (HP5.out.kept KA.out)
      have HRA := Lib.hid (HCR5.out.kept KA.out)
      have HKA := Lib.hid (HK5.out.trans KA.out)
      clear HO5 HC5 HP5 HCR5 HK5 KA
      have G1 := fun u (k : Kept WA u) => Lib.hid (right_ex (c3 := c3) (c4 := c4) (c5 := c5) (c6 := c6) (c7 := c7) (c8 := c8) u (HRA.out.kept k) (HOA.out.kept k))
      have G2 := fun u (k : Kept WA u) => Lib.hid (legal_ex (c3 := c3) (c4 := c4) (c5 := c5) (c6 := c6) (c7 := c7) (c8 := c8) u (HRA.out.kept k) (HOA.out.kept k) ex2 (by decide))
      have G3 := fun u (k : Kept WA u) => Lib.hid (strict_ex (c3 := c3) (c4 := c4) (c5 := c5) (c6 := c6) (c7 := c7) (c8 := c8) u (HRA.out.kept k) (HOA.out.kept k) ex3 (by decide))
      have G4 := fun u (k : Kept WA u) => Lib.hid (strict_ex (c3 := c3) (c4 := c4) (c5 := c5) (c6 := c6) (c7 := c7) (c8 := c8) u (HRA.out.kept k) (HOA.out.kept k) ex4 (by decide))
      have G5 := fun u (k : Kept WA u) => Lib.hid (legal_ex (c3 := c3) (c4 := c4) (c5 := c5) (c6 := c6) (c7 := c7) (c8 := c8) u (HRA.out.kept k) (HOA.out.kept k) ex5 (by decide))
      have G6 := fun u (k : Kept WA u) => Lib.hid (legal_ex (c3 := c3) (c4 := c4) (c5 := c5) (c6 := c6) (c7 := c7) (c8 := c8) u (HRA.out.kept k) (HOA.out.kept k) ex6 (by decide))
      have G7 := fun u (k : Kept WA u) => Lib.hid (legal_ex (c3 := c3) (c4 := c4) (c5 := c5) (c6 := c6) (c7 := c7) (c8 := c8) u (HRA.out.kept k) (HOA.out.kept k) ex7 (by decide))
      have G8 := fun u (k : Kept WA u) => Lib.hid (legal_ex (c3 := c3) (c4 := c4) (c5 := c5) (c6 := c6) (c7 := c7) (c8 := c8) u (HRA.out.kept k) (HOA.out.kept k) ex8 (by decide))
      have G9 := fun u (k : Kept WA u) => Lib.hid (legal_ex (c3 := c3) (c4 := c4) (c5 := c5) (c6 := c6) (c7 := c7) (c8 := c8) u (HRA.out.kept k) (HOA.out.kept k) ex9 (by decide))
      clear HOA HRA
      have KA0 : Hid (Kept WA WA) := Lib.hid (Upd.refl _ _)
      have cc := (HCA.out.kept KA0.out).cell
      have px := (HPA.out.kept KA0.out).cell
      go_wp2_with fail
      refine (G1 _ KA0.out).out.mono ?_
      rintro e wq1 ⟨rfl, hk⟩
      have KA1 := Lib.hid (KA0.out.trans hk)
      clear hk cc px KA0 G1
      have cc := (HCA.out.kept KA1.out).cell
      have px := (HPA.out.kept KA1.out).cell
      have ex := (EBA.out.kept KA1.out).cell
      go_wp2_with fail
      refine (G2 _ KA1.out).out.mono ?_
      rintro e wq2 ⟨rfl, hk⟩
      have KA2 := Lib.hid (KA1.out.trans hk)
      clear hk cc px KA1 G2 ex
      have cc := (HCA.out.kept KA2.out).cell
      have px := (HPA.out.kept KA2.out).cell
      have ex := (EBA.out.kept KA2.out).cell
      go_wp2_with fail
      refine (G3 _ KA2.out).out.mono ?_
      rintro e wq3 ⟨rfl, hk⟩
      have KA3 := Lib.hid (KA2.out.trans hk)
      clear hk cc px KA2 G3 ex
      have cc := (HCA.out.kept KA3.out).cell
      have px := (HPA.out.kept KA3.out).cell
      have ex := (XBA.out.kept KA3.out).cell
      go_wp2_with fail
      refine (G4 _ KA3.out).out.mono ?_
      rintro e wq4 ⟨rfl, hk⟩
      have KA4 := Lib.hid (KA3.out.trans hk)
      clear hk cc px KA3 G4 ex
      have cc := (HCA.out.kept KA4.out).cell
      have px := (HPA.out.kept KA4.out).cell
      have ex := (YBA.out.kept KA4.out).cell
      go_wp2_with fail
      refine (G5 _ KA4.out).out.mono ?_
      rintro e wq5 ⟨rfl, hk⟩
      have KA5 := Lib.hid (KA4.out.trans hk)
      clear hk cc px KA4 G5 ex
      have cc := (HCA.out.kept KA5.out).cell
      have px := (HPA.out.kept KA5.out).cell
      have ex := (LBA.out.kept KA5.out).cell
      go_wp2_with fail
      refine (G6 _ KA5.out).out.mono ?_
      rintro e wq6 ⟨rfl, hk⟩
      have KA6 := Lib.hid (KA5.out.trans hk)
      clear hk cc px KA5 G6 ex
      have cc := (HCA.out.kept KA6.out).cell
      have px := (HPA.out.kept KA6.out).cell
      have ex := (QBA.out.kept KA6.out).cell
      go_wp2_with fail
      refine (G7 _ KA6.out).out.mono ?_
      rintro e wq7 ⟨rfl, hk⟩
      have KA7 := Lib.hid (KA6.out.trans hk)
      clear hk cc px KA6 G7 ex
      have cc := (HCA.out.kept KA7.out).cell
      have px := (HPA.out.kept KA7.out).cell
      have ex := (RBA.out.kept KA7.out).cell
      go_wp2_with fail
      refine (G8 _ KA7.out).out.mono ?_
      rintro e wq8 ⟨rfl, hk⟩
      have KA8 := Lib.hid (KA7.out.trans hk)
      clear hk cc px KA7 G8 ex
      have cc := (HCA.out.kept KA8.out).cell
      have px := (HPA.out.kept KA8.out).cell
      have ex := (SBA.out.kept KA8.out).cell
      go_wp2_with fail
      refine (G9 _ KA8.out).out.mono ?_
      rintro e wq9 ⟨rfl, hk⟩
      have KA9 := Lib.hid (KA8.out.trans hk)
      clear hk cc px KA8 G9 ex
      go_wp2_with fail
      have HKF := Lib.hid (HKA.out.trans KA9.out)
      go_ret
      exact ⟨rfl, HKF.out⟩
    
end Go.Proofs.Ytdhimfkmgcfohaa
