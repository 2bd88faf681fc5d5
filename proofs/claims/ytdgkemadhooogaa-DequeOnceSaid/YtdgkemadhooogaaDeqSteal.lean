/- Package deque: a steal (printed by gen_deq.py). -/
import Derived.Test.YtdgkemadhooogaaDeqPush
import Derived.Deep.RegionHeld3
import Derived.Deep.CutRange
import Derived.StillTailTactics
import Derived.Deep.MidRow
namespace Go.Proofs.Ytdgkemadhooogaa
set_option linter.unusedVariables false
set_option linter.unusedSimpArgs false
open Go.RowKit
attribute [local go_sem] cell?_ext

set_option maxRecDepth 100000 in
set_option maxHeartbeats 2000000 in
theorem steal_first {w : World} {mb : Nat} {T : TypeId} {l : Lay} {k : Int} {lo : Bool} {a t b x : Int} {dn gt : Bool} {bb g : Nat} {xs : List Int} {tp r : Nat} (hG : Geo l k tp r) (h : PB w mb T l k ⟨a, t, b, x, dn, gt⟩ [.bool lo]) (hb : Bnk w bb g xs) (hne : ¬ mb = g ∧ ¬ mb = bb) :
    Calls Try.prog 71 #[.pointer (some ⟨mb, 0, none⟩), .pointer (some ⟨bb, 0, none⟩)] w fun e w' => e = .returned (.tuple #[]) ∧ DSt T l k mb bb g ⟨a, bget xs (tp : Int), b, x, dn, gt⟩ [.bool lo] xs w w' := by
  have HT := Lib.hid (dloadTop hG h hb hne)
  clear h hb hne hG
  go_enter Try.func71, Try.ntmps71
  go_wp2_with fail
  refine HT.out.mono ?_
  rintro e w1 ⟨rfl, hk⟩
  have H9 := Lib.hid hk
  clear hk HT
  go_wp2_with fail
  go_end0
  exact ⟨rfl, H9.out⟩
set_option maxRecDepth 100000 in
set_option maxHeartbeats 2000000 in
theorem steal_some_no {w : World} {mb : Nat} {T : TypeId} {l : Lay} {k : Int} {lo : Bool} {a t b x : Int} {dn gt : Bool} {bb g : Nat} {xs : List Int} {tp r : Nat} (hG : Geo l k tp r) (h : PB w mb T l k ⟨a, t, b, x, dn, gt⟩ [.bool lo]) (hb : Bnk w bb g xs) (hne : ¬ mb = g ∧ ¬ mb = bb) (hq : bget xs ((tp : Int) + 1) ≤ t) :
    Calls Try.prog 72 #[.pointer (some ⟨mb, 0, none⟩), .pointer (some ⟨bb, 0, none⟩)] w fun e w' => e = .returned (.tuple #[]) ∧ DSt T l k mb bb g ⟨a, t, bget xs ((tp : Int) + 1), x, true, false⟩ [.bool lo] xs w w' := by
  have HT := Lib.hid (dloadBottom hG h hb hne)
  obtain ⟨y, hy⟩ : ∃ y, bget xs ((tp : Int) + 1) = y := ⟨_, rfl⟩
  rw [hy] at HT hq ⊢
  have HN := Lib.hid hne
  clear h hb hne hG hy
  have hq2 : decide (y ≤ t) = true := by simpa using hq
  go_enter Try.func72, Try.ntmps72
  go_wp2_with fail
  refine HT.out.mono ?_
  rintro e w1 ⟨rfl, hk⟩
  have H1 := Lib.hid hk
  clear hk HT
  obtain ⟨-, c16, c17, -, -, -⟩ := H1.out.1.own
  simp only at c16 c17
  go_upto_region 1 with (fail)
  refine wp_region_kept (by kernel_rfl) (by kernel_rfl) ?_
  repeat (go_big_quiet_step (fail))
  refine wpQuiet_nil ?_
  intro w2 hk2
  go_wp2_with fail
  refine (dend false (H1.out.1.kept hk2)).mono ?_
  rintro e w3 ⟨rfl, h3, hU⟩
  have H9 := Lib.hid (DSt.step (w1 := w1) H1.out h3 ((hk2.wide (fun _ _ f => f.elim)).trans hU) HN.out)
  clear h3 hU
  go_wp2_with fail
  go_end0
  exact ⟨rfl, H9.out⟩
set_option maxRecDepth 100000 in
set_option maxHeartbeats 2000000 in
theorem steal_some_yes {w : World} {mb : Nat} {T : TypeId} {l : Lay} {k : Int} {lo : Bool} {a t b x : Int} {dn gt : Bool} {bb g : Nat} {xs : List Int} {tp r : Nat} (hG : Geo l k tp r) (h : PB w mb T l k ⟨a, t, b, x, dn, gt⟩ [.bool lo]) (hb : Bnk w bb g xs) (hne : ¬ mb = g ∧ ¬ mb = bb) (hq : ¬ bget xs ((tp : Int) + 1) ≤ t) :
    Calls Try.prog 72 #[.pointer (some ⟨mb, 0, none⟩), .pointer (some ⟨bb, 0, none⟩)] w fun e w' => e = .returned (.tuple #[]) ∧ DSt T l k mb bb g ⟨a, t, bget xs ((tp : Int) + 1), x, dn, gt⟩ [.bool lo] xs w w' := by
  have HT := Lib.hid (dloadBottom hG h hb hne)
  obtain ⟨y, hy⟩ : ∃ y, bget xs ((tp : Int) + 1) = y := ⟨_, rfl⟩
  rw [hy] at HT hq ⊢
  have HN := Lib.hid hne
  clear h hb hne hG hy
  have hq2 : decide (y ≤ t) = false := by simpa using hq
  go_enter Try.func72, Try.ntmps72
  go_wp2_with fail
  refine HT.out.mono ?_
  rintro e w1 ⟨rfl, hk⟩
  have H1 := Lib.hid hk
  clear hk HT
  obtain ⟨-, c16, c17, -, -, -⟩ := H1.out.1.own
  simp only at c16 c17
  go_upto_region 1 with (fail)
  refine wp_region_kept (by kernel_rfl) (by kernel_rfl) ?_
  repeat (go_big_quiet_step (fail))
  refine wpQuiet_nil ?_
  intro w2 hk2
  have H9 := Lib.hid (DSt.step (w1 := w1) H1.out (H1.out.1.kept hk2) (hk2.wide (fun _ _ f => f.elim)) HN.out)
  go_wp2_with fail
  go_end0
  exact ⟨rfl, H9.out⟩
set_option maxRecDepth 100000 in
set_option maxHeartbeats 2000000 in
theorem steal_read {w : World} {mb : Nat} {T : TypeId} {l : Lay} {k : Int} {lo : Bool} {a t b x : Int} {dn gt : Bool} {bb g : Nat} {xs : List Int} {tp r : Nat} (hG : Geo l k tp r) (h : PB w mb T l k ⟨a, t, b, x, dn, gt⟩ [.bool lo]) (hb : Bnk w bb g xs) (hne : ¬ mb = g ∧ ¬ mb = bb) (htd : 0 ≤ t ∧ t ≤ 1000000) :
    Calls Try.prog 73 #[.pointer (some ⟨mb, 0, none⟩), .pointer (some ⟨bb, 0, none⟩)] w fun e w' => e = .returned (.tuple #[]) ∧ DSt T l k mb bb g ⟨a, t, b, bget xs (slot tp r t), dn, gt⟩ [.bool lo] xs w w' := by
  have HS := fun (w' : World) (k' : Kept w w') => Lib.hid (dslot (j := t) hG (h.kept k') (by omega))
  obtain ⟨y, hy⟩ : ∃ y, bget xs (slot tp r t) = y := ⟨_, rfl⟩
  rw [hy]
  have HL := fun (w' : World) (k' : Kept w w') => Lib.hid (Load_is (hb.kept k') (slot tp r t) y hy)
  have HP := fun (w' : World) (k' : Kept w w') => h.kept k'
  have HX := fun (w' : World) (k' : Kept w w') => (show w'.cell? ⟨mb, 18, none⟩ = some (.int .i64 x) from (by rw [(h.kept k').cell]; rfl))
  have HF := fun (w1 : World) (k1 : Kept w w1) => (show DSt T l k mb bb g ⟨a, t, b, y, dn, gt⟩ [.bool lo] xs w (w1.setCell ⟨mb, 18, none⟩ (.int .i64 y)) from
    DSt.set (m := ⟨a, t, b, x, dn, gt⟩) ⟨h.kept k1, hb.kept k1, k1.wide (fun _ _ f => f.elim)⟩ hne 18 (.int .i64 y) rfl)
  have HN := Lib.hid hne
  generalize slot tp r t = sl at HS HL hy ⊢
  have HC := fun (w' : World) (k' : Kept w w') => (show (w'.cell? ⟨mb, 16, none⟩ = some (.int .i64 t)) from (by rw [(h.kept k').cell]; rfl))
  clear h hb hne hG
  go_enter Try.func73, Try.ntmps73
  go_upto_region 0 with (fail)
  have k0 : Kept w w.drew := (Upd.refl _ _).drew
  have C0 : (w.drew.cell? ⟨mb, 16, none⟩ = some (.int .i64 t)) := HC _ k0
  go_region_held3 (fun w' => (w'.cell? ⟨mb, 16, none⟩ = some (.int .i64 t)))
    (first | exact C0 | exact C1 | exact C2)
    (first
      | (go_at_call 35; refine ((HL _ k1).out).mono ?_; rintro e W2 ⟨rfl, rfl⟩; have f18 := (HP _ k1).free 18; have c18 := HX _ k1; have H9 := Lib.hid (HF _ k1); have C2 : ((W1.setCell ⟨mb, 18, none⟩ (.int .i64 y)).cell? ⟨mb, 16, none⟩ = some (.int .i64 t)) := (by rw [H9.out.1.cell]; rfl))
      | (go_at_call 101; refine ((HS _ k0).out).mono ?_; rintro e W1 ⟨rfl, hk⟩; have k1 : Kept w W1 := k0.trans hk; have C1 := HC _ k1; clear hk))
  go_wp2_with fail
  go_end0
  exact ⟨rfl, H9.out⟩
set_option maxRecDepth 100000 in
set_option maxHeartbeats 2000000 in
theorem steal_take {w : World} {mb : Nat} {T : TypeId} {l : Lay} {k : Int} {lo : Bool} {a t b x : Int} {dn gt : Bool} {bb g : Nat} {xs : List Int} {tp r : Nat} (hG : Geo l k tp r) (h : PB w mb T l k ⟨a, t, b, x, dn, gt⟩ [.bool lo]) (hb : Bnk w bb g xs) (hne : ¬ mb = g ∧ ¬ mb = bb) (htd : 0 ≤ t ∧ t ≤ 1000000) (hlen : tp < xs.length) :
    Calls Try.prog 74 #[.pointer (some ⟨mb, 0, none⟩), .pointer (some ⟨bb, 0, none⟩)] w fun e w' => e = .returned (.tuple #[]) ∧ DSt T l k mb bb g ⟨a, t, b, x, true, decide (bget xs (tp : Int) = t)⟩ [.bool (!decide (bget xs (tp : Int) = t))] (if bget xs (tp : Int) = t then bput xs (tp : Int) (t + 1) else xs) w w' := by
  have HC := fun (w' : World) (k' : Kept w w') => (show (w'.cell? ⟨mb, 16, none⟩ = some (.int .i64 t)) from (by rw [(h.kept k').cell]; rfl))
  obtain ⟨q, hq⟩ : ∃ q, t + 1 = q := ⟨_, rfl⟩
  have hw : wrap64 (t + 1) = q := by unfold wrap64; omega
  have hw2 : IntKind.i64.wrap (t + 1) = q := by rw [IntKind.wrap_i64]; omega
  rw [hq]
  clear hq
  have hrb : decide ((0 ≤ (tp : Int) ∧ (tp : Int) < (xs.length : Int)) ∧ bget xs (tp : Int) = t) = decide (bget xs (tp : Int) = t) := by
    rw [decide_eq_decide]
    exact ⟨fun h => h.2, fun h => ⟨⟨by omega, by omega⟩, h⟩⟩
  obtain ⟨z, hz⟩ : ∃ z, decide (bget xs (tp : Int) = t) = z := ⟨_, rfl⟩
  obtain ⟨ys, hy⟩ : ∃ ys, (if bget xs (tp : Int) = t then bput xs (tp : Int) q else xs) = ys := ⟨_, rfl⟩
  rw [hz] at hrb
  rw [hz, hy]
  have HS := fun (w' : World) (k' : Kept w w') => Lib.hid (dtop hG (h.kept k'))
  have HB := fun (w' : World) (k' : Kept w w') => Lib.hid (CAS_is (hb.kept k') (tp : Int) t q z ys (by rw [← hrb]) hy)
  have HF := fun (w1 w2 : World) (k1 : Kept w w1) (hB : Bnk w2 bb g ys) hU => DSt.of h k1 hB hU hne.1
  have HN := Lib.hid hne
  clear hrb hz hy
  clear h hb hne hG
  go_enter Try.func74, Try.ntmps74
  go_upto_region 0 with (fail)
  have C0 : (w.drew.cell? ⟨mb, 16, none⟩ = some (.int .i64 t)) := HC _ (Upd.refl _ _).drew
  have k0 : Kept w w.drew := (Upd.refl _ _).drew
  go_region_held3 (fun w' => (w'.cell? ⟨mb, 16, none⟩ = some (.int .i64 t)))
    (first | exact C0 | exact C1 | exact C2 | exact C3)
    (first
      | (go_at_call 100; refine (dend z H9.out.1).mono ?_; rintro e W3 ⟨rfl, h3, hU⟩; have H8 := Lib.hid (DSt.step H9.out h3 hU HN.out); have C3 : (W3.cell? ⟨mb, 16, none⟩ = some (.int .i64 t)) := (by rw [H8.out.1.cell]; rfl); clear h3 hU)
      | (go_at_call 102; refine ((HB _ k1).out).mono ?_; rintro e W2 ⟨rfl, hB, hU⟩; have H9 := Lib.hid (HF _ _ k1 hB hU); have C2 : (W2.cell? ⟨mb, 16, none⟩ = some (.int .i64 t)) := (by rw [H9.out.1.cell]; rfl); clear hB hU)
      | (go_at_call 103; refine ((HS _ k0).out).mono ?_; rintro e W1 ⟨rfl, hk⟩; have k1 : Kept w W1 := k0.trans hk; have C1 := HC _ k1; clear hk))
  have f21 := H8.out.1.free 21
  obtain ⟨-, -, -, -, -, c20⟩ := H8.out.1.own
  simp only at c20
  have c21 : W3.cell? ⟨mb, 21, none⟩ = some (.bool lo) := by rw [H8.out.1.cell]; rfl
  have H7 := Lib.hid (H8.out.set HN.out 21 (.bool (!z)) (m' := ⟨a, t, b, x, true, z⟩) (ex' := [.bool (!z)]) rfl)
  go_wp2_with fail
  go_end0
  exact ⟨rfl, H7.out⟩
theorem steal_take_is {w : World} {mb : Nat} {T : TypeId} {l : Lay} {k : Int} {lo : Bool} {a t b x : Int} {dn gt : Bool} {bb g : Nat} {xs : List Int} {tp r : Nat} (hG : Geo l k tp r) (h : PB w mb T l k ⟨a, t, b, x, dn, gt⟩ [.bool lo]) (hb : Bnk w bb g xs) (hne : ¬ mb = g ∧ ¬ mb = bb) (htd : 0 ≤ t ∧ t ≤ 1000000) (hlen : tp < xs.length) (z : Bool) (ys : List Int) (hz : decide (bget xs (tp : Int) = t) = z) (hy : (if bget xs (tp : Int) = t then bput xs (tp : Int) (t + 1) else xs) = ys) :
    Calls Try.prog 74 #[.pointer (some ⟨mb, 0, none⟩), .pointer (some ⟨bb, 0, none⟩)] w fun e w' => e = .returned (.tuple #[]) ∧ DSt T l k mb bb g ⟨a, t, b, x, true, z⟩ [.bool (!z)] ys w w' := by
  have := steal_take hG h hb hne htd hlen
  rwa [hz, hy] at this
set_option maxRecDepth 100000 in
set_option maxHeartbeats 1000000 in
theorem steal_step_0 {w : World} {mb : Nat} {T : TypeId} {l : Lay} {k : Int} {lo : Bool} {t b x : Int} {gt : Bool} {bb g : Nat} {xs : List Int} {tp r : Nat} (hG : Geo l k tp r) (h : PB w mb T l k ⟨0, t, b, x, false, gt⟩ [.bool lo]) (hb : Bnk w bb g xs) (hne : ¬ mb = g ∧ ¬ mb = bb) :
    Calls Try.prog 41 #[.pointer (some ⟨mb, 0, none⟩), .pointer (some ⟨bb, 0, none⟩)] w fun e w' => e = .returned (.bool false) ∧ DSt T l k mb bb g ⟨1, bget xs (tp : Int), b, x, false, gt⟩ [.bool lo] xs w w' := by
  have hix : ∀ w, (Instr.index 141 (.agg #[.func (.func 71) #[] #[], .func (.func 72) #[] #[], .func (.func 73) #[] #[], .func (.func 74) #[] #[]]) (.int .i64 0)).run Try.prog w = .ok (.func (.func 71) #[] #[]) w := fun w => by
    simp [Instr.index, go_sem, run_underlying Try.underlying141]
  have HN := Lib.hid (dnext (a := 0) (by omega) h)
  have HD0 := fun (w1 : World) (h1 : PB w1 mb T l k ⟨0 + 1, t, b, x, false, gt⟩ [.bool lo]) (hU : Upd (fun i => i = mb) w w1) => (show DSt T l k mb bb g ⟨1, t, b, x, false, gt⟩ [.bool lo] xs w w1 from
    ⟨(by rw [show ((0 : Int) + 1) = 1 by decide] at h1; exact h1), hb.upd hU (fun e => hne.2 e.symm) (fun e => hne.1 e.symm), hU.wide (fun _ _ e => .inr e)⟩)
  have HC := fun (w1 : World) (h1 : DSt T l k mb bb g ⟨1, t, b, x, false, gt⟩ [.bool lo] xs w w1) => Lib.hid (steal_first hG h1.1 h1.2.1 hne)
  clear h hb hne hG
  go_enter Try.func41, Try.ntmps41
  go_wp2_with fail
  refine HN.out.mono ?_
  rintro e w1 ⟨rfl, h1, hU⟩
  have H0 := Lib.hid (HD0 w1 h1 hU)
  have HC1 := HC w1 H0.out
  clear h1 hU HN HC HD0
  go_wp2_with fail
  refine HC1.out.mono ?_
  rintro e w2 ⟨rfl, h2⟩
  have H9 := Lib.hid (H0.out.trans h2)
  obtain ⟨-, -, -, -, c19, -⟩ := h2.1.own
  simp only at c19
  clear h2 HC1 H0
  go_wp2_with fail
  go_ret
  exact ⟨rfl, H9.out⟩
set_option maxRecDepth 100000 in
set_option maxHeartbeats 1000000 in
theorem steal_step_1n {w : World} {mb : Nat} {T : TypeId} {l : Lay} {k : Int} {lo : Bool} {t b x : Int} {gt : Bool} {bb g : Nat} {xs : List Int} {tp r : Nat} (hG : Geo l k tp r) (h : PB w mb T l k ⟨1, t, b, x, false, gt⟩ [.bool lo]) (hb : Bnk w bb g xs) (hne : ¬ mb = g ∧ ¬ mb = bb) (hq : bget xs ((tp : Int) + 1) ≤ t) :
    Calls Try.prog 41 #[.pointer (some ⟨mb, 0, none⟩), .pointer (some ⟨bb, 0, none⟩)] w fun e w' => e = .returned (.bool true) ∧ DSt T l k mb bb g ⟨2, t, bget xs ((tp : Int) + 1), x, true, false⟩ [.bool lo] xs w w' := by
  have hix : ∀ w, (Instr.index 141 (.agg #[.func (.func 71) #[] #[], .func (.func 72) #[] #[], .func (.func 73) #[] #[], .func (.func 74) #[] #[]]) (.int .i64 1)).run Try.prog w = .ok (.func (.func 72) #[] #[]) w := fun w => by
    simp [Instr.index, go_sem, run_underlying Try.underlying141]
  have HN := Lib.hid (dnext (a := 1) (by omega) h)
  have HD0 := fun (w1 : World) (h1 : PB w1 mb T l k ⟨1 + 1, t, b, x, false, gt⟩ [.bool lo]) (hU : Upd (fun i => i = mb) w w1) => (show DSt T l k mb bb g ⟨2, t, b, x, false, gt⟩ [.bool lo] xs w w1 from
    ⟨(by rw [show ((1 : Int) + 1) = 2 by decide] at h1; exact h1), hb.upd hU (fun e => hne.2 e.symm) (fun e => hne.1 e.symm), hU.wide (fun _ _ e => .inr e)⟩)
  have HC := fun (w1 : World) (h1 : DSt T l k mb bb g ⟨2, t, b, x, false, gt⟩ [.bool lo] xs w w1) => Lib.hid (steal_some_no hG h1.1 h1.2.1 hne hq)
  clear h hb hne hG
  go_enter Try.func41, Try.ntmps41
  go_wp2_with fail
  refine HN.out.mono ?_
  rintro e w1 ⟨rfl, h1, hU⟩
  have H0 := Lib.hid (HD0 w1 h1 hU)
  have HC1 := HC w1 H0.out
  clear h1 hU HN HC HD0
  go_wp2_with fail
  refine HC1.out.mono ?_
  rintro e w2 ⟨rfl, h2⟩
  have H9 := Lib.hid (H0.out.trans h2)
  obtain ⟨-, -, -, -, c19, -⟩ := h2.1.own
  simp only at c19
  clear h2 HC1 H0
  go_wp2_with fail
  go_ret
  exact ⟨rfl, H9.out⟩
set_option maxRecDepth 100000 in
set_option maxHeartbeats 1000000 in
theorem steal_step_1y {w : World} {mb : Nat} {T : TypeId} {l : Lay} {k : Int} {lo : Bool} {t b x : Int} {gt : Bool} {bb g : Nat} {xs : List Int} {tp r : Nat} (hG : Geo l k tp r) (h : PB w mb T l k ⟨1, t, b, x, false, gt⟩ [.bool lo]) (hb : Bnk w bb g xs) (hne : ¬ mb = g ∧ ¬ mb = bb) (hq : ¬ bget xs ((tp : Int) + 1) ≤ t) :
    Calls Try.prog 41 #[.pointer (some ⟨mb, 0, none⟩), .pointer (some ⟨bb, 0, none⟩)] w fun e w' => e = .returned (.bool false) ∧ DSt T l k mb bb g ⟨2, t, bget xs ((tp : Int) + 1), x, false, gt⟩ [.bool lo] xs w w' := by
  have hix : ∀ w, (Instr.index 141 (.agg #[.func (.func 71) #[] #[], .func (.func 72) #[] #[], .func (.func 73) #[] #[], .func (.func 74) #[] #[]]) (.int .i64 1)).run Try.prog w = .ok (.func (.func 72) #[] #[]) w := fun w => by
    simp [Instr.index, go_sem, run_underlying Try.underlying141]
  have HN := Lib.hid (dnext (a := 1) (by omega) h)
  have HD0 := fun (w1 : World) (h1 : PB w1 mb T l k ⟨1 + 1, t, b, x, false, gt⟩ [.bool lo]) (hU : Upd (fun i => i = mb) w w1) => (show DSt T l k mb bb g ⟨2, t, b, x, false, gt⟩ [.bool lo] xs w w1 from
    ⟨(by rw [show ((1 : Int) + 1) = 2 by decide] at h1; exact h1), hb.upd hU (fun e => hne.2 e.symm) (fun e => hne.1 e.symm), hU.wide (fun _ _ e => .inr e)⟩)
  have HC := fun (w1 : World) (h1 : DSt T l k mb bb g ⟨2, t, b, x, false, gt⟩ [.bool lo] xs w w1) => Lib.hid (steal_some_yes hG h1.1 h1.2.1 hne hq)
  clear h hb hne hG
  go_enter Try.func41, Try.ntmps41
  go_wp2_with fail
  refine HN.out.mono ?_
  rintro e w1 ⟨rfl, h1, hU⟩
  have H0 := Lib.hid (HD0 w1 h1 hU)
  have HC1 := HC w1 H0.out
  clear h1 hU HN HC HD0
  go_wp2_with fail
  refine HC1.out.mono ?_
  rintro e w2 ⟨rfl, h2⟩
  have H9 := Lib.hid (H0.out.trans h2)
  obtain ⟨-, -, -, -, c19, -⟩ := h2.1.own
  simp only at c19
  clear h2 HC1 H0
  go_wp2_with fail
  go_ret
  exact ⟨rfl, H9.out⟩
set_option maxRecDepth 100000 in
set_option maxHeartbeats 1000000 in
theorem steal_step_2 {w : World} {mb : Nat} {T : TypeId} {l : Lay} {k : Int} {lo : Bool} {t b x : Int} {gt : Bool} {bb g : Nat} {xs : List Int} {tp r : Nat} (hG : Geo l k tp r) (h : PB w mb T l k ⟨2, t, b, x, false, gt⟩ [.bool lo]) (hb : Bnk w bb g xs) (hne : ¬ mb = g ∧ ¬ mb = bb) (htd : 0 ≤ t ∧ t ≤ 1000000) :
    Calls Try.prog 41 #[.pointer (some ⟨mb, 0, none⟩), .pointer (some ⟨bb, 0, none⟩)] w fun e w' => e = .returned (.bool false) ∧ DSt T l k mb bb g ⟨3, t, b, bget xs (slot tp r t), false, gt⟩ [.bool lo] xs w w' := by
  have hix : ∀ w, (Instr.index 141 (.agg #[.func (.func 71) #[] #[], .func (.func 72) #[] #[], .func (.func 73) #[] #[], .func (.func 74) #[] #[]]) (.int .i64 2)).run Try.prog w = .ok (.func (.func 73) #[] #[]) w := fun w => by
    simp [Instr.index, go_sem, run_underlying Try.underlying141]
  have HN := Lib.hid (dnext (a := 2) (by omega) h)
  have HD0 := fun (w1 : World) (h1 : PB w1 mb T l k ⟨2 + 1, t, b, x, false, gt⟩ [.bool lo]) (hU : Upd (fun i => i = mb) w w1) => (show DSt T l k mb bb g ⟨3, t, b, x, false, gt⟩ [.bool lo] xs w w1 from
    ⟨(by rw [show ((2 : Int) + 1) = 3 by decide] at h1; exact h1), hb.upd hU (fun e => hne.2 e.symm) (fun e => hne.1 e.symm), hU.wide (fun _ _ e => .inr e)⟩)
  have HC := fun (w1 : World) (h1 : DSt T l k mb bb g ⟨3, t, b, x, false, gt⟩ [.bool lo] xs w w1) => Lib.hid (steal_read hG h1.1 h1.2.1 hne htd)
  clear h hb hne hG
  go_enter Try.func41, Try.ntmps41
  go_wp2_with fail
  refine HN.out.mono ?_
  rintro e w1 ⟨rfl, h1, hU⟩
  have H0 := Lib.hid (HD0 w1 h1 hU)
  have HC1 := HC w1 H0.out
  clear h1 hU HN HC HD0
  go_wp2_with fail
  refine HC1.out.mono ?_
  rintro e w2 ⟨rfl, h2⟩
  have H9 := Lib.hid (H0.out.trans h2)
  obtain ⟨-, -, -, -, c19, -⟩ := h2.1.own
  simp only at c19
  clear h2 HC1 H0
  go_wp2_with fail
  go_ret
  exact ⟨rfl, H9.out⟩
set_option maxRecDepth 100000 in
set_option maxHeartbeats 1000000 in
theorem steal_step_3 {w : World} {mb : Nat} {T : TypeId} {l : Lay} {k : Int} {lo : Bool} {t b x : Int} {gt : Bool} {bb g : Nat} {xs : List Int} {tp r : Nat} (hG : Geo l k tp r) (h : PB w mb T l k ⟨3, t, b, x, false, gt⟩ [.bool lo]) (hb : Bnk w bb g xs) (hne : ¬ mb = g ∧ ¬ mb = bb) (htd : 0 ≤ t ∧ t ≤ 1000000) (hlen : tp < xs.length) (z : Bool) (ys : List Int) (hz : decide (bget xs (tp : Int) = t) = z) (hy : (if bget xs (tp : Int) = t then bput xs (tp : Int) (t + 1) else xs) = ys) :
    Calls Try.prog 41 #[.pointer (some ⟨mb, 0, none⟩), .pointer (some ⟨bb, 0, none⟩)] w fun e w' => e = .returned (.bool true) ∧ DSt T l k mb bb g ⟨4, t, b, x, true, z⟩ [.bool (!z)] ys w w' := by
  have hix : ∀ w, (Instr.index 141 (.agg #[.func (.func 71) #[] #[], .func (.func 72) #[] #[], .func (.func 73) #[] #[], .func (.func 74) #[] #[]]) (.int .i64 3)).run Try.prog w = .ok (.func (.func 74) #[] #[]) w := fun w => by
    simp [Instr.index, go_sem, run_underlying Try.underlying141]
  have HN := Lib.hid (dnext (a := 3) (by omega) h)
  have HD0 := fun (w1 : World) (h1 : PB w1 mb T l k ⟨3 + 1, t, b, x, false, gt⟩ [.bool lo]) (hU : Upd (fun i => i = mb) w w1) => (show DSt T l k mb bb g ⟨4, t, b, x, false, gt⟩ [.bool lo] xs w w1 from
    ⟨(by rw [show ((3 : Int) + 1) = 4 by decide] at h1; exact h1), hb.upd hU (fun e => hne.2 e.symm) (fun e => hne.1 e.symm), hU.wide (fun _ _ e => .inr e)⟩)
  have HC := fun (w1 : World) (h1 : DSt T l k mb bb g ⟨4, t, b, x, false, gt⟩ [.bool lo] xs w w1) => Lib.hid (steal_take_is hG h1.1 h1.2.1 hne htd hlen z ys hz hy)
  clear h hb hne hG hz hy
  go_enter Try.func41, Try.ntmps41
  go_wp2_with fail
  refine HN.out.mono ?_
  rintro e w1 ⟨rfl, h1, hU⟩
  have H0 := Lib.hid (HD0 w1 h1 hU)
  have HC1 := HC w1 H0.out
  clear h1 hU HN HC HD0
  go_wp2_with fail
  refine HC1.out.mono ?_
  rintro e w2 ⟨rfl, h2⟩
  have H9 := Lib.hid (H0.out.trans h2)
  obtain ⟨-, -, -, -, c19, -⟩ := h2.1.own
  simp only at c19
  clear h2 HC1 H0
  go_wp2_with fail
  go_ret
  exact ⟨rfl, H9.out⟩
set_option maxRecDepth 100000 in
theorem steal_step_d {w : World} {mb : Nat} {T : TypeId} {l : Lay} {k : Int} {lo : Bool} {a t b x : Int} {gt : Bool} {bb g : Nat} {xs : List Int} (h : PB w mb T l k ⟨a, t, b, x, true, gt⟩ [.bool lo]) (hb : Bnk w bb g xs) :
    Calls Try.prog 41 #[.pointer (some ⟨mb, 0, none⟩), .pointer (some ⟨bb, 0, none⟩)] w fun e w' => e = .returned (.bool true) ∧ DSt T l k mb bb g ⟨a, t, b, x, true, gt⟩ [.bool lo] xs w w' := by
  have HN := Lib.hid (dnext_done h)
  have H9 : Hid (DSt T l k mb bb g ⟨a, t, b, x, true, gt⟩ [.bool lo] xs w w) := Lib.hid ⟨h, hb, Upd.refl _ _⟩
  obtain ⟨-, -, -, -, c19, -⟩ := h.own
  simp only at c19
  clear h hb
  go_enter Try.func41, Try.ntmps41
  go_wp2_with fail
  refine HN.out.mono ?_
  rintro e w1 ⟨rfl, rfl⟩
  clear HN
  go_wp2_with fail
  go_ret
  exact ⟨rfl, H9.out⟩
set_option maxRecDepth 100000 in
set_option maxHeartbeats 2000000 in
theorem NewSteal_any (l : Lay) (k : Int) (w : World) : Calls Try.prog 13 #[l.val, .int .i64 k] w fun e w' => e = .returned (.agg (PL l k ⟨0, 0, 0, 0, false, false⟩ [.bool false]).toArray) ∧ Kept w w' := by
  obtain ⟨verts, arcs, workers, room, res, lex, hh, flag, pending, ask, count, sense, deques, size⟩ := l
  simp only [Lay.val, Lay.vals, PL]
  have HL : Hid (Blk ((w.alloc (.cells #[.int .i64 verts, .int .i64 arcs, .int .i64 workers, .int .i64 room, .int .i64 res, .int .i64 lex, .int .i64 hh, .int .i64 flag, .int .i64 pending, .int .i64 ask, .int .i64 count, .int .i64 sense, .int .i64 deques, .int .i64 size] 24)).alloc (.cells #[.int .i64 0, .int .i64 0, .int .i64 0, .int .i64 0, .int .i64 0, .int .i64 0, .int .i64 0, .int .i64 0, .int .i64 0, .int .i64 0, .int .i64 0, .int .i64 0, .int .i64 0, .int .i64 0, .int .i64 0, .int .i64 0, .int .i64 0, .int .i64 0, .int .i64 0, .bool false, .bool false, .bool false] 45)) w.heap.size #[.int .i64 verts, .int .i64 arcs, .int .i64 workers, .int .i64 room, .int .i64 res, .int .i64 lex, .int .i64 hh, .int .i64 flag, .int .i64 pending, .int .i64 ask, .int .i64 count, .int .i64 sense, .int .i64 deques, .int .i64 size] 24) := Lib.hid ((Blk.new w _ _).alloc _)
  have HZ : Hid (Blk ((w.alloc (.cells #[.int .i64 verts, .int .i64 arcs, .int .i64 workers, .int .i64 room, .int .i64 res, .int .i64 lex, .int .i64 hh, .int .i64 flag, .int .i64 pending, .int .i64 ask, .int .i64 count, .int .i64 sense, .int .i64 deques, .int .i64 size] 24)).alloc (.cells #[.int .i64 0, .int .i64 0, .int .i64 0, .int .i64 0, .int .i64 0, .int .i64 0, .int .i64 0, .int .i64 0, .int .i64 0, .int .i64 0, .int .i64 0, .int .i64 0, .int .i64 0, .int .i64 0, .int .i64 0, .int .i64 0, .int .i64 0, .int .i64 0, .int .i64 0, .bool false, .bool false, .bool false] 45)) (w.heap.size + 1) #[.int .i64 0, .int .i64 0, .int .i64 0, .int .i64 0, .int .i64 0, .int .i64 0, .int .i64 0, .int .i64 0, .int .i64 0, .int .i64 0, .int .i64 0, .int .i64 0, .int .i64 0, .int .i64 0, .int .i64 0, .int .i64 0, .int .i64 0, .int .i64 0, .int .i64 0, .bool false, .bool false, .bool false] 45) := Lib.hid (by
    have h := Blk.new (w.alloc (.cells #[.int .i64 verts, .int .i64 arcs, .int .i64 workers, .int .i64 room, .int .i64 res, .int .i64 lex, .int .i64 hh, .int .i64 flag, .int .i64 pending, .int .i64 ask, .int .i64 count, .int .i64 sense, .int .i64 deques, .int .i64 size] 24)) #[.int .i64 0, .int .i64 0, .int .i64 0, .int .i64 0, .int .i64 0, .int .i64 0, .int .i64 0, .int .i64 0, .int .i64 0, .int .i64 0, .int .i64 0, .int .i64 0, .int .i64 0, .int .i64 0, .int .i64 0, .int .i64 0, .int .i64 0, .int .i64 0, .int .i64 0, .bool false, .bool false, .bool false] 45
    rwa [World.size_alloc] at h)
  have HK : Hid (Kept w ((w.alloc (.cells #[.int .i64 verts, .int .i64 arcs, .int .i64 workers, .int .i64 room, .int .i64 res, .int .i64 lex, .int .i64 hh, .int .i64 flag, .int .i64 pending, .int .i64 ask, .int .i64 count, .int .i64 sense, .int .i64 deques, .int .i64 size] 24)).alloc (.cells #[.int .i64 0, .int .i64 0, .int .i64 0, .int .i64 0, .int .i64 0, .int .i64 0, .int .i64 0, .int .i64 0, .int .i64 0, .int .i64 0, .int .i64 0, .int .i64 0, .int .i64 0, .int .i64 0, .int .i64 0, .int .i64 0, .int .i64 0, .int .i64 0, .int .i64 0, .bool false, .bool false, .bool false] 45))) := Lib.hid (((Upd.refl _ _).alloc _).alloc _)
  have HS : Hid (w.heap.size ≤ w.heap.size + 1) := Lib.hid (by omega)
  go_enter Try.func13, Try.ntmps13
  go_upto_region 1 with (fail)
  generalize ((w.alloc (.cells #[.int .i64 verts, .int .i64 arcs, .int .i64 workers, .int .i64 room, .int .i64 res, .int .i64 lex, .int .i64 hh, .int .i64 flag, .int .i64 pending, .int .i64 ask, .int .i64 count, .int .i64 sense, .int .i64 deques, .int .i64 size] 24)).alloc (.cells #[.int .i64 0, .int .i64 0, .int .i64 0, .int .i64 0, .int .i64 0, .int .i64 0, .int .i64 0, .int .i64 0, .int .i64 0, .int .i64 0, .int .i64 0, .int .i64 0, .int .i64 0, .int .i64 0, .int .i64 0, .int .i64 0, .int .i64 0, .int .i64 0, .int .i64 0, .bool false, .bool false, .bool false] 45)) = W2 at HL HZ HK ⊢
  generalize w.heap.size + 1 = ob at HZ HS ⊢
  have hra : W2.rangeAt w.heap.size 0 [.int .i64 verts, .int .i64 arcs, .int .i64 workers, .int .i64 room, .int .i64 res, .int .i64 lex, .int .i64 hh, .int .i64 flag, .int .i64 pending, .int .i64 ask, .int .i64 count, .int .i64 sense, .int .i64 deques, .int .i64 size] := by
    intro j v hv
    rw [Nat.zero_add, HL.out.cell j]
    simpa using hv
  have hth : W2.there ob 0 22 := by
    intro j hj
    rw [Nat.zero_add, HZ.out.cell j]
    exact ⟨by rw [Array.getElem?_eq_getElem (by simpa using hj)]; rfl, HZ.out.free j⟩
  have hz14 : (Try.prog.info? 24).map (·.size) = some 14 := by kernel_rfl
  have hzn : (Try.prog.info? 45).map (·.size) = some 22 := by kernel_rfl
  obtain ⟨W3, hW3⟩ : ∃ W3, W2.setCells ob 0 [.int .i64 verts, .int .i64 arcs, .int .i64 workers, .int .i64 room, .int .i64 res, .int .i64 lex, .int .i64 hh, .int .i64 flag, .int .i64 pending, .int .i64 ask, .int .i64 count, .int .i64 sense, .int .i64 deques, .int .i64 size, .int .i64 k, .int .i64 0, .int .i64 0, .int .i64 0, .int .i64 0, .bool false, .bool false, .bool false] = W3 := ⟨_, rfl⟩
  have hr3 : W3.rangeAt ob 0 [.int .i64 verts, .int .i64 arcs, .int .i64 workers, .int .i64 room, .int .i64 res, .int .i64 lex, .int .i64 hh, .int .i64 flag, .int .i64 pending, .int .i64 ask, .int .i64 count, .int .i64 sense, .int .i64 deques, .int .i64 size, .int .i64 k, .int .i64 0, .int .i64 0, .int .i64 0, .int .i64 0, .bool false, .bool false, .bool false] := by rw [← hW3]; exact World.rangeAt_setCells_same W2 ob 0 _ hth
  have HKF : Hid (Kept w W3) := Lib.hid (HK.out.then (by rw [← hW3]; exact upd_setCells ob _ 0 W2) (fun i hi e => by have := HS.out; omega))
  have hlv := run_loadVar_mid (P := Try.prog) W3 ob 0 45 [.int .i64 verts, .int .i64 arcs, .int .i64 workers, .int .i64 room, .int .i64 res, .int .i64 lex, .int .i64 hh, .int .i64 flag, .int .i64 pending, .int .i64 ask, .int .i64 count, .int .i64 sense, .int .i64 deques, .int .i64 size, .int .i64 k, .int .i64 0, .int .i64 0, .int .i64 0, .int .i64 0, .bool false, .bool false, .bool false] _ hr3 Try.underlying45 rfl hzn
  clear HL HZ hr3 HK
  go_wp2_with (first | (refine wpList_load_mid rfl _ _ rfl w.heap.size 0 rfl [.int .i64 verts, .int .i64 arcs, .int .i64 workers, .int .i64 room, .int .i64 res, .int .i64 lex, .int .i64 hh, .int .i64 flag, .int .i64 pending, .int .i64 ask, .int .i64 count, .int .i64 sense, .int .i64 deques, .int .i64 size] _ hra Try.underlying24 rfl hz14 ?_) | (refine wpList_store_mid rfl _ _ _ rfl ob 0 #[.int .i64 verts, .int .i64 arcs, .int .i64 workers, .int .i64 room, .int .i64 res, .int .i64 lex, .int .i64 hh, .int .i64 flag, .int .i64 pending, .int .i64 ask, .int .i64 count, .int .i64 sense, .int .i64 deques, .int .i64 size, .int .i64 k, .int .i64 0, .int .i64 0, .int .i64 0, .int .i64 0, .bool false, .bool false, .bool false] rfl rfl hth hzn (all_oneCell_toArray (cs := [.int .i64 verts, .int .i64 arcs, .int .i64 workers, .int .i64 room, .int .i64 res, .int .i64 lex, .int .i64 hh, .int .i64 flag, .int .i64 pending, .int .i64 ask, .int .i64 count, .int .i64 sense, .int .i64 deques, .int .i64 size, .int .i64 k, .int .i64 0, .int .i64 0, .int .i64 0, .int .i64 0, .bool false, .bool false, .bool false]) (by simp [Value.oneCell'])) ?_; simp only [hW3]) | fail)
  clear hth hra hW3
  exact bodyPost_ret (v := .agg #[.int .i64 verts, .int .i64 arcs, .int .i64 workers, .int .i64 room, .int .i64 res, .int .i64 lex, .int .i64 hh, .int .i64 flag, .int .i64 pending, .int .i64 ask, .int .i64 count, .int .i64 sense, .int .i64 deques, .int .i64 size, .int .i64 k, .int .i64 0, .int .i64 0, .int .i64 0, .int .i64 0, .bool false, .bool false, .bool false]) (by simp [results, Try.results13, hlv, asAddr, Act.put]) rfl ⟨rfl, HKF.out⟩
/-- Whether a steal's step lost. -/
def lostS (tp : Nat) (lo : Bool) (m : DM) (xs : List Int) : Bool := if m.done then lo else if m.a = 3 then !decide (bget xs (tp : Int) = m.t) else lo
/-- A steal's step. -/
theorem steal_step {w : World} {mb : Nat} {T : TypeId} {l : Lay} {k : Int} {lo : Bool} {bb g : Nat} {xs : List Int} {tp r : Nat} (m : DM) (hG : Geo l k tp r) (h : PB w mb T l k m [.bool lo]) (hb : Bnk w bb g xs) (hne : ¬ mb = g ∧ ¬ mb = bb) (ha : m.done = false → 0 ≤ m.a ∧ m.a ≤ 3) (htd : 0 ≤ m.t ∧ m.t ≤ 1000000) (hlen : tp < xs.length) :
    Calls Try.prog 41 #[.pointer (some ⟨mb, 0, none⟩), .pointer (some ⟨bb, 0, none⟩)] w fun e w' => e = .returned (.bool (stealS tp r m xs).1.done) ∧ DSt T l k mb bb g (stealS tp r m xs).1 [.bool (lostS tp lo m xs)] (stealS tp r m xs).2 w w' := by
  obtain ⟨a, t, b, x, dn, gt⟩ := m
  cases dn with
  | true => exact steal_step_d h hb
  | false =>
    simp only at ha htd
    have h4 : a = 0 ∨ a = 1 ∨ a = 2 ∨ a = 3 := by have := ha (by simp); omega
    rcases h4 with rfl | rfl | rfl | rfl
    · exact steal_step_0 hG h hb hne
    · by_cases hq : bget xs ((tp : Int) + 1) ≤ t
      · rw [show stealS tp r ⟨1, t, b, x, false, gt⟩ xs = (⟨2, t, bget xs ((tp : Int) + 1), x, true, false⟩, xs) by simp only [stealS]; rw [if_pos hq]; rfl]
        exact steal_step_1n hG h hb hne hq
      · rw [show stealS tp r ⟨1, t, b, x, false, gt⟩ xs = (⟨2, t, bget xs ((tp : Int) + 1), x, false, gt⟩, xs) by simp only [stealS]; rw [if_neg hq]; rfl]
        exact steal_step_1y hG h hb hne hq
    · exact steal_step_2 hG h hb hne htd
    · exact steal_step_3 hG h hb hne htd hlen _ _ rfl rfl
theorem steal_got {w : World} {mb : Nat} {T : TypeId} {l : Lay} {k : Int} {m : DM} {lo : Bool} (h : PB w mb T l k m [.bool lo]) :
    Calls Try.prog 23 #[.pointer (some ⟨mb, 0, none⟩)] w fun e w' => e = .returned (.tuple #[.int .i64 (took m).1, .bool (took m).2]) ∧ w = w' := by
  have HT := Lib.hid (show Calls Try.prog 49 #[.pointer (some ⟨mb, 0, none⟩)] w fun e w' => e = .returned (.tuple #[.int .i64 (took m).1, .bool (took m).2]) ∧ w = w' from dtaken h)
  clear h
  go_enter Try.func23, Try.ntmps23
  go_wp2_with fail
  refine HT.out.mono ?_
  rintro e w1 ⟨rfl, rfl⟩
  clear HT
  go_wp2_with fail
  go_ret2
  exact ⟨rfl, rfl⟩
theorem steal_lost {w : World} {mb : Nat} {T : TypeId} {l : Lay} {k : Int} {m : DM} {lo : Bool} (h : PB w mb T l k m [.bool lo]) :
    Calls Try.prog 24 #[.pointer (some ⟨mb, 0, none⟩)] w fun e w' => e = .returned (.bool lo) ∧ w = w' := by
  have c21 : w.cell? ⟨mb, 21, none⟩ = some (.bool lo) := by rw [h.cell]; rfl
  clear h
  go_enter Try.func24, Try.ntmps24
  go_wp2_with fail
  go_ret
  exact ⟨rfl, rfl⟩
end Go.Proofs.Ytdgkemadhooogaa
