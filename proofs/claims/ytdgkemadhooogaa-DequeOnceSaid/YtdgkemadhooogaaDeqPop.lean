/- Package deque: a pop (printed by gen_deq.py). -/
import Derived.Test.YtdgkemadhooogaaDeqPush
import Derived.Deep.RegionHeld3
import Derived.Deep.CutRange
import Derived.StillTailTactics
import Derived.Deep.MidRow
namespace Go.Proofs.Ytdgkemadhooogaa
set_option linter.unusedVariables false
set_option linter.unusedSimpArgs false
open Go.RowKit
attribute [local go_sem] cell?_ext

set_option maxRecDepth 100000 in
set_option maxHeartbeats 2000000 in
theorem pop_first {w : World} {mb : Nat} {T : TypeId} {l : Lay} {k : Int} {a t b x : Int} {dn gt : Bool} {bb g : Nat} {xs : List Int} {tp r : Nat} (hG : Geo l k tp r) (h : PB w mb T l k ⟨a, t, b, x, dn, gt⟩ []) (hb : Bnk w bb g xs) (hne : ¬ mb = g ∧ ¬ mb = bb) (hbd : 0 ≤ bget xs ((tp : Int) + 1) ∧ bget xs ((tp : Int) + 1) ≤ 1000000) :
    Calls Try.prog 75 #[.pointer (some ⟨mb, 0, none⟩), .pointer (some ⟨bb, 0, none⟩)] w fun e w' => e = .returned (.tuple #[]) ∧ DSt T l k mb bb g ⟨a, t, bget xs ((tp : Int) + 1) - 1, x, dn, gt⟩ [] xs w w' := by
  have HT := Lib.hid (dloadBottom hG h hb hne)
  have HN := Lib.hid hne
  clear h hb hne hG
  obtain ⟨y, hy⟩ : ∃ y, bget xs ((tp : Int) + 1) = y := ⟨_, rfl⟩
  rw [hy] at HT hbd ⊢
  have hw : wrap64 (y - 1) = y - 1 := by unfold wrap64; omega
  clear hy
  go_enter Try.func75, Try.ntmps75
  go_wp2_with fail
  refine HT.out.mono ?_
  rintro e w1 ⟨rfl, hk⟩
  have f17 := hk.1.free 17
  obtain ⟨-, -, c17, -, -, -⟩ := hk.1.own
  simp only at c17
  have H9 := Lib.hid (hk.set HN.out 17 (.int .i64 (y - 1)) (m' := ⟨a, t, y - 1, x, dn, gt⟩) (ex' := []) rfl)
  clear hk HT
  go_wp2_with fail
  go_end0
  exact ⟨rfl, H9.out⟩
set_option maxRecDepth 100000 in
set_option maxHeartbeats 2000000 in
theorem pop_less {w : World} {mb : Nat} {T : TypeId} {l : Lay} {k : Int} {a t b x : Int} {dn gt : Bool} {bb g : Nat} {xs : List Int} {tp r : Nat} (hG : Geo l k tp r) (h : PB w mb T l k ⟨a, t, b, x, dn, gt⟩ []) (hb : Bnk w bb g xs) (hne : ¬ mb = g ∧ ¬ mb = bb) :
    Calls Try.prog 76 #[.pointer (some ⟨mb, 0, none⟩), .pointer (some ⟨bb, 0, none⟩)] w fun e w' => e = .returned (.tuple #[]) ∧ DSt T l k mb bb g ⟨a, t, b, x, dn, gt⟩ [] (bput xs ((tp : Int) + 1) b) w w' := by
  have HC := fun (w' : World) (k' : Kept w w') => (show (w'.cell? ⟨mb, 17, none⟩ = some (.int .i64 b)) from (by rw [(h.kept k').cell]; rfl))
  have HS := fun (w' : World) (k' : Kept w w') => Lib.hid (dbottom hG (h.kept k'))
  have HB := fun (w' : World) (k' : Kept w w') => Lib.hid (Store_is (hb.kept k') ((tp : Int) + 1) b _ rfl)
  have HF := fun (w1 w2 : World) (k1 : Kept w w1) (hB : Bnk w2 bb g (bput xs ((tp : Int) + 1) b)) hU => DSt.of h k1 hB hU hne.1
  have HN := Lib.hid hne
  generalize (tp : Int) + 1 = bo at HS HB HF ⊢
  clear h hb hne hG
  go_enter Try.func76, Try.ntmps76
  go_upto_region 0 with (fail)
  have C0 : (w.drew.cell? ⟨mb, 17, none⟩ = some (.int .i64 b)) := HC _ (Upd.refl _ _).drew
  have k0 : Kept w w.drew := (Upd.refl _ _).drew
  go_region_held3 (fun w' => (w'.cell? ⟨mb, 17, none⟩ = some (.int .i64 b)))
    (first | exact C0 | exact C1 | exact C2)
    (first
      | (go_at_call 59; refine ((HB _ k1).out).mono ?_; rintro e W2 ⟨rfl, hB, hU⟩; have H9 := Lib.hid (HF _ _ k1 hB hU); have C2 : (W2.cell? ⟨mb, 17, none⟩ = some (.int .i64 b)) := (by rw [H9.out.1.cell]; rfl); clear hB hU)
      | (go_at_call 104; refine ((HS _ k0).out).mono ?_; rintro e W1 ⟨rfl, hk⟩; have k1 : Kept w W1 := k0.trans hk; have C1 := HC _ k1; clear hk))
  go_wp2_with fail
  go_end0
  exact ⟨rfl, H9.out⟩
set_option maxRecDepth 100000 in
set_option maxHeartbeats 2000000 in
theorem pop_see {w : World} {mb : Nat} {T : TypeId} {l : Lay} {k : Int} {a t b x : Int} {dn gt : Bool} {bb g : Nat} {xs : List Int} {tp r : Nat} (hG : Geo l k tp r) (h : PB w mb T l k ⟨a, t, b, x, dn, gt⟩ []) (hb : Bnk w bb g xs) (hne : ¬ mb = g ∧ ¬ mb = bb) :
    Calls Try.prog 77 #[.pointer (some ⟨mb, 0, none⟩), .pointer (some ⟨bb, 0, none⟩)] w fun e w' => e = .returned (.tuple #[]) ∧ DSt T l k mb bb g ⟨a, bget xs (tp : Int), b, x, dn, gt⟩ [] xs w w' := by
  have HT := Lib.hid (dloadTop hG h hb hne)
  clear h hb hne hG
  go_enter Try.func77, Try.ntmps77
  go_wp2_with fail
  refine HT.out.mono ?_
  rintro e w1 ⟨rfl, hk⟩
  have H9 := Lib.hid hk
  clear hk HT
  go_wp2_with fail
  go_end0
  exact ⟨rfl, H9.out⟩
set_option maxRecDepth 100000 in
set_option maxHeartbeats 2000000 in
theorem pop_back {w : World} {mb : Nat} {T : TypeId} {l : Lay} {k : Int} {a t b x : Int} {dn gt : Bool} {bb g : Nat} {xs : List Int} {tp r : Nat} (hG : Geo l k tp r) (h : PB w mb T l k ⟨a, t, b, x, dn, gt⟩ []) (hb : Bnk w bb g xs) (hne : ¬ mb = g ∧ ¬ mb = bb) (hbd : -1 ≤ b ∧ b ≤ 1000000) :
    Calls Try.prog 80 #[.pointer (some ⟨mb, 0, none⟩), .pointer (some ⟨bb, 0, none⟩)] w fun e w' => e = .returned (.tuple #[]) ∧ DSt T l k mb bb g ⟨a, t, b, x, true, gt⟩ [] (bput xs ((tp : Int) + 1) (b + 1)) w w' := by
  have HC := fun (w' : World) (k' : Kept w w') => (show (w'.cell? ⟨mb, 17, none⟩ = some (.int .i64 b)) from (by rw [(h.kept k').cell]; rfl))
  obtain ⟨q, hq⟩ : ∃ q, b + 1 = q := ⟨_, rfl⟩
  have hw : wrap64 (b + 1) = q := by unfold wrap64; omega
  have hw2 : IntKind.i64.wrap (b + 1) = q := by rw [IntKind.wrap_i64]; omega
  rw [hq]
  clear hq
  have HS := fun (w' : World) (k' : Kept w w') => Lib.hid (dbottom hG (h.kept k'))
  have HB := fun (w' : World) (k' : Kept w w') => Lib.hid (Store_is (hb.kept k') ((tp : Int) + 1) q _ rfl)
  have HF := fun (w1 w2 : World) (k1 : Kept w w1) (hB : Bnk w2 bb g (bput xs ((tp : Int) + 1) q)) hU => DSt.of h k1 hB hU hne.1
  have HN := Lib.hid hne
  generalize (tp : Int) + 1 = bo at HS HB HF ⊢
  clear h hb hne hG
  go_enter Try.func80, Try.ntmps80
  go_upto_region 0 with (fail)
  have C0 : (w.drew.cell? ⟨mb, 17, none⟩ = some (.int .i64 b)) := HC _ (Upd.refl _ _).drew
  have k0 : Kept w w.drew := (Upd.refl _ _).drew
  go_region_held3 (fun w' => (w'.cell? ⟨mb, 17, none⟩ = some (.int .i64 b)))
    (first | exact C0 | exact C1 | exact C2)
    (first
      | (go_at_call 59; refine ((HB _ k1).out).mono ?_; rintro e W2 ⟨rfl, hB, hU⟩; have H9 := Lib.hid (HF _ _ k1 hB hU); have C2 : (W2.cell? ⟨mb, 17, none⟩ = some (.int .i64 b)) := (by rw [H9.out.1.cell]; rfl); clear hB hU)
      | (go_at_call 104; refine ((HS _ k0).out).mono ?_; rintro e W1 ⟨rfl, hk⟩; have k1 : Kept w W1 := k0.trans hk; have C1 := HC _ k1; clear hk))
  have f19 := H9.out.1.free 19
  obtain ⟨-, -, -, -, c19, -⟩ := H9.out.1.own
  simp only at c19
  have H8 := Lib.hid (H9.out.set HN.out 19 (.bool true) (m' := ⟨a, t, b, x, true, gt⟩) (ex' := []) rfl)
  go_wp2_with fail
  go_end0
  exact ⟨rfl, H8.out⟩
set_option maxRecDepth 100000 in
set_option maxHeartbeats 2000000 in
theorem pop_read_back {w : World} {mb : Nat} {T : TypeId} {l : Lay} {k : Int} {a t b x : Int} {dn gt : Bool} {bb g : Nat} {xs : List Int} {tp r : Nat} (hG : Geo l k tp r) (h : PB w mb T l k ⟨a, t, b, x, dn, gt⟩ []) (hb : Bnk w bb g xs) (hne : ¬ mb = g ∧ ¬ mb = bb) (hbd : -1 ≤ b ∧ b ≤ 1000000) (htd : 0 ≤ t ∧ t ≤ 1000000) (hq : b < t) :
    Calls Try.prog 78 #[.pointer (some ⟨mb, 0, none⟩), .pointer (some ⟨bb, 0, none⟩)] w fun e w' => e = .returned (.tuple #[]) ∧ DSt T l k mb bb g ⟨a, t, b, x, true, gt⟩ [] (bput xs ((tp : Int) + 1) (b + 1)) w w' := by
  have hq1 : decide (b < t) = true := by simpa using hq
  have HB := fun (w' : World) (k' : Kept w w') => Lib.hid (pop_back hG (h.kept k') (hb.kept k') hne hbd)
  obtain ⟨-, c16, c17, -, -, -⟩ := h.own
  simp only at c16 c17
  clear h hb hne hG
  go_enter Try.func78, Try.ntmps78
  go_upto_region 0 with (fail)
  refine wp_region_kept (by kernel_rfl) (by kernel_rfl) ?_
  repeat (go_big_quiet_step (fail))
  refine wpQuiet_nil ?_
  intro w0 k0
  go_wp2_with fail
  refine (HB _ k0).out.mono ?_
  rintro e w2 ⟨rfl, hk⟩
  have H9 := Lib.hid (show DSt T l k mb bb g _ _ _ w w2 from ⟨hk.1, hk.2.1, (k0.wide (fun _ _ f => f.elim)).trans hk.2.2⟩)
  clear hk HB
  go_wp2_with fail
  exact bodyPost_ret (v := .tuple #[]) (by simp [results, Try.results78, go_sem]) rfl ⟨rfl, H9.out⟩
set_option maxRecDepth 100000 in
set_option maxHeartbeats 2000000 in
theorem pop_read_got {w : World} {mb : Nat} {T : TypeId} {l : Lay} {k : Int} {a t b x : Int} {dn gt : Bool} {bb g : Nat} {xs : List Int} {tp r : Nat} (hG : Geo l k tp r) (h : PB w mb T l k ⟨a, t, b, x, dn, gt⟩ []) (hb : Bnk w bb g xs) (hne : ¬ mb = g ∧ ¬ mb = bb) (hbd : -1 ≤ b ∧ b ≤ 1000000) (htd : 0 ≤ t ∧ t ≤ 1000000) (hq : t < b) :
    Calls Try.prog 78 #[.pointer (some ⟨mb, 0, none⟩), .pointer (some ⟨bb, 0, none⟩)] w fun e w' => e = .returned (.tuple #[]) ∧ DSt T l k mb bb g ⟨a, t, b, bget xs (slot tp r b), true, true⟩ [] xs w w' := by
  have HS := fun (w' : World) (k' : Kept w w') => Lib.hid (dslot (j := b) hG (h.kept k') (by omega))
  obtain ⟨y, hy⟩ : ∃ y, bget xs (slot tp r b) = y := ⟨_, rfl⟩
  rw [hy]
  have HL := fun (w' : World) (k' : Kept w w') => Lib.hid (Load_is (hb.kept k') (slot tp r b) y hy)
  have HP := fun (w' : World) (k' : Kept w w') => h.kept k'
  have HX := fun (w' : World) (k' : Kept w w') => (show w'.cell? ⟨mb, 18, none⟩ = some (.int .i64 x) from (by rw [(h.kept k').cell]; rfl))
  have HF := fun (w1 : World) (k1 : Kept w w1) => (show DSt T l k mb bb g ⟨a, t, b, y, dn, gt⟩ [] xs w (w1.setCell ⟨mb, 18, none⟩ (.int .i64 y)) from
    DSt.set (m := ⟨a, t, b, x, dn, gt⟩) ⟨h.kept k1, hb.kept k1, k1.wide (fun _ _ f => f.elim)⟩ hne 18 (.int .i64 y) rfl)
  have HN := Lib.hid hne
  generalize slot tp r b = sl at HS HL hy ⊢
  have hq1 : decide (b < t) = false := by simp; omega
  have HC := fun (w' : World) (k' : Kept w w') => (show (w'.cell? ⟨mb, 17, none⟩ = some (.int .i64 b)) from (by rw [(h.kept k').cell]; rfl))
  obtain ⟨-, c16, c17, -, -, -⟩ := h.own
  simp only at c16 c17
  clear h hb hne hG
  go_enter Try.func78, Try.ntmps78
  go_upto_region 0 with (fail)
  refine wp_region_kept (by kernel_rfl) (by kernel_rfl) ?_
  repeat (go_big_quiet_step (fail))
  refine wpQuiet_nil ?_
  intro w0 k0
  have kd : Kept w w0.drew := k0.drew
  clear c16 c17
  go_upto_region 2 with (fail)
  have C0 : (w0.drew.cell? ⟨mb, 17, none⟩ = some (.int .i64 b)) := HC _ kd
  go_region_held3 (fun w' => (w'.cell? ⟨mb, 17, none⟩ = some (.int .i64 b)))
    (first | exact C0 | exact C1 | exact C2)
    (first
      | (go_at_call 35; refine ((HL _ k1).out).mono ?_; rintro e W2 ⟨rfl, rfl⟩; have f18 := (HP _ k1).free 18; have c18 := HX _ k1; have H9 := Lib.hid (HF _ k1); have C2 : ((W1.setCell ⟨mb, 18, none⟩ (.int .i64 y)).cell? ⟨mb, 17, none⟩ = some (.int .i64 b)) := (by rw [H9.out.1.cell]; rfl))
      | (go_at_call 101; refine ((HS _ kd).out).mono ?_; rintro e W1 ⟨rfl, hk⟩; have k1 : Kept w W1 := kd.trans hk; have C1 := HC _ k1; clear hk))
  have hq2 : decide (t < b) = true := by simpa using hq
  obtain ⟨-, c16, c17, -, -, -⟩ := H9.out.1.own
  simp only at c16 c17
  generalize (W1.setCell ⟨mb, 18, none⟩ (.int .i64 y)) = W3 at H9 c16 c17 ⊢
  clear C0 C1 C2 f18 c18 HS HL HP HX HF
  go_upto_region 3 with (fail)
  refine wp_region_kept (by kernel_rfl) (by kernel_rfl) ?_
  repeat (go_big_quiet_step (fail))
  refine wpQuiet_nil ?_
  intro w4 k4
  go_wp2_with fail
  refine (dend true (H9.out.1.kept k4)).mono ?_
  rintro e w5 ⟨rfl, h5, hU⟩
  have H8 := Lib.hid (DSt.step H9.out h5 ((k4.wide (fun _ _ f => f.elim)).trans hU) HN.out)
  clear h5 hU
  go_wp2_with fail
  go_end0
  exact ⟨rfl, H8.out⟩
set_option maxRecDepth 100000 in
set_option maxHeartbeats 2000000 in
theorem pop_read_on {w : World} {mb : Nat} {T : TypeId} {l : Lay} {k : Int} {a t b x : Int} {dn gt : Bool} {bb g : Nat} {xs : List Int} {tp r : Nat} (hG : Geo l k tp r) (h : PB w mb T l k ⟨a, t, b, x, dn, gt⟩ []) (hb : Bnk w bb g xs) (hne : ¬ mb = g ∧ ¬ mb = bb) (hbd : -1 ≤ b ∧ b ≤ 1000000) (htd : 0 ≤ t ∧ t ≤ 1000000) (hq : t = b) :
    Calls Try.prog 78 #[.pointer (some ⟨mb, 0, none⟩), .pointer (some ⟨bb, 0, none⟩)] w fun e w' => e = .returned (.tuple #[]) ∧ DSt T l k mb bb g ⟨a, t, b, bget xs (slot tp r b), dn, gt⟩ [] xs w w' := by
  have HS := fun (w' : World) (k' : Kept w w') => Lib.hid (dslot (j := b) hG (h.kept k') (by omega))
  obtain ⟨y, hy⟩ : ∃ y, bget xs (slot tp r b) = y := ⟨_, rfl⟩
  rw [hy]
  have HL := fun (w' : World) (k' : Kept w w') => Lib.hid (Load_is (hb.kept k') (slot tp r b) y hy)
  have HP := fun (w' : World) (k' : Kept w w') => h.kept k'
  have HX := fun (w' : World) (k' : Kept w w') => (show w'.cell? ⟨mb, 18, none⟩ = some (.int .i64 x) from (by rw [(h.kept k').cell]; rfl))
  have HF := fun (w1 : World) (k1 : Kept w w1) => (show DSt T l k mb bb g ⟨a, t, b, y, dn, gt⟩ [] xs w (w1.setCell ⟨mb, 18, none⟩ (.int .i64 y)) from
    DSt.set (m := ⟨a, t, b, x, dn, gt⟩) ⟨h.kept k1, hb.kept k1, k1.wide (fun _ _ f => f.elim)⟩ hne 18 (.int .i64 y) rfl)
  have HN := Lib.hid hne
  generalize slot tp r b = sl at HS HL hy ⊢
  have hq1 : decide (b < t) = false := by simp; omega
  have HC := fun (w' : World) (k' : Kept w w') => (show (w'.cell? ⟨mb, 17, none⟩ = some (.int .i64 b)) from (by rw [(h.kept k').cell]; rfl))
  obtain ⟨-, c16, c17, -, -, -⟩ := h.own
  simp only at c16 c17
  clear h hb hne hG
  go_enter Try.func78, Try.ntmps78
  go_upto_region 0 with (fail)
  refine wp_region_kept (by kernel_rfl) (by kernel_rfl) ?_
  repeat (go_big_quiet_step (fail))
  refine wpQuiet_nil ?_
  intro w0 k0
  have kd : Kept w w0.drew := k0.drew
  clear c16 c17
  go_upto_region 2 with (fail)
  have C0 : (w0.drew.cell? ⟨mb, 17, none⟩ = some (.int .i64 b)) := HC _ kd
  go_region_held3 (fun w' => (w'.cell? ⟨mb, 17, none⟩ = some (.int .i64 b)))
    (first | exact C0 | exact C1 | exact C2)
    (first
      | (go_at_call 35; refine ((HL _ k1).out).mono ?_; rintro e W2 ⟨rfl, rfl⟩; have f18 := (HP _ k1).free 18; have c18 := HX _ k1; have H9 := Lib.hid (HF _ k1); have C2 : ((W1.setCell ⟨mb, 18, none⟩ (.int .i64 y)).cell? ⟨mb, 17, none⟩ = some (.int .i64 b)) := (by rw [H9.out.1.cell]; rfl))
      | (go_at_call 101; refine ((HS _ kd).out).mono ?_; rintro e W1 ⟨rfl, hk⟩; have k1 : Kept w W1 := kd.trans hk; have C1 := HC _ k1; clear hk))
  have hq2 : decide (t < b) = false := by simp; omega
  obtain ⟨-, c16, c17, -, -, -⟩ := H9.out.1.own
  simp only at c16 c17
  generalize (W1.setCell ⟨mb, 18, none⟩ (.int .i64 y)) = W3 at H9 c16 c17 ⊢
  clear C0 C1 C2 f18 c18 HS HL HP HX HF
  go_upto_region 3 with (fail)
  refine wp_region_kept (by kernel_rfl) (by kernel_rfl) ?_
  repeat (go_big_quiet_step (fail))
  refine wpQuiet_nil ?_
  intro w4 k4
  have H8 := Lib.hid (DSt.step H9.out (H9.out.1.kept k4) (k4.wide (fun _ _ f => f.elim)) HN.out)
  go_wp2_with fail
  go_end0
  exact ⟨rfl, H8.out⟩
set_option maxRecDepth 100000 in
set_option maxHeartbeats 2000000 in
theorem pop_last {w : World} {mb : Nat} {T : TypeId} {l : Lay} {k : Int} {a t b x : Int} {dn gt : Bool} {bb g : Nat} {xs : List Int} {tp r : Nat} (hG : Geo l k tp r) (h : PB w mb T l k ⟨a, t, b, x, dn, gt⟩ []) (hb : Bnk w bb g xs) (hne : ¬ mb = g ∧ ¬ mb = bb) (htd : 0 ≤ t ∧ t ≤ 1000000) (hlen : tp < xs.length) :
    Calls Try.prog 79 #[.pointer (some ⟨mb, 0, none⟩), .pointer (some ⟨bb, 0, none⟩)] w fun e w' => e = .returned (.tuple #[]) ∧ DSt T l k mb bb g ⟨a, t, b, x, dn, decide (bget xs (tp : Int) = t)⟩ [] (if bget xs (tp : Int) = t then bput xs (tp : Int) (t + 1) else xs) w w' := by
  have HC := fun (w' : World) (k' : Kept w w') => (show (w'.cell? ⟨mb, 16, none⟩ = some (.int .i64 t)) from (by rw [(h.kept k').cell]; rfl))
  obtain ⟨q, hq⟩ : ∃ q, t + 1 = q := ⟨_, rfl⟩
  have hw : wrap64 (t + 1) = q := by unfold wrap64; omega
  have hw2 : IntKind.i64.wrap (t + 1) = q := by rw [IntKind.wrap_i64]; omega
  rw [hq]
  clear hq
  have hrb : decide ((0 ≤ (tp : Int) ∧ (tp : Int) < (xs.length : Int)) ∧ bget xs (tp : Int) = t) = decide (bget xs (tp : Int) = t) := by
    rw [decide_eq_decide]
    exact ⟨fun h => h.2, fun h => ⟨⟨by omega, by omega⟩, h⟩⟩
  obtain ⟨z, hz⟩ : ∃ z, decide (bget xs (tp : Int) = t) = z := ⟨_, rfl⟩
  obtain ⟨ys, hy⟩ : ∃ ys, (if bget xs (tp : Int) = t then bput xs (tp : Int) q else xs) = ys := ⟨_, rfl⟩
  rw [hz] at hrb
  rw [hz, hy]
  have HS := fun (w' : World) (k' : Kept w w') => Lib.hid (dtop hG (h.kept k'))
  have HB := fun (w' : World) (k' : Kept w w') => Lib.hid (CAS_is (hb.kept k') (tp : Int) t q z ys (by rw [← hrb]) hy)
  have HF := fun (w1 w2 : World) (k1 : Kept w w1) (hB : Bnk w2 bb g ys) hU => DSt.of h k1 hB hU hne.1
  have HN := Lib.hid hne
  clear hrb hz hy
  clear h hb hne hG
  go_enter Try.func79, Try.ntmps79
  go_upto_region 0 with (fail)
  have C0 : (w.drew.cell? ⟨mb, 16, none⟩ = some (.int .i64 t)) := HC _ (Upd.refl _ _).drew
  have k0 : Kept w w.drew := (Upd.refl _ _).drew
  go_region_held3 (fun w' => (w'.cell? ⟨mb, 16, none⟩ = some (.int .i64 t)))
    (first | exact C0 | exact C1 | exact C2 | exact C3)
    (first
      | (go_at_call 102; refine ((HB _ k1).out).mono ?_; rintro e W2 ⟨rfl, hB, hU⟩; have H9 := Lib.hid (HF _ _ k1 hB hU); have C2 : (W2.cell? ⟨mb, 16, none⟩ = some (.int .i64 t)) := (by rw [H9.out.1.cell]; rfl); have f20 := H9.out.1.free 20; have c20 : W2.cell? ⟨mb, 20, none⟩ = some (.bool gt) := (by rw [H9.out.1.cell]; rfl); have H8 := Lib.hid (H9.out.set HN.out 20 (.bool z) (m' := ⟨a, t, b, x, dn, z⟩) (ex' := []) rfl); have C3 : ((W2.setCell ⟨mb, 20, none⟩ (.bool z)).cell? ⟨mb, 16, none⟩ = some (.int .i64 t)) := (by rw [H8.out.1.cell]; rfl); clear hB hU)
      | (go_at_call 103; refine ((HS _ k0).out).mono ?_; rintro e W1 ⟨rfl, hk⟩; have k1 : Kept w W1 := k0.trans hk; have C1 := HC _ k1; clear hk))
  go_wp2_with fail
  go_end0
  exact ⟨rfl, H8.out⟩
set_option maxRecDepth 100000 in
set_option maxHeartbeats 1000000 in
theorem pop_step_0 {w : World} {mb : Nat} {T : TypeId} {l : Lay} {k : Int} {t b x : Int} {gt : Bool} {bb g : Nat} {xs : List Int} {tp r : Nat} (hG : Geo l k tp r) (h : PB w mb T l k ⟨0, t, b, x, false, gt⟩ []) (hb : Bnk w bb g xs) (hne : ¬ mb = g ∧ ¬ mb = bb) (hbd : 0 ≤ bget xs ((tp : Int) + 1) ∧ bget xs ((tp : Int) + 1) ≤ 1000000) :
    Calls Try.prog 42 #[.pointer (some ⟨mb, 0, none⟩), .pointer (some ⟨bb, 0, none⟩)] w fun e w' => e = .returned (.bool false) ∧ DSt T l k mb bb g ⟨1, t, bget xs ((tp : Int) + 1) - 1, x, false, gt⟩ [] xs w w' := by
  have hix : ∀ w, (Instr.index 143 (.agg #[.func (.func 75) #[] #[], .func (.func 76) #[] #[], .func (.func 77) #[] #[], .func (.func 78) #[] #[], .func (.func 79) #[] #[], .func (.func 80) #[] #[]]) (.int .i64 0)).run Try.prog w = .ok (.func (.func 75) #[] #[]) w := fun w => by
    simp [Instr.index, go_sem, run_underlying Try.underlying143]
  have HN := Lib.hid (dnext (a := 0) (by omega) h)
  have HD0 := fun (w1 : World) (h1 : PB w1 mb T l k ⟨0 + 1, t, b, x, false, gt⟩ []) (hU : Upd (fun i => i = mb) w w1) => (show DSt T l k mb bb g ⟨1, t, b, x, false, gt⟩ [] xs w w1 from
    ⟨(by rw [show ((0 : Int) + 1) = 1 by decide] at h1; exact h1), hb.upd hU (fun e => hne.2 e.symm) (fun e => hne.1 e.symm), hU.wide (fun _ _ e => .inr e)⟩)
  have HC := fun (w1 : World) (h1 : DSt T l k mb bb g ⟨1, t, b, x, false, gt⟩ [] xs w w1) => Lib.hid (pop_first hG h1.1 h1.2.1 hne hbd)
  clear h hb hne hG
  go_enter Try.func42, Try.ntmps42
  go_wp2_with fail
  refine HN.out.mono ?_
  rintro e w1 ⟨rfl, h1, hU⟩
  have H0 := Lib.hid (HD0 w1 h1 hU)
  have HC1 := HC w1 H0.out
  clear h1 hU HN HC HD0
  go_wp2_with fail
  refine HC1.out.mono ?_
  rintro e w2 ⟨rfl, h2⟩
  have H9 := Lib.hid (H0.out.trans h2)
  obtain ⟨-, -, -, -, c19, -⟩ := h2.1.own
  simp only at c19
  clear h2 HC1 H0
  go_wp2_with fail
  go_ret
  exact ⟨rfl, H9.out⟩
set_option maxRecDepth 100000 in
set_option maxHeartbeats 1000000 in
theorem pop_step_1 {w : World} {mb : Nat} {T : TypeId} {l : Lay} {k : Int} {t b x : Int} {gt : Bool} {bb g : Nat} {xs : List Int} {tp r : Nat} (hG : Geo l k tp r) (h : PB w mb T l k ⟨1, t, b, x, false, gt⟩ []) (hb : Bnk w bb g xs) (hne : ¬ mb = g ∧ ¬ mb = bb) :
    Calls Try.prog 42 #[.pointer (some ⟨mb, 0, none⟩), .pointer (some ⟨bb, 0, none⟩)] w fun e w' => e = .returned (.bool false) ∧ DSt T l k mb bb g ⟨2, t, b, x, false, gt⟩ [] (bput xs ((tp : Int) + 1) b) w w' := by
  have hix : ∀ w, (Instr.index 143 (.agg #[.func (.func 75) #[] #[], .func (.func 76) #[] #[], .func (.func 77) #[] #[], .func (.func 78) #[] #[], .func (.func 79) #[] #[], .func (.func 80) #[] #[]]) (.int .i64 1)).run Try.prog w = .ok (.func (.func 76) #[] #[]) w := fun w => by
    simp [Instr.index, go_sem, run_underlying Try.underlying143]
  have HN := Lib.hid (dnext (a := 1) (by omega) h)
  have HD0 := fun (w1 : World) (h1 : PB w1 mb T l k ⟨1 + 1, t, b, x, false, gt⟩ []) (hU : Upd (fun i => i = mb) w w1) => (show DSt T l k mb bb g ⟨2, t, b, x, false, gt⟩ [] xs w w1 from
    ⟨(by rw [show ((1 : Int) + 1) = 2 by decide] at h1; exact h1), hb.upd hU (fun e => hne.2 e.symm) (fun e => hne.1 e.symm), hU.wide (fun _ _ e => .inr e)⟩)
  have HC := fun (w1 : World) (h1 : DSt T l k mb bb g ⟨2, t, b, x, false, gt⟩ [] xs w w1) => Lib.hid (pop_less hG h1.1 h1.2.1 hne)
  clear h hb hne hG
  go_enter Try.func42, Try.ntmps42
  go_wp2_with fail
  refine HN.out.mono ?_
  rintro e w1 ⟨rfl, h1, hU⟩
  have H0 := Lib.hid (HD0 w1 h1 hU)
  have HC1 := HC w1 H0.out
  clear h1 hU HN HC HD0
  go_wp2_with fail
  refine HC1.out.mono ?_
  rintro e w2 ⟨rfl, h2⟩
  have H9 := Lib.hid (H0.out.trans h2)
  obtain ⟨-, -, -, -, c19, -⟩ := h2.1.own
  simp only at c19
  clear h2 HC1 H0
  go_wp2_with fail
  go_ret
  exact ⟨rfl, H9.out⟩
set_option maxRecDepth 100000 in
set_option maxHeartbeats 1000000 in
theorem pop_step_2 {w : World} {mb : Nat} {T : TypeId} {l : Lay} {k : Int} {t b x : Int} {gt : Bool} {bb g : Nat} {xs : List Int} {tp r : Nat} (hG : Geo l k tp r) (h : PB w mb T l k ⟨2, t, b, x, false, gt⟩ []) (hb : Bnk w bb g xs) (hne : ¬ mb = g ∧ ¬ mb = bb) :
    Calls Try.prog 42 #[.pointer (some ⟨mb, 0, none⟩), .pointer (some ⟨bb, 0, none⟩)] w fun e w' => e = .returned (.bool false) ∧ DSt T l k mb bb g ⟨3, bget xs (tp : Int), b, x, false, gt⟩ [] xs w w' := by
  have hix : ∀ w, (Instr.index 143 (.agg #[.func (.func 75) #[] #[], .func (.func 76) #[] #[], .func (.func 77) #[] #[], .func (.func 78) #[] #[], .func (.func 79) #[] #[], .func (.func 80) #[] #[]]) (.int .i64 2)).run Try.prog w = .ok (.func (.func 77) #[] #[]) w := fun w => by
    simp [Instr.index, go_sem, run_underlying Try.underlying143]
  have HN := Lib.hid (dnext (a := 2) (by omega) h)
  have HD0 := fun (w1 : World) (h1 : PB w1 mb T l k ⟨2 + 1, t, b, x, false, gt⟩ []) (hU : Upd (fun i => i = mb) w w1) => (show DSt T l k mb bb g ⟨3, t, b, x, false, gt⟩ [] xs w w1 from
    ⟨(by rw [show ((2 : Int) + 1) = 3 by decide] at h1; exact h1), hb.upd hU (fun e => hne.2 e.symm) (fun e => hne.1 e.symm), hU.wide (fun _ _ e => .inr e)⟩)
  have HC := fun (w1 : World) (h1 : DSt T l k mb bb g ⟨3, t, b, x, false, gt⟩ [] xs w w1) => Lib.hid (pop_see hG h1.1 h1.2.1 hne)
  clear h hb hne hG
  go_enter Try.func42, Try.ntmps42
  go_wp2_with fail
  refine HN.out.mono ?_
  rintro e w1 ⟨rfl, h1, hU⟩
  have H0 := Lib.hid (HD0 w1 h1 hU)
  have HC1 := HC w1 H0.out
  clear h1 hU HN HC HD0
  go_wp2_with fail
  refine HC1.out.mono ?_
  rintro e w2 ⟨rfl, h2⟩
  have H9 := Lib.hid (H0.out.trans h2)
  obtain ⟨-, -, -, -, c19, -⟩ := h2.1.own
  simp only at c19
  clear h2 HC1 H0
  go_wp2_with fail
  go_ret
  exact ⟨rfl, H9.out⟩
set_option maxRecDepth 100000 in
set_option maxHeartbeats 1000000 in
theorem pop_step_3b {w : World} {mb : Nat} {T : TypeId} {l : Lay} {k : Int} {t b x : Int} {gt : Bool} {bb g : Nat} {xs : List Int} {tp r : Nat} (hG : Geo l k tp r) (h : PB w mb T l k ⟨3, t, b, x, false, gt⟩ []) (hb : Bnk w bb g xs) (hne : ¬ mb = g ∧ ¬ mb = bb) (hbd : -1 ≤ b ∧ b ≤ 1000000) (htd : 0 ≤ t ∧ t ≤ 1000000) (hq : b < t) :
    Calls Try.prog 42 #[.pointer (some ⟨mb, 0, none⟩), .pointer (some ⟨bb, 0, none⟩)] w fun e w' => e = .returned (.bool true) ∧ DSt T l k mb bb g ⟨4, t, b, x, true, gt⟩ [] (bput xs ((tp : Int) + 1) (b + 1)) w w' := by
  have hix : ∀ w, (Instr.index 143 (.agg #[.func (.func 75) #[] #[], .func (.func 76) #[] #[], .func (.func 77) #[] #[], .func (.func 78) #[] #[], .func (.func 79) #[] #[], .func (.func 80) #[] #[]]) (.int .i64 3)).run Try.prog w = .ok (.func (.func 78) #[] #[]) w := fun w => by
    simp [Instr.index, go_sem, run_underlying Try.underlying143]
  have HN := Lib.hid (dnext (a := 3) (by omega) h)
  have HD0 := fun (w1 : World) (h1 : PB w1 mb T l k ⟨3 + 1, t, b, x, false, gt⟩ []) (hU : Upd (fun i => i = mb) w w1) => (show DSt T l k mb bb g ⟨4, t, b, x, false, gt⟩ [] xs w w1 from
    ⟨(by rw [show ((3 : Int) + 1) = 4 by decide] at h1; exact h1), hb.upd hU (fun e => hne.2 e.symm) (fun e => hne.1 e.symm), hU.wide (fun _ _ e => .inr e)⟩)
  have HC := fun (w1 : World) (h1 : DSt T l k mb bb g ⟨4, t, b, x, false, gt⟩ [] xs w w1) => Lib.hid (pop_read_back hG h1.1 h1.2.1 hne hbd htd hq)
  clear h hb hne hG
  go_enter Try.func42, Try.ntmps42
  go_wp2_with fail
  refine HN.out.mono ?_
  rintro e w1 ⟨rfl, h1, hU⟩
  have H0 := Lib.hid (HD0 w1 h1 hU)
  have HC1 := HC w1 H0.out
  clear h1 hU HN HC HD0
  go_wp2_with fail
  refine HC1.out.mono ?_
  rintro e w2 ⟨rfl, h2⟩
  have H9 := Lib.hid (H0.out.trans h2)
  obtain ⟨-, -, -, -, c19, -⟩ := h2.1.own
  simp only at c19
  clear h2 HC1 H0
  go_wp2_with fail
  go_ret
  exact ⟨rfl, H9.out⟩
set_option maxRecDepth 100000 in
set_option maxHeartbeats 1000000 in
theorem pop_step_3g {w : World} {mb : Nat} {T : TypeId} {l : Lay} {k : Int} {t b x : Int} {gt : Bool} {bb g : Nat} {xs : List Int} {tp r : Nat} (hG : Geo l k tp r) (h : PB w mb T l k ⟨3, t, b, x, false, gt⟩ []) (hb : Bnk w bb g xs) (hne : ¬ mb = g ∧ ¬ mb = bb) (hbd : -1 ≤ b ∧ b ≤ 1000000) (htd : 0 ≤ t ∧ t ≤ 1000000) (hq : t < b) :
    Calls Try.prog 42 #[.pointer (some ⟨mb, 0, none⟩), .pointer (some ⟨bb, 0, none⟩)] w fun e w' => e = .returned (.bool true) ∧ DSt T l k mb bb g ⟨4, t, b, bget xs (slot tp r b), true, true⟩ [] xs w w' := by
  have hix : ∀ w, (Instr.index 143 (.agg #[.func (.func 75) #[] #[], .func (.func 76) #[] #[], .func (.func 77) #[] #[], .func (.func 78) #[] #[], .func (.func 79) #[] #[], .func (.func 80) #[] #[]]) (.int .i64 3)).run Try.prog w = .ok (.func (.func 78) #[] #[]) w := fun w => by
    simp [Instr.index, go_sem, run_underlying Try.underlying143]
  have HN := Lib.hid (dnext (a := 3) (by omega) h)
  have HD0 := fun (w1 : World) (h1 : PB w1 mb T l k ⟨3 + 1, t, b, x, false, gt⟩ []) (hU : Upd (fun i => i = mb) w w1) => (show DSt T l k mb bb g ⟨4, t, b, x, false, gt⟩ [] xs w w1 from
    ⟨(by rw [show ((3 : Int) + 1) = 4 by decide] at h1; exact h1), hb.upd hU (fun e => hne.2 e.symm) (fun e => hne.1 e.symm), hU.wide (fun _ _ e => .inr e)⟩)
  have HC := fun (w1 : World) (h1 : DSt T l k mb bb g ⟨4, t, b, x, false, gt⟩ [] xs w w1) => Lib.hid (pop_read_got hG h1.1 h1.2.1 hne hbd htd hq)
  clear h hb hne hG
  go_enter Try.func42, Try.ntmps42
  go_wp2_with fail
  refine HN.out.mono ?_
  rintro e w1 ⟨rfl, h1, hU⟩
  have H0 := Lib.hid (HD0 w1 h1 hU)
  have HC1 := HC w1 H0.out
  clear h1 hU HN HC HD0
  go_wp2_with fail
  refine HC1.out.mono ?_
  rintro e w2 ⟨rfl, h2⟩
  have H9 := Lib.hid (H0.out.trans h2)
  obtain ⟨-, -, -, -, c19, -⟩ := h2.1.own
  simp only at c19
  clear h2 HC1 H0
  go_wp2_with fail
  go_ret
  exact ⟨rfl, H9.out⟩
set_option maxRecDepth 100000 in
set_option maxHeartbeats 1000000 in
theorem pop_step_3o {w : World} {mb : Nat} {T : TypeId} {l : Lay} {k : Int} {t b x : Int} {gt : Bool} {bb g : Nat} {xs : List Int} {tp r : Nat} (hG : Geo l k tp r) (h : PB w mb T l k ⟨3, t, b, x, false, gt⟩ []) (hb : Bnk w bb g xs) (hne : ¬ mb = g ∧ ¬ mb = bb) (hbd : -1 ≤ b ∧ b ≤ 1000000) (htd : 0 ≤ t ∧ t ≤ 1000000) (hq : t = b) :
    Calls Try.prog 42 #[.pointer (some ⟨mb, 0, none⟩), .pointer (some ⟨bb, 0, none⟩)] w fun e w' => e = .returned (.bool false) ∧ DSt T l k mb bb g ⟨4, t, b, bget xs (slot tp r b), false, gt⟩ [] xs w w' := by
  have hix : ∀ w, (Instr.index 143 (.agg #[.func (.func 75) #[] #[], .func (.func 76) #[] #[], .func (.func 77) #[] #[], .func (.func 78) #[] #[], .func (.func 79) #[] #[], .func (.func 80) #[] #[]]) (.int .i64 3)).run Try.prog w = .ok (.func (.func 78) #[] #[]) w := fun w => by
    simp [Instr.index, go_sem, run_underlying Try.underlying143]
  have HN := Lib.hid (dnext (a := 3) (by omega) h)
  have HD0 := fun (w1 : World) (h1 : PB w1 mb T l k ⟨3 + 1, t, b, x, false, gt⟩ []) (hU : Upd (fun i => i = mb) w w1) => (show DSt T l k mb bb g ⟨4, t, b, x, false, gt⟩ [] xs w w1 from
    ⟨(by rw [show ((3 : Int) + 1) = 4 by decide] at h1; exact h1), hb.upd hU (fun e => hne.2 e.symm) (fun e => hne.1 e.symm), hU.wide (fun _ _ e => .inr e)⟩)
  have HC := fun (w1 : World) (h1 : DSt T l k mb bb g ⟨4, t, b, x, false, gt⟩ [] xs w w1) => Lib.hid (pop_read_on hG h1.1 h1.2.1 hne hbd htd hq)
  clear h hb hne hG
  go_enter Try.func42, Try.ntmps42
  go_wp2_with fail
  refine HN.out.mono ?_
  rintro e w1 ⟨rfl, h1, hU⟩
  have H0 := Lib.hid (HD0 w1 h1 hU)
  have HC1 := HC w1 H0.out
  clear h1 hU HN HC HD0
  go_wp2_with fail
  refine HC1.out.mono ?_
  rintro e w2 ⟨rfl, h2⟩
  have H9 := Lib.hid (H0.out.trans h2)
  obtain ⟨-, -, -, -, c19, -⟩ := h2.1.own
  simp only at c19
  clear h2 HC1 H0
  go_wp2_with fail
  go_ret
  exact ⟨rfl, H9.out⟩
theorem pop_last_is {w : World} {mb : Nat} {T : TypeId} {l : Lay} {k : Int} {a t b x : Int} {dn gt : Bool} {bb g : Nat} {xs : List Int} {tp r : Nat} (hG : Geo l k tp r) (h : PB w mb T l k ⟨a, t, b, x, dn, gt⟩ []) (hb : Bnk w bb g xs) (hne : ¬ mb = g ∧ ¬ mb = bb) (htd : 0 ≤ t ∧ t ≤ 1000000) (hlen : tp < xs.length) (z : Bool) (ys : List Int) (hz : decide (bget xs (tp : Int) = t) = z) (hy : (if bget xs (tp : Int) = t then bput xs (tp : Int) (t + 1) else xs) = ys) :
    Calls Try.prog 79 #[.pointer (some ⟨mb, 0, none⟩), .pointer (some ⟨bb, 0, none⟩)] w fun e w' => e = .returned (.tuple #[]) ∧ DSt T l k mb bb g ⟨a, t, b, x, dn, z⟩ [] ys w w' := by
  have := pop_last hG h hb hne htd hlen
  rwa [hz, hy] at this
set_option maxRecDepth 100000 in
set_option maxHeartbeats 1000000 in
theorem pop_step_4 {w : World} {mb : Nat} {T : TypeId} {l : Lay} {k : Int} {t b x : Int} {gt : Bool} {bb g : Nat} {xs : List Int} {tp r : Nat} (hG : Geo l k tp r) (h : PB w mb T l k ⟨4, t, b, x, false, gt⟩ []) (hb : Bnk w bb g xs) (hne : ¬ mb = g ∧ ¬ mb = bb) (htd : 0 ≤ t ∧ t ≤ 1000000) (hlen : tp < xs.length) (z : Bool) (ys : List Int) (hz : decide (bget xs (tp : Int) = t) = z) (hy : (if bget xs (tp : Int) = t then bput xs (tp : Int) (t + 1) else xs) = ys) :
    Calls Try.prog 42 #[.pointer (some ⟨mb, 0, none⟩), .pointer (some ⟨bb, 0, none⟩)] w fun e w' => e = .returned (.bool false) ∧ DSt T l k mb bb g ⟨5, t, b, x, false, z⟩ [] ys w w' := by
  have hix : ∀ w, (Instr.index 143 (.agg #[.func (.func 75) #[] #[], .func (.func 76) #[] #[], .func (.func 77) #[] #[], .func (.func 78) #[] #[], .func (.func 79) #[] #[], .func (.func 80) #[] #[]]) (.int .i64 4)).run Try.prog w = .ok (.func (.func 79) #[] #[]) w := fun w => by
    simp [Instr.index, go_sem, run_underlying Try.underlying143]
  have HN := Lib.hid (dnext (a := 4) (by omega) h)
  have HD0 := fun (w1 : World) (h1 : PB w1 mb T l k ⟨4 + 1, t, b, x, false, gt⟩ []) (hU : Upd (fun i => i = mb) w w1) => (show DSt T l k mb bb g ⟨5, t, b, x, false, gt⟩ [] xs w w1 from
    ⟨(by rw [show ((4 : Int) + 1) = 5 by decide] at h1; exact h1), hb.upd hU (fun e => hne.2 e.symm) (fun e => hne.1 e.symm), hU.wide (fun _ _ e => .inr e)⟩)
  have HC := fun (w1 : World) (h1 : DSt T l k mb bb g ⟨5, t, b, x, false, gt⟩ [] xs w w1) => Lib.hid (pop_last_is hG h1.1 h1.2.1 hne htd hlen z ys hz hy)
  clear h hb hne hG hz hy
  go_enter Try.func42, Try.ntmps42
  go_wp2_with fail
  refine HN.out.mono ?_
  rintro e w1 ⟨rfl, h1, hU⟩
  have H0 := Lib.hid (HD0 w1 h1 hU)
  have HC1 := HC w1 H0.out
  clear h1 hU HN HC HD0
  go_wp2_with fail
  refine HC1.out.mono ?_
  rintro e w2 ⟨rfl, h2⟩
  have H9 := Lib.hid (H0.out.trans h2)
  obtain ⟨-, -, -, -, c19, -⟩ := h2.1.own
  simp only at c19
  clear h2 HC1 H0
  go_wp2_with fail
  go_ret
  exact ⟨rfl, H9.out⟩
set_option maxRecDepth 100000 in
set_option maxHeartbeats 1000000 in
theorem pop_step_5 {w : World} {mb : Nat} {T : TypeId} {l : Lay} {k : Int} {t b x : Int} {gt : Bool} {bb g : Nat} {xs : List Int} {tp r : Nat} (hG : Geo l k tp r) (h : PB w mb T l k ⟨5, t, b, x, false, gt⟩ []) (hb : Bnk w bb g xs) (hne : ¬ mb = g ∧ ¬ mb = bb) (hbd : -1 ≤ b ∧ b ≤ 1000000) :
    Calls Try.prog 42 #[.pointer (some ⟨mb, 0, none⟩), .pointer (some ⟨bb, 0, none⟩)] w fun e w' => e = .returned (.bool true) ∧ DSt T l k mb bb g ⟨6, t, b, x, true, gt⟩ [] (bput xs ((tp : Int) + 1) (b + 1)) w w' := by
  have hix : ∀ w, (Instr.index 143 (.agg #[.func (.func 75) #[] #[], .func (.func 76) #[] #[], .func (.func 77) #[] #[], .func (.func 78) #[] #[], .func (.func 79) #[] #[], .func (.func 80) #[] #[]]) (.int .i64 5)).run Try.prog w = .ok (.func (.func 80) #[] #[]) w := fun w => by
    simp [Instr.index, go_sem, run_underlying Try.underlying143]
  have HN := Lib.hid (dnext (a := 5) (by omega) h)
  have HD0 := fun (w1 : World) (h1 : PB w1 mb T l k ⟨5 + 1, t, b, x, false, gt⟩ []) (hU : Upd (fun i => i = mb) w w1) => (show DSt T l k mb bb g ⟨6, t, b, x, false, gt⟩ [] xs w w1 from
    ⟨(by rw [show ((5 : Int) + 1) = 6 by decide] at h1; exact h1), hb.upd hU (fun e => hne.2 e.symm) (fun e => hne.1 e.symm), hU.wide (fun _ _ e => .inr e)⟩)
  have HC := fun (w1 : World) (h1 : DSt T l k mb bb g ⟨6, t, b, x, false, gt⟩ [] xs w w1) => Lib.hid (pop_back hG h1.1 h1.2.1 hne hbd)
  clear h hb hne hG
  go_enter Try.func42, Try.ntmps42
  go_wp2_with fail
  refine HN.out.mono ?_
  rintro e w1 ⟨rfl, h1, hU⟩
  have H0 := Lib.hid (HD0 w1 h1 hU)
  have HC1 := HC w1 H0.out
  clear h1 hU HN HC HD0
  go_wp2_with fail
  refine HC1.out.mono ?_
  rintro e w2 ⟨rfl, h2⟩
  have H9 := Lib.hid (H0.out.trans h2)
  obtain ⟨-, -, -, -, c19, -⟩ := h2.1.own
  simp only at c19
  clear h2 HC1 H0
  go_wp2_with fail
  go_ret
  exact ⟨rfl, H9.out⟩
set_option maxRecDepth 100000 in
theorem pop_step_d {w : World} {mb : Nat} {T : TypeId} {l : Lay} {k : Int} {a t b x : Int} {gt : Bool} {bb g : Nat} {xs : List Int} (h : PB w mb T l k ⟨a, t, b, x, true, gt⟩ []) (hb : Bnk w bb g xs) :
    Calls Try.prog 42 #[.pointer (some ⟨mb, 0, none⟩), .pointer (some ⟨bb, 0, none⟩)] w fun e w' => e = .returned (.bool true) ∧ DSt T l k mb bb g ⟨a, t, b, x, true, gt⟩ [] xs w w' := by
  have HN := Lib.hid (dnext_done h)
  have H9 : Hid (DSt T l k mb bb g ⟨a, t, b, x, true, gt⟩ [] xs w w) := Lib.hid ⟨h, hb, Upd.refl _ _⟩
  obtain ⟨-, -, -, -, c19, -⟩ := h.own
  simp only at c19
  clear h hb
  go_enter Try.func42, Try.ntmps42
  go_wp2_with fail
  refine HN.out.mono ?_
  rintro e w1 ⟨rfl, rfl⟩
  clear HN
  go_wp2_with fail
  go_ret
  exact ⟨rfl, H9.out⟩
set_option maxRecDepth 100000 in
set_option maxHeartbeats 2000000 in
theorem NewPop_any (l : Lay) (k : Int) (w : World) : Calls Try.prog 15 #[l.val, .int .i64 k] w fun e w' => e = .returned (.agg (PL l k ⟨0, 0, 0, 0, false, false⟩ []).toArray) ∧ Kept w w' := by
  obtain ⟨verts, arcs, workers, room, res, lex, hh, flag, pending, ask, count, sense, deques, size⟩ := l
  simp only [Lay.val, Lay.vals, PL]
  have HL : Hid (Blk ((w.alloc (.cells #[.int .i64 verts, .int .i64 arcs, .int .i64 workers, .int .i64 room, .int .i64 res, .int .i64 lex, .int .i64 hh, .int .i64 flag, .int .i64 pending, .int .i64 ask, .int .i64 count, .int .i64 sense, .int .i64 deques, .int .i64 size] 24)).alloc (.cells #[.int .i64 0, .int .i64 0, .int .i64 0, .int .i64 0, .int .i64 0, .int .i64 0, .int .i64 0, .int .i64 0, .int .i64 0, .int .i64 0, .int .i64 0, .int .i64 0, .int .i64 0, .int .i64 0, .int .i64 0, .int .i64 0, .int .i64 0, .int .i64 0, .int .i64 0, .bool false, .bool false] 51)) w.heap.size #[.int .i64 verts, .int .i64 arcs, .int .i64 workers, .int .i64 room, .int .i64 res, .int .i64 lex, .int .i64 hh, .int .i64 flag, .int .i64 pending, .int .i64 ask, .int .i64 count, .int .i64 sense, .int .i64 deques, .int .i64 size] 24) := Lib.hid ((Blk.new w _ _).alloc _)
  have HZ : Hid (Blk ((w.alloc (.cells #[.int .i64 verts, .int .i64 arcs, .int .i64 workers, .int .i64 room, .int .i64 res, .int .i64 lex, .int .i64 hh, .int .i64 flag, .int .i64 pending, .int .i64 ask, .int .i64 count, .int .i64 sense, .int .i64 deques, .int .i64 size] 24)).alloc (.cells #[.int .i64 0, .int .i64 0, .int .i64 0, .int .i64 0, .int .i64 0, .int .i64 0, .int .i64 0, .int .i64 0, .int .i64 0, .int .i64 0, .int .i64 0, .int .i64 0, .int .i64 0, .int .i64 0, .int .i64 0, .int .i64 0, .int .i64 0, .int .i64 0, .int .i64 0, .bool false, .bool false] 51)) (w.heap.size + 1) #[.int .i64 0, .int .i64 0, .int .i64 0, .int .i64 0, .int .i64 0, .int .i64 0, .int .i64 0, .int .i64 0, .int .i64 0, .int .i64 0, .int .i64 0, .int .i64 0, .int .i64 0, .int .i64 0, .int .i64 0, .int .i64 0, .int .i64 0, .int .i64 0, .int .i64 0, .bool false, .bool false] 51) := Lib.hid (by
    have h := Blk.new (w.alloc (.cells #[.int .i64 verts, .int .i64 arcs, .int .i64 workers, .int .i64 room, .int .i64 res, .int .i64 lex, .int .i64 hh, .int .i64 flag, .int .i64 pending, .int .i64 ask, .int .i64 count, .int .i64 sense, .int .i64 deques, .int .i64 size] 24)) #[.int .i64 0, .int .i64 0, .int .i64 0, .int .i64 0, .int .i64 0, .int .i64 0, .int .i64 0, .int .i64 0, .int .i64 0, .int .i64 0, .int .i64 0, .int .i64 0, .int .i64 0, .int .i64 0, .int .i64 0, .int .i64 0, .int .i64 0, .int .i64 0, .int .i64 0, .bool false, .bool false] 51
    rwa [World.size_alloc] at h)
  have HK : Hid (Kept w ((w.alloc (.cells #[.int .i64 verts, .int .i64 arcs, .int .i64 workers, .int .i64 room, .int .i64 res, .int .i64 lex, .int .i64 hh, .int .i64 flag, .int .i64 pending, .int .i64 ask, .int .i64 count, .int .i64 sense, .int .i64 deques, .int .i64 size] 24)).alloc (.cells #[.int .i64 0, .int .i64 0, .int .i64 0, .int .i64 0, .int .i64 0, .int .i64 0, .int .i64 0, .int .i64 0, .int .i64 0, .int .i64 0, .int .i64 0, .int .i64 0, .int .i64 0, .int .i64 0, .int .i64 0, .int .i64 0, .int .i64 0, .int .i64 0, .int .i64 0, .bool false, .bool false] 51))) := Lib.hid (((Upd.refl _ _).alloc _).alloc _)
  have HS : Hid (w.heap.size ≤ w.heap.size + 1) := Lib.hid (by omega)
  go_enter Try.func15, Try.ntmps15
  go_upto_region 1 with (fail)
  generalize ((w.alloc (.cells #[.int .i64 verts, .int .i64 arcs, .int .i64 workers, .int .i64 room, .int .i64 res, .int .i64 lex, .int .i64 hh, .int .i64 flag, .int .i64 pending, .int .i64 ask, .int .i64 count, .int .i64 sense, .int .i64 deques, .int .i64 size] 24)).alloc (.cells #[.int .i64 0, .int .i64 0, .int .i64 0, .int .i64 0, .int .i64 0, .int .i64 0, .int .i64 0, .int .i64 0, .int .i64 0, .int .i64 0, .int .i64 0, .int .i64 0, .int .i64 0, .int .i64 0, .int .i64 0, .int .i64 0, .int .i64 0, .int .i64 0, .int .i64 0, .bool false, .bool false] 51)) = W2 at HL HZ HK ⊢
  generalize w.heap.size + 1 = ob at HZ HS ⊢
  have hra : W2.rangeAt w.heap.size 0 [.int .i64 verts, .int .i64 arcs, .int .i64 workers, .int .i64 room, .int .i64 res, .int .i64 lex, .int .i64 hh, .int .i64 flag, .int .i64 pending, .int .i64 ask, .int .i64 count, .int .i64 sense, .int .i64 deques, .int .i64 size] := by
    intro j v hv
    rw [Nat.zero_add, HL.out.cell j]
    simpa using hv
  have hth : W2.there ob 0 21 := by
    intro j hj
    rw [Nat.zero_add, HZ.out.cell j]
    exact ⟨by rw [Array.getElem?_eq_getElem (by simpa using hj)]; rfl, HZ.out.free j⟩
  have hz14 : (Try.prog.info? 24).map (·.size) = some 14 := by kernel_rfl
  have hzn : (Try.prog.info? 51).map (·.size) = some 21 := by kernel_rfl
  obtain ⟨W3, hW3⟩ : ∃ W3, W2.setCells ob 0 [.int .i64 verts, .int .i64 arcs, .int .i64 workers, .int .i64 room, .int .i64 res, .int .i64 lex, .int .i64 hh, .int .i64 flag, .int .i64 pending, .int .i64 ask, .int .i64 count, .int .i64 sense, .int .i64 deques, .int .i64 size, .int .i64 k, .int .i64 0, .int .i64 0, .int .i64 0, .int .i64 0, .bool false, .bool false] = W3 := ⟨_, rfl⟩
  have hr3 : W3.rangeAt ob 0 [.int .i64 verts, .int .i64 arcs, .int .i64 workers, .int .i64 room, .int .i64 res, .int .i64 lex, .int .i64 hh, .int .i64 flag, .int .i64 pending, .int .i64 ask, .int .i64 count, .int .i64 sense, .int .i64 deques, .int .i64 size, .int .i64 k, .int .i64 0, .int .i64 0, .int .i64 0, .int .i64 0, .bool false, .bool false] := by rw [← hW3]; exact World.rangeAt_setCells_same W2 ob 0 _ hth
  have HKF : Hid (Kept w W3) := Lib.hid (HK.out.then (by rw [← hW3]; exact upd_setCells ob _ 0 W2) (fun i hi e => by have := HS.out; omega))
  have hlv := run_loadVar_mid (P := Try.prog) W3 ob 0 51 [.int .i64 verts, .int .i64 arcs, .int .i64 workers, .int .i64 room, .int .i64 res, .int .i64 lex, .int .i64 hh, .int .i64 flag, .int .i64 pending, .int .i64 ask, .int .i64 count, .int .i64 sense, .int .i64 deques, .int .i64 size, .int .i64 k, .int .i64 0, .int .i64 0, .int .i64 0, .int .i64 0, .bool false, .bool false] _ hr3 Try.underlying51 rfl hzn
  clear HL HZ hr3 HK
  go_wp2_with (first | (refine wpList_load_mid rfl _ _ rfl w.heap.size 0 rfl [.int .i64 verts, .int .i64 arcs, .int .i64 workers, .int .i64 room, .int .i64 res, .int .i64 lex, .int .i64 hh, .int .i64 flag, .int .i64 pending, .int .i64 ask, .int .i64 count, .int .i64 sense, .int .i64 deques, .int .i64 size] _ hra Try.underlying24 rfl hz14 ?_) | (refine wpList_store_mid rfl _ _ _ rfl ob 0 #[.int .i64 verts, .int .i64 arcs, .int .i64 workers, .int .i64 room, .int .i64 res, .int .i64 lex, .int .i64 hh, .int .i64 flag, .int .i64 pending, .int .i64 ask, .int .i64 count, .int .i64 sense, .int .i64 deques, .int .i64 size, .int .i64 k, .int .i64 0, .int .i64 0, .int .i64 0, .int .i64 0, .bool false, .bool false] rfl rfl hth hzn (all_oneCell_toArray (cs := [.int .i64 verts, .int .i64 arcs, .int .i64 workers, .int .i64 room, .int .i64 res, .int .i64 lex, .int .i64 hh, .int .i64 flag, .int .i64 pending, .int .i64 ask, .int .i64 count, .int .i64 sense, .int .i64 deques, .int .i64 size, .int .i64 k, .int .i64 0, .int .i64 0, .int .i64 0, .int .i64 0, .bool false, .bool false]) (by simp [Value.oneCell'])) ?_; simp only [hW3]) | fail)
  clear hth hra hW3
  exact bodyPost_ret (v := .agg #[.int .i64 verts, .int .i64 arcs, .int .i64 workers, .int .i64 room, .int .i64 res, .int .i64 lex, .int .i64 hh, .int .i64 flag, .int .i64 pending, .int .i64 ask, .int .i64 count, .int .i64 sense, .int .i64 deques, .int .i64 size, .int .i64 k, .int .i64 0, .int .i64 0, .int .i64 0, .int .i64 0, .bool false, .bool false]) (by simp [results, Try.results15, hlv, asAddr, Act.put]) rfl ⟨rfl, HKF.out⟩
/-- A pop's step. -/
theorem pop_step {w : World} {mb : Nat} {T : TypeId} {l : Lay} {k : Int} {bb g : Nat} {xs : List Int} {tp r : Nat} (m : DM) (hG : Geo l k tp r) (h : PB w mb T l k m []) (hb : Bnk w bb g xs) (hne : ¬ mb = g ∧ ¬ mb = bb) (ha : m.done = false → 0 ≤ m.a ∧ m.a ≤ 5) (hbd : -1 ≤ m.b ∧ m.b ≤ 1000000) (htd : 0 ≤ m.t ∧ m.t ≤ 1000000) (h0 : m.a = 0 → 0 ≤ bget xs ((tp : Int) + 1) ∧ bget xs ((tp : Int) + 1) ≤ 1000000) (hlen : tp < xs.length) :
    Calls Try.prog 42 #[.pointer (some ⟨mb, 0, none⟩), .pointer (some ⟨bb, 0, none⟩)] w fun e w' => e = .returned (.bool (popS tp r m xs).1.done) ∧ DSt T l k mb bb g (popS tp r m xs).1 [] (popS tp r m xs).2 w w' := by
  obtain ⟨a, t, b, x, dn, gt⟩ := m
  cases dn with
  | true => exact pop_step_d h hb
  | false =>
    simp only at ha hbd htd h0
    have h4 : a = 0 ∨ a = 1 ∨ a = 2 ∨ a = 3 ∨ a = 4 ∨ a = 5 := by have := ha (by simp); omega
    rcases h4 with rfl | rfl | rfl | rfl | rfl | rfl
    · exact pop_step_0 hG h hb hne (h0 rfl)
    · exact pop_step_1 hG h hb hne
    · exact pop_step_2 hG h hb hne
    · by_cases q1 : b < t
      · rw [show popS tp r ⟨3, t, b, x, false, gt⟩ xs = (⟨4, t, b, x, true, gt⟩, bput xs ((tp : Int) + 1) (b + 1)) by simp only [popS]; rw [if_pos q1]; rfl]
        exact pop_step_3b hG h hb hne hbd htd q1
      · by_cases q2 : t < b
        · rw [show popS tp r ⟨3, t, b, x, false, gt⟩ xs = (⟨4, t, b, bget xs (slot tp r b), true, true⟩, xs) by simp only [popS]; rw [if_neg q1, if_pos q2]; rfl]
          exact pop_step_3g hG h hb hne hbd htd q2
        · rw [show popS tp r ⟨3, t, b, x, false, gt⟩ xs = (⟨4, t, b, bget xs (slot tp r b), false, gt⟩, xs) by simp only [popS]; rw [if_neg q1, if_neg q2]; rfl]
          exact pop_step_3o hG h hb hne hbd htd (by omega)
    · exact pop_step_4 hG h hb hne htd hlen _ _ rfl rfl
    · exact pop_step_5 hG h hb hne hbd
theorem pop_got {w : World} {mb : Nat} {T : TypeId} {l : Lay} {k : Int} {m : DM} (h : PB w mb T l k m []) :
    Calls Try.prog 22 #[.pointer (some ⟨mb, 0, none⟩)] w fun e w' => e = .returned (.tuple #[.int .i64 (took m).1, .bool (took m).2]) ∧ w = w' := by
  have HT := Lib.hid (show Calls Try.prog 49 #[.pointer (some ⟨mb, 0, none⟩)] w fun e w' => e = .returned (.tuple #[.int .i64 (took m).1, .bool (took m).2]) ∧ w = w' from dtaken h)
  clear h
  go_enter Try.func22, Try.ntmps22
  go_wp2_with fail
  refine HT.out.mono ?_
  rintro e w1 ⟨rfl, rfl⟩
  clear HT
  go_wp2_with fail
  go_ret2
  exact ⟨rfl, rfl⟩
end Go.Proofs.Ytdgkemadhooogaa
