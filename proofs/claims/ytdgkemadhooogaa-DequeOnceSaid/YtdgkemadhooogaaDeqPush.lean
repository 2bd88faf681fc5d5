/- Package deque: a push (printed by gen_deq.py). -/
import Derived.Test.YtdgkemadhooogaaDeqPart
import Derived.Deep.RegionHeld3
import Derived.Deep.CutRange
import Derived.StillTailTactics
import Derived.Deep.MidRow
namespace Go.Proofs.Ytdgkemadhooogaa
set_option linter.unusedVariables false
set_option linter.unusedSimpArgs false
open Go.RowKit
attribute [local go_sem] cell?_ext

theorem upd_setCells (b : Nat) : ∀ (vs : List Value) (o : Nat) (w : World), Upd (fun k => k = b) w (w.setCells b o vs)
  | [], _, w => Upd.refl _ _
  | v :: r, o, w => by
    rw [World.setCells]
    exact ((Upd.refl (fun k => k = b) w).setCell (p := ⟨b, o, none⟩) (.inl rfl) v).trans (upd_setCells b r (o + 1) _)
theorem DSt.of {T : TypeId} {l : Lay} {k : Int} {mb bb g : Nat} {m : DM} {ex : List Value} {ys : List Int} {w w1 w2 : World} (h : PB w mb T l k m ex) (k1 : Kept w w1) (hB : Bnk w2 bb g ys) (hU : Upd (fun i => i = g) w1 w2) (hne : ¬ mb = g) : DSt T l k mb bb g m ex ys w w2 :=
  ⟨(h.kept k1).upd hU hne, hB, k1.wide (fun _ _ f => f.elim) |>.then hU (fun i _ e => .inl e)⟩
theorem DSt.set {T : TypeId} {l : Lay} {k : Int} {mb bb g : Nat} {m m' : DM} {ex ex' : List Value} {ys : List Int} {w w2 : World} (h : DSt T l k mb bb g m ex ys w w2) (hne : ¬ mb = g ∧ ¬ mb = bb) (i : Nat) (v : Value) (e : (PL l k m ex).set i v = PL l k m' ex') : DSt T l k mb bb g m' ex' ys w (w2.setCell ⟨mb, i, none⟩ v) :=
  ⟨h.1.put i v e, h.2.1.upd (updCell _ mb i _) (fun e => hne.2 e.symm) (fun e => hne.1 e.symm), h.2.2.setCell (p := ⟨mb, i, none⟩) (.inl (.inr rfl)) _⟩
theorem DSt.step {T : TypeId} {l : Lay} {k : Int} {mb bb g : Nat} {m m' : DM} {ex ex' : List Value} {ys : List Int} {w w1 w2 : World} (h : DSt T l k mb bb g m ex ys w w1) (h2 : PB w2 mb T l k m' ex') (hU : Upd (fun i => i = mb) w1 w2) (hne : ¬ mb = g ∧ ¬ mb = bb) : DSt T l k mb bb g m' ex' ys w w2 :=
  ⟨h2, h.2.1.upd hU (fun e => hne.2 e.symm) (fun e => hne.1 e.symm), h.2.2.then hU (fun i _ e => .inr e)⟩
theorem DSt.trans {T : TypeId} {l : Lay} {k : Int} {mb bb g : Nat} {m m' : DM} {ex ex' : List Value} {xs ys : List Int} {w w1 w2 : World} (h : DSt T l k mb bb g m ex xs w w1) (h2 : DSt T l k mb bb g m' ex' ys w1 w2) : DSt T l k mb bb g m' ex' ys w w2 :=
  ⟨h2.1, h2.2.1, h.2.2.trans h2.2.2⟩
set_option maxRecDepth 100000 in
set_option maxHeartbeats 2000000 in
theorem push_first {w : World} {mb : Nat} {T : TypeId} {l : Lay} {k : Int} {v : Int} {a t b x : Int} {dn gt : Bool} {bb g : Nat} {xs : List Int} {tp r : Nat} (hG : Geo l k tp r) (h : PB w mb T l k ⟨a, t, b, x, dn, gt⟩ [.int .i64 v]) (hb : Bnk w bb g xs) (hne : ¬ mb = g ∧ ¬ mb = bb) :
    Calls Try.prog 83 #[.pointer (some ⟨mb, 0, none⟩), .pointer (some ⟨bb, 0, none⟩)] w fun e w' => e = .returned (.tuple #[]) ∧ DSt T l k mb bb g ⟨a, t, bget xs ((tp : Int) + 1), x, dn, gt⟩ [.int .i64 v] xs w w' := by
  have HT := Lib.hid (dloadBottom hG h hb hne)
  clear h hb hne hG
  go_enter Try.func83, Try.ntmps83
  go_wp2_with fail
  refine HT.out.mono ?_
  rintro e w1 ⟨rfl, hk⟩
  have H9 := Lib.hid hk
  clear hk HT
  go_wp2_with fail
  go_end0
  exact ⟨rfl, H9.out⟩
set_option maxRecDepth 100000 in
set_option maxHeartbeats 2000000 in
theorem push_room {w : World} {mb : Nat} {T : TypeId} {l : Lay} {k : Int} {v : Int} {a t b x : Int} {dn gt : Bool} {bb g : Nat} {xs : List Int} {tp r : Nat} (hG : Geo l k tp r) (h : PB w mb T l k ⟨a, t, b, x, dn, gt⟩ [.int .i64 v]) (hb : Bnk w bb g xs) (hne : ¬ mb = g ∧ ¬ mb = bb) (hbd : -1 ≤ b ∧ b ≤ 1000000) (htd : 0 ≤ bget xs (tp : Int) ∧ bget xs (tp : Int) ≤ 1000000) :
    Calls Try.prog 84 #[.pointer (some ⟨mb, 0, none⟩), .pointer (some ⟨bb, 0, none⟩)] w fun e w' => e = .returned (.tuple #[]) ∧ DSt T l k mb bb g (if ((2 ^ r : Nat) : Int) ≤ b - bget xs (tp : Int) then ⟨a, bget xs (tp : Int), b, x, true, false⟩ else ⟨a, bget xs (tp : Int), b, x, dn, gt⟩) [.int .i64 v] xs w w' := by
  have HT := Lib.hid (dloadTop hG h hb hne)
  have hrm := hG.room
  obtain ⟨y, hy⟩ : ∃ y, bget xs (tp : Int) = y := ⟨_, rfl⟩
  rw [hy] at HT htd ⊢
  have HN := Lib.hid hne
  clear h hb hne hG hy
  have hw : wrap64 (b - y) = b - y := by unfold wrap64; omega
  generalize ((2 ^ r : Nat) : Int) = R at hrm ⊢
  by_cases hq : R ≤ b - y
  · rw [if_pos hq]
    have hq2 : decide (R ≤ b - y) = true := by simpa using hq
    go_enter Try.func84, Try.ntmps84
    go_wp2_with fail
    refine HT.out.mono ?_
    rintro e w1 ⟨rfl, hk⟩
    have H1 := Lib.hid hk
    clear hk HT
    obtain ⟨-, -, -, c3, -⟩ := H1.out.1.lay
    obtain ⟨-, c16, c17, -, -, -⟩ := H1.out.1.own
    rw [hrm] at c3
    simp only at c16 c17
    clear hrm
    have HE := fun (w' : World) (k' : Kept w1 w') => Lib.hid (dend (w := w') false (H1.out.1.kept k'))
    go_upto_region 1 with (fail)
    refine wp_region_kept (by kernel_rfl) (by kernel_rfl) ?_
    repeat (go_big_quiet_step (fail))
    refine wpQuiet_nil ?_
    intro w2 hk2
    go_wp2_with fail
    refine (HE _ hk2).out.mono ?_
    rintro e w3 ⟨rfl, h3, hU⟩
    have H9 := Lib.hid (DSt.step (w1 := w1) H1.out h3 ((hk2.wide (fun _ _ f => f.elim)).trans hU) HN.out)
    clear h3 hU HE
    go_wp2_with fail
    go_end0
    exact ⟨rfl, H9.out⟩
  · rw [if_neg hq]
    have hq2 : decide (R ≤ b - y) = false := by simpa using hq
    go_enter Try.func84, Try.ntmps84
    go_wp2_with fail
    refine HT.out.mono ?_
    rintro e w1 ⟨rfl, hk⟩
    have H1 := Lib.hid hk
    clear hk HT
    obtain ⟨-, -, -, c3, -⟩ := H1.out.1.lay
    obtain ⟨-, c16, c17, -, -, -⟩ := H1.out.1.own
    rw [hrm] at c3
    simp only at c16 c17
    clear hrm
    go_upto_region 1 with (fail)
    refine wp_region_kept (by kernel_rfl) (by kernel_rfl) ?_
    repeat (go_big_quiet_step (fail))
    refine wpQuiet_nil ?_
    intro w2 hk2
    have H9 := Lib.hid (DSt.step (w1 := w1) H1.out (H1.out.1.kept hk2) (hk2.wide (fun _ _ f => f.elim)) HN.out)
    go_wp2_with fail
    go_end0
    exact ⟨rfl, H9.out⟩
theorem push_room1 {w : World} {mb : Nat} {T : TypeId} {l : Lay} {k v : Int} {a t b x : Int} {dn gt : Bool} {bb g : Nat} {xs : List Int} {tp r : Nat} (hG : Geo l k tp r) (h : PB w mb T l k ⟨a, t, b, x, dn, gt⟩ [.int .i64 v]) (hb : Bnk w bb g xs) (hne : ¬ mb = g ∧ ¬ mb = bb) (hbd : -1 ≤ b ∧ b ≤ 1000000) (htd : 0 ≤ bget xs (tp : Int) ∧ bget xs (tp : Int) ≤ 1000000) (hq : ((2 ^ r : Nat) : Int) ≤ b - bget xs (tp : Int)) :
    Calls Try.prog 84 #[.pointer (some ⟨mb, 0, none⟩), .pointer (some ⟨bb, 0, none⟩)] w fun e w' => e = .returned (.tuple #[]) ∧ DSt T l k mb bb g ⟨a, bget xs (tp : Int), b, x, true, false⟩ [.int .i64 v] xs w w' := by
  have := push_room hG h hb hne hbd htd
  rwa [if_pos hq] at this
theorem push_room0 {w : World} {mb : Nat} {T : TypeId} {l : Lay} {k v : Int} {a t b x : Int} {dn gt : Bool} {bb g : Nat} {xs : List Int} {tp r : Nat} (hG : Geo l k tp r) (h : PB w mb T l k ⟨a, t, b, x, dn, gt⟩ [.int .i64 v]) (hb : Bnk w bb g xs) (hne : ¬ mb = g ∧ ¬ mb = bb) (hbd : -1 ≤ b ∧ b ≤ 1000000) (htd : 0 ≤ bget xs (tp : Int) ∧ bget xs (tp : Int) ≤ 1000000) (hq : ¬ ((2 ^ r : Nat) : Int) ≤ b - bget xs (tp : Int)) :
    Calls Try.prog 84 #[.pointer (some ⟨mb, 0, none⟩), .pointer (some ⟨bb, 0, none⟩)] w fun e w' => e = .returned (.tuple #[]) ∧ DSt T l k mb bb g ⟨a, bget xs (tp : Int), b, x, dn, gt⟩ [.int .i64 v] xs w w' := by
  have := push_room hG h hb hne hbd htd
  rwa [if_neg hq] at this
set_option maxRecDepth 100000 in
set_option maxHeartbeats 2000000 in
theorem push_put {w : World} {mb : Nat} {T : TypeId} {l : Lay} {k : Int} {v : Int} {a t b x : Int} {dn gt : Bool} {bb g : Nat} {xs : List Int} {tp r : Nat} (hG : Geo l k tp r) (h : PB w mb T l k ⟨a, t, b, x, dn, gt⟩ [.int .i64 v]) (hb : Bnk w bb g xs) (hne : ¬ mb = g ∧ ¬ mb = bb) (hbd : 0 ≤ b ∧ b ≤ 1000000) :
    Calls Try.prog 85 #[.pointer (some ⟨mb, 0, none⟩), .pointer (some ⟨bb, 0, none⟩)] w fun e w' => e = .returned (.tuple #[]) ∧ DSt T l k mb bb g ⟨a, t, b, x, dn, gt⟩ [.int .i64 v] (bput xs (slot tp r b) v) w w' := by
  have HC := fun (w' : World) (k' : Kept w w') => (show (w'.cell? ⟨mb, 17, none⟩ = some (.int .i64 b) ∧ w'.cell? ⟨mb, 21, none⟩ = some (.int .i64 v)) from ⟨by rw [(h.kept k').cell]; rfl, by rw [(h.kept k').cell]; rfl⟩)
  have HS := fun (w' : World) (k' : Kept w w') => Lib.hid (dslot (j := b) hG (h.kept k') (by omega))
  have HB := fun (w' : World) (k' : Kept w w') => Lib.hid (Store_is (hb.kept k') (slot tp r b) v _ rfl)
  have HF := fun (w1 w2 : World) (k1 : Kept w w1) (hB : Bnk w2 bb g (bput xs (slot tp r b) v)) hU => DSt.of h k1 hB hU hne.1
  generalize slot tp r b = sl at HS HB HF ⊢
  clear h hb hne hG
  go_enter Try.func85, Try.ntmps85
  go_upto_region 0 with (fail)
  have C0 : (w.drew.cell? ⟨mb, 17, none⟩ = some (.int .i64 b) ∧ w.drew.cell? ⟨mb, 21, none⟩ = some (.int .i64 v)) := HC _ (Upd.refl _ _).drew
  have k0 : Kept w w.drew := (Upd.refl _ _).drew
  go_region_held3 (fun w' => (w'.cell? ⟨mb, 17, none⟩ = some (.int .i64 b) ∧ w'.cell? ⟨mb, 21, none⟩ = some (.int .i64 v)))
    (first | exact C0 | exact C1 | exact C2)
    (first
      | (go_at_call 59; refine ((HB _ k1).out).mono ?_; rintro e W2 ⟨rfl, hB, hU⟩; have H9 := Lib.hid (HF _ _ k1 hB hU); have C2 : (W2.cell? ⟨mb, 17, none⟩ = some (.int .i64 b) ∧ W2.cell? ⟨mb, 21, none⟩ = some (.int .i64 v)) := ⟨by rw [H9.out.1.cell]; rfl, by rw [H9.out.1.cell]; rfl⟩; clear hB hU)
      | (go_at_call 101; refine ((HS _ k0).out).mono ?_; rintro e W1 ⟨rfl, hk⟩; have k1 : Kept w W1 := k0.trans hk; have C1 := HC _ k1; clear hk))
  go_wp2_with fail
  go_end0
  exact ⟨rfl, H9.out⟩
set_option maxRecDepth 100000 in
set_option maxHeartbeats 2000000 in
theorem push_last {w : World} {mb : Nat} {T : TypeId} {l : Lay} {k : Int} {v : Int} {a t b x : Int} {dn gt : Bool} {bb g : Nat} {xs : List Int} {tp r : Nat} (hG : Geo l k tp r) (h : PB w mb T l k ⟨a, t, b, x, dn, gt⟩ [.int .i64 v]) (hb : Bnk w bb g xs) (hne : ¬ mb = g ∧ ¬ mb = bb) (hbd : -1 ≤ b ∧ b ≤ 1000000) :
    Calls Try.prog 86 #[.pointer (some ⟨mb, 0, none⟩), .pointer (some ⟨bb, 0, none⟩)] w fun e w' => e = .returned (.tuple #[]) ∧ DSt T l k mb bb g ⟨a, t, b, x, true, true⟩ [.int .i64 v] (bput xs ((tp : Int) + 1) (b + 1)) w w' := by
  have HC := fun (w' : World) (k' : Kept w w') => (show (w'.cell? ⟨mb, 17, none⟩ = some (.int .i64 b)) from (by rw [(h.kept k').cell]; rfl))
  obtain ⟨q, hq⟩ : ∃ q, b + 1 = q := ⟨_, rfl⟩
  have hw : wrap64 (b + 1) = q := by unfold wrap64; omega
  have hw2 : IntKind.i64.wrap (b + 1) = q := by rw [IntKind.wrap_i64]; omega
  rw [hq]
  clear hq
  have HS := fun (w' : World) (k' : Kept w w') => Lib.hid (dbottom hG (h.kept k'))
  have HB := fun (w' : World) (k' : Kept w w') => Lib.hid (Store_is (hb.kept k') ((tp : Int) + 1) q _ rfl)
  have HF := fun (w1 w2 : World) (k1 : Kept w w1) (hB : Bnk w2 bb g (bput xs ((tp : Int) + 1) q)) hU => DSt.of h k1 hB hU hne.1
  have HN := Lib.hid hne
  generalize (tp : Int) + 1 = bo at HS HB HF ⊢
  clear h hb hne hG
  go_enter Try.func86, Try.ntmps86
  go_upto_region 0 with (fail)
  have C0 : (w.drew.cell? ⟨mb, 17, none⟩ = some (.int .i64 b)) := HC _ (Upd.refl _ _).drew
  have k0 : Kept w w.drew := (Upd.refl _ _).drew
  go_region_held3 (fun w' => (w'.cell? ⟨mb, 17, none⟩ = some (.int .i64 b)))
    (first | exact C0 | exact C1 | exact C2)
    (first
      | (go_at_call 59; refine ((HB _ k1).out).mono ?_; rintro e W2 ⟨rfl, hB, hU⟩; have H9 := Lib.hid (HF _ _ k1 hB hU); have C2 : (W2.cell? ⟨mb, 17, none⟩ = some (.int .i64 b)) := (by rw [H9.out.1.cell]; rfl); clear hB hU)
      | (go_at_call 104; refine ((HS _ k0).out).mono ?_; rintro e W1 ⟨rfl, hk⟩; have k1 : Kept w W1 := k0.trans hk; have C1 := HC _ k1; clear hk))
  go_wp2_with fail
  refine (dend true H9.out.1).mono ?_
  rintro e w3 ⟨rfl, h3, hU⟩
  have H8 := Lib.hid (DSt.step H9.out h3 hU HN.out)
  clear h3 hU
  go_wp2_with fail
  go_end0
  exact ⟨rfl, H8.out⟩
set_option maxRecDepth 100000 in
set_option maxHeartbeats 1000000 in
theorem push_step_0 {w : World} {mb : Nat} {T : TypeId} {l : Lay} {k : Int} {v : Int} {t b x : Int} {gt : Bool} {bb g : Nat} {xs : List Int} {tp r : Nat} (hG : Geo l k tp r) (h : PB w mb T l k ⟨0, t, b, x, false, gt⟩ [.int .i64 v]) (hb : Bnk w bb g xs) (hne : ¬ mb = g ∧ ¬ mb = bb) :
    Calls Try.prog 45 #[.pointer (some ⟨mb, 0, none⟩), .pointer (some ⟨bb, 0, none⟩)] w fun e w' => e = .returned (.bool false) ∧ DSt T l k mb bb g ⟨1, t, bget xs ((tp : Int) + 1), x, false, gt⟩ [.int .i64 v] xs w w' := by
  have hix : ∀ w, (Instr.index 149 (.agg #[.func (.func 83) #[] #[], .func (.func 84) #[] #[], .func (.func 85) #[] #[], .func (.func 86) #[] #[]]) (.int .i64 0)).run Try.prog w = .ok (.func (.func 83) #[] #[]) w := fun w => by
    simp [Instr.index, go_sem, run_underlying Try.underlying149]
  have HN := Lib.hid (dnext (a := 0) (by omega) h)
  have HD0 := fun (w1 : World) (h1 : PB w1 mb T l k ⟨0 + 1, t, b, x, false, gt⟩ [.int .i64 v]) (hU : Upd (fun i => i = mb) w w1) => (show DSt T l k mb bb g ⟨1, t, b, x, false, gt⟩ [.int .i64 v] xs w w1 from
    ⟨(by rw [show ((0 : Int) + 1) = 1 by decide] at h1; exact h1), hb.upd hU (fun e => hne.2 e.symm) (fun e => hne.1 e.symm), hU.wide (fun _ _ e => .inr e)⟩)
  have HC := fun (w1 : World) (h1 : DSt T l k mb bb g ⟨1, t, b, x, false, gt⟩ [.int .i64 v] xs w w1) => Lib.hid (push_first hG h1.1 h1.2.1 hne)
  clear h hb hne hG
  go_enter Try.func45, Try.ntmps45
  go_wp2_with fail
  refine HN.out.mono ?_
  rintro e w1 ⟨rfl, h1, hU⟩
  have H0 := Lib.hid (HD0 w1 h1 hU)
  have HC1 := HC w1 H0.out
  clear h1 hU HN HC HD0
  go_wp2_with fail
  refine HC1.out.mono ?_
  rintro e w2 ⟨rfl, h2⟩
  have H9 := Lib.hid (H0.out.trans h2)
  obtain ⟨-, -, -, -, c19, -⟩ := h2.1.own
  simp only at c19
  clear h2 HC1 H0
  go_wp2_with fail
  go_ret
  exact ⟨rfl, H9.out⟩
set_option maxRecDepth 100000 in
set_option maxHeartbeats 1000000 in
theorem push_step_1f {w : World} {mb : Nat} {T : TypeId} {l : Lay} {k : Int} {v : Int} {t b x : Int} {gt : Bool} {bb g : Nat} {xs : List Int} {tp r : Nat} (hG : Geo l k tp r) (h : PB w mb T l k ⟨1, t, b, x, false, gt⟩ [.int .i64 v]) (hb : Bnk w bb g xs) (hne : ¬ mb = g ∧ ¬ mb = bb) (hbd : -1 ≤ b ∧ b ≤ 1000000) (htd : 0 ≤ bget xs (tp : Int) ∧ bget xs (tp : Int) ≤ 1000000) (hq : ((2 ^ r : Nat) : Int) ≤ b - bget xs (tp : Int)) :
    Calls Try.prog 45 #[.pointer (some ⟨mb, 0, none⟩), .pointer (some ⟨bb, 0, none⟩)] w fun e w' => e = .returned (.bool true) ∧ DSt T l k mb bb g ⟨2, bget xs (tp : Int), b, x, true, false⟩ [.int .i64 v] xs w w' := by
  have hix : ∀ w, (Instr.index 149 (.agg #[.func (.func 83) #[] #[], .func (.func 84) #[] #[], .func (.func 85) #[] #[], .func (.func 86) #[] #[]]) (.int .i64 1)).run Try.prog w = .ok (.func (.func 84) #[] #[]) w := fun w => by
    simp [Instr.index, go_sem, run_underlying Try.underlying149]
  have HN := Lib.hid (dnext (a := 1) (by omega) h)
  have HD0 := fun (w1 : World) (h1 : PB w1 mb T l k ⟨1 + 1, t, b, x, false, gt⟩ [.int .i64 v]) (hU : Upd (fun i => i = mb) w w1) => (show DSt T l k mb bb g ⟨2, t, b, x, false, gt⟩ [.int .i64 v] xs w w1 from
    ⟨(by rw [show ((1 : Int) + 1) = 2 by decide] at h1; exact h1), hb.upd hU (fun e => hne.2 e.symm) (fun e => hne.1 e.symm), hU.wide (fun _ _ e => .inr e)⟩)
  have HC := fun (w1 : World) (h1 : DSt T l k mb bb g ⟨2, t, b, x, false, gt⟩ [.int .i64 v] xs w w1) => Lib.hid (push_room1 hG h1.1 h1.2.1 hne hbd htd hq)
  clear h hb hne hG
  go_enter Try.func45, Try.ntmps45
  go_wp2_with fail
  refine HN.out.mono ?_
  rintro e w1 ⟨rfl, h1, hU⟩
  have H0 := Lib.hid (HD0 w1 h1 hU)
  have HC1 := HC w1 H0.out
  clear h1 hU HN HC HD0
  go_wp2_with fail
  refine HC1.out.mono ?_
  rintro e w2 ⟨rfl, h2⟩
  have H9 := Lib.hid (H0.out.trans h2)
  obtain ⟨-, -, -, -, c19, -⟩ := h2.1.own
  simp only at c19
  clear h2 HC1 H0
  go_wp2_with fail
  go_ret
  exact ⟨rfl, H9.out⟩
set_option maxRecDepth 100000 in
set_option maxHeartbeats 1000000 in
theorem push_step_1t {w : World} {mb : Nat} {T : TypeId} {l : Lay} {k : Int} {v : Int} {t b x : Int} {gt : Bool} {bb g : Nat} {xs : List Int} {tp r : Nat} (hG : Geo l k tp r) (h : PB w mb T l k ⟨1, t, b, x, false, gt⟩ [.int .i64 v]) (hb : Bnk w bb g xs) (hne : ¬ mb = g ∧ ¬ mb = bb) (hbd : -1 ≤ b ∧ b ≤ 1000000) (htd : 0 ≤ bget xs (tp : Int) ∧ bget xs (tp : Int) ≤ 1000000) (hq : ¬ ((2 ^ r : Nat) : Int) ≤ b - bget xs (tp : Int)) :
    Calls Try.prog 45 #[.pointer (some ⟨mb, 0, none⟩), .pointer (some ⟨bb, 0, none⟩)] w fun e w' => e = .returned (.bool false) ∧ DSt T l k mb bb g ⟨2, bget xs (tp : Int), b, x, false, gt⟩ [.int .i64 v] xs w w' := by
  have hix : ∀ w, (Instr.index 149 (.agg #[.func (.func 83) #[] #[], .func (.func 84) #[] #[], .func (.func 85) #[] #[], .func (.func 86) #[] #[]]) (.int .i64 1)).run Try.prog w = .ok (.func (.func 84) #[] #[]) w := fun w => by
    simp [Instr.index, go_sem, run_underlying Try.underlying149]
  have HN := Lib.hid (dnext (a := 1) (by omega) h)
  have HD0 := fun (w1 : World) (h1 : PB w1 mb T l k ⟨1 + 1, t, b, x, false, gt⟩ [.int .i64 v]) (hU : Upd (fun i => i = mb) w w1) => (show DSt T l k mb bb g ⟨2, t, b, x, false, gt⟩ [.int .i64 v] xs w w1 from
    ⟨(by rw [show ((1 : Int) + 1) = 2 by decide] at h1; exact h1), hb.upd hU (fun e => hne.2 e.symm) (fun e => hne.1 e.symm), hU.wide (fun _ _ e => .inr e)⟩)
  have HC := fun (w1 : World) (h1 : DSt T l k mb bb g ⟨2, t, b, x, false, gt⟩ [.int .i64 v] xs w w1) => Lib.hid (push_room0 hG h1.1 h1.2.1 hne hbd htd hq)
  clear h hb hne hG
  go_enter Try.func45, Try.ntmps45
  go_wp2_with fail
  refine HN.out.mono ?_
  rintro e w1 ⟨rfl, h1, hU⟩
  have H0 := Lib.hid (HD0 w1 h1 hU)
  have HC1 := HC w1 H0.out
  clear h1 hU HN HC HD0
  go_wp2_with fail
  refine HC1.out.mono ?_
  rintro e w2 ⟨rfl, h2⟩
  have H9 := Lib.hid (H0.out.trans h2)
  obtain ⟨-, -, -, -, c19, -⟩ := h2.1.own
  simp only at c19
  clear h2 HC1 H0
  go_wp2_with fail
  go_ret
  exact ⟨rfl, H9.out⟩
set_option maxRecDepth 100000 in
set_option maxHeartbeats 1000000 in
theorem push_step_2 {w : World} {mb : Nat} {T : TypeId} {l : Lay} {k : Int} {v : Int} {t b x : Int} {gt : Bool} {bb g : Nat} {xs : List Int} {tp r : Nat} (hG : Geo l k tp r) (h : PB w mb T l k ⟨2, t, b, x, false, gt⟩ [.int .i64 v]) (hb : Bnk w bb g xs) (hne : ¬ mb = g ∧ ¬ mb = bb) (hbd : 0 ≤ b ∧ b ≤ 1000000) :
    Calls Try.prog 45 #[.pointer (some ⟨mb, 0, none⟩), .pointer (some ⟨bb, 0, none⟩)] w fun e w' => e = .returned (.bool false) ∧ DSt T l k mb bb g ⟨3, t, b, x, false, gt⟩ [.int .i64 v] (bput xs (slot tp r b) v) w w' := by
  have hix : ∀ w, (Instr.index 149 (.agg #[.func (.func 83) #[] #[], .func (.func 84) #[] #[], .func (.func 85) #[] #[], .func (.func 86) #[] #[]]) (.int .i64 2)).run Try.prog w = .ok (.func (.func 85) #[] #[]) w := fun w => by
    simp [Instr.index, go_sem, run_underlying Try.underlying149]
  have HN := Lib.hid (dnext (a := 2) (by omega) h)
  have HD0 := fun (w1 : World) (h1 : PB w1 mb T l k ⟨2 + 1, t, b, x, false, gt⟩ [.int .i64 v]) (hU : Upd (fun i => i = mb) w w1) => (show DSt T l k mb bb g ⟨3, t, b, x, false, gt⟩ [.int .i64 v] xs w w1 from
    ⟨(by rw [show ((2 : Int) + 1) = 3 by decide] at h1; exact h1), hb.upd hU (fun e => hne.2 e.symm) (fun e => hne.1 e.symm), hU.wide (fun _ _ e => .inr e)⟩)
  have HC := fun (w1 : World) (h1 : DSt T l k mb bb g ⟨3, t, b, x, false, gt⟩ [.int .i64 v] xs w w1) => Lib.hid (push_put hG h1.1 h1.2.1 hne hbd)
  clear h hb hne hG
  go_enter Try.func45, Try.ntmps45
  go_wp2_with fail
  refine HN.out.mono ?_
  rintro e w1 ⟨rfl, h1, hU⟩
  have H0 := Lib.hid (HD0 w1 h1 hU)
  have HC1 := HC w1 H0.out
  clear h1 hU HN HC HD0
  go_wp2_with fail
  refine HC1.out.mono ?_
  rintro e w2 ⟨rfl, h2⟩
  have H9 := Lib.hid (H0.out.trans h2)
  obtain ⟨-, -, -, -, c19, -⟩ := h2.1.own
  simp only at c19
  clear h2 HC1 H0
  go_wp2_with fail
  go_ret
  exact ⟨rfl, H9.out⟩
set_option maxRecDepth 100000 in
set_option maxHeartbeats 1000000 in
theorem push_step_3 {w : World} {mb : Nat} {T : TypeId} {l : Lay} {k : Int} {v : Int} {t b x : Int} {gt : Bool} {bb g : Nat} {xs : List Int} {tp r : Nat} (hG : Geo l k tp r) (h : PB w mb T l k ⟨3, t, b, x, false, gt⟩ [.int .i64 v]) (hb : Bnk w bb g xs) (hne : ¬ mb = g ∧ ¬ mb = bb) (hbd : -1 ≤ b ∧ b ≤ 1000000) :
    Calls Try.prog 45 #[.pointer (some ⟨mb, 0, none⟩), .pointer (some ⟨bb, 0, none⟩)] w fun e w' => e = .returned (.bool true) ∧ DSt T l k mb bb g ⟨4, t, b, x, true, true⟩ [.int .i64 v] (bput xs ((tp : Int) + 1) (b + 1)) w w' := by
  have hix : ∀ w, (Instr.index 149 (.agg #[.func (.func 83) #[] #[], .func (.func 84) #[] #[], .func (.func 85) #[] #[], .func (.func 86) #[] #[]]) (.int .i64 3)).run Try.prog w = .ok (.func (.func 86) #[] #[]) w := fun w => by
    simp [Instr.index, go_sem, run_underlying Try.underlying149]
  have HN := Lib.hid (dnext (a := 3) (by omega) h)
  have HD0 := fun (w1 : World) (h1 : PB w1 mb T l k ⟨3 + 1, t, b, x, false, gt⟩ [.int .i64 v]) (hU : Upd (fun i => i = mb) w w1) => (show DSt T l k mb bb g ⟨4, t, b, x, false, gt⟩ [.int .i64 v] xs w w1 from
    ⟨(by rw [show ((3 : Int) + 1) = 4 by decide] at h1; exact h1), hb.upd hU (fun e => hne.2 e.symm) (fun e => hne.1 e.symm), hU.wide (fun _ _ e => .inr e)⟩)
  have HC := fun (w1 : World) (h1 : DSt T l k mb bb g ⟨4, t, b, x, false, gt⟩ [.int .i64 v] xs w w1) => Lib.hid (push_last hG h1.1 h1.2.1 hne hbd)
  clear h hb hne hG
  go_enter Try.func45, Try.ntmps45
  go_wp2_with fail
  refine HN.out.mono ?_
  rintro e w1 ⟨rfl, h1, hU⟩
  have H0 := Lib.hid (HD0 w1 h1 hU)
  have HC1 := HC w1 H0.out
  clear h1 hU HN HC HD0
  go_wp2_with fail
  refine HC1.out.mono ?_
  rintro e w2 ⟨rfl, h2⟩
  have H9 := Lib.hid (H0.out.trans h2)
  obtain ⟨-, -, -, -, c19, -⟩ := h2.1.own
  simp only at c19
  clear h2 HC1 H0
  go_wp2_with fail
  go_ret
  exact ⟨rfl, H9.out⟩
set_option maxRecDepth 100000 in
theorem push_step_d {w : World} {mb : Nat} {T : TypeId} {l : Lay} {k : Int} {v : Int} {a t b x : Int} {gt : Bool} {bb g : Nat} {xs : List Int} (h : PB w mb T l k ⟨a, t, b, x, true, gt⟩ [.int .i64 v]) (hb : Bnk w bb g xs) :
    Calls Try.prog 45 #[.pointer (some ⟨mb, 0, none⟩), .pointer (some ⟨bb, 0, none⟩)] w fun e w' => e = .returned (.bool true) ∧ DSt T l k mb bb g ⟨a, t, b, x, true, gt⟩ [.int .i64 v] xs w w' := by
  have HN := Lib.hid (dnext_done h)
  have H9 : Hid (DSt T l k mb bb g ⟨a, t, b, x, true, gt⟩ [.int .i64 v] xs w w) := Lib.hid ⟨h, hb, Upd.refl _ _⟩
  obtain ⟨-, -, -, -, c19, -⟩ := h.own
  simp only at c19
  clear h hb
  go_enter Try.func45, Try.ntmps45
  go_wp2_with fail
  refine HN.out.mono ?_
  rintro e w1 ⟨rfl, rfl⟩
  clear HN
  go_wp2_with fail
  go_ret
  exact ⟨rfl, H9.out⟩
set_option maxRecDepth 100000 in
set_option maxHeartbeats 2000000 in
theorem NewPush_any (l : Lay) (k : Int) (v : Int) (w : World) : Calls Try.prog 14 #[l.val, .int .i64 k, .int .i64 v] w fun e w' => e = .returned (.agg (PL l k ⟨0, 0, 0, 0, false, false⟩ [.int .i64 v]).toArray) ∧ Kept w w' := by
  obtain ⟨verts, arcs, workers, room, res, lex, hh, flag, pending, ask, count, sense, deques, size⟩ := l
  simp only [Lay.val, Lay.vals, PL]
  have HL : Hid (Blk ((w.alloc (.cells #[.int .i64 verts, .int .i64 arcs, .int .i64 workers, .int .i64 room, .int .i64 res, .int .i64 lex, .int .i64 hh, .int .i64 flag, .int .i64 pending, .int .i64 ask, .int .i64 count, .int .i64 sense, .int .i64 deques, .int .i64 size] 24)).alloc (.cells #[.int .i64 0, .int .i64 0, .int .i64 0, .int .i64 0, .int .i64 0, .int .i64 0, .int .i64 0, .int .i64 0, .int .i64 0, .int .i64 0, .int .i64 0, .int .i64 0, .int .i64 0, .int .i64 0, .int .i64 0, .int .i64 0, .int .i64 0, .int .i64 0, .int .i64 0, .bool false, .bool false, .int .i64 0] 48)) w.heap.size #[.int .i64 verts, .int .i64 arcs, .int .i64 workers, .int .i64 room, .int .i64 res, .int .i64 lex, .int .i64 hh, .int .i64 flag, .int .i64 pending, .int .i64 ask, .int .i64 count, .int .i64 sense, .int .i64 deques, .int .i64 size] 24) := Lib.hid ((Blk.new w _ _).alloc _)
  have HZ : Hid (Blk ((w.alloc (.cells #[.int .i64 verts, .int .i64 arcs, .int .i64 workers, .int .i64 room, .int .i64 res, .int .i64 lex, .int .i64 hh, .int .i64 flag, .int .i64 pending, .int .i64 ask, .int .i64 count, .int .i64 sense, .int .i64 deques, .int .i64 size] 24)).alloc (.cells #[.int .i64 0, .int .i64 0, .int .i64 0, .int .i64 0, .int .i64 0, .int .i64 0, .int .i64 0, .int .i64 0, .int .i64 0, .int .i64 0, .int .i64 0, .int .i64 0, .int .i64 0, .int .i64 0, .int .i64 0, .int .i64 0, .int .i64 0, .int .i64 0, .int .i64 0, .bool false, .bool false, .int .i64 0] 48)) (w.heap.size + 1) #[.int .i64 0, .int .i64 0, .int .i64 0, .int .i64 0, .int .i64 0, .int .i64 0, .int .i64 0, .int .i64 0, .int .i64 0, .int .i64 0, .int .i64 0, .int .i64 0, .int .i64 0, .int .i64 0, .int .i64 0, .int .i64 0, .int .i64 0, .int .i64 0, .int .i64 0, .bool false, .bool false, .int .i64 0] 48) := Lib.hid (by
    have h := Blk.new (w.alloc (.cells #[.int .i64 verts, .int .i64 arcs, .int .i64 workers, .int .i64 room, .int .i64 res, .int .i64 lex, .int .i64 hh, .int .i64 flag, .int .i64 pending, .int .i64 ask, .int .i64 count, .int .i64 sense, .int .i64 deques, .int .i64 size] 24)) #[.int .i64 0, .int .i64 0, .int .i64 0, .int .i64 0, .int .i64 0, .int .i64 0, .int .i64 0, .int .i64 0, .int .i64 0, .int .i64 0, .int .i64 0, .int .i64 0, .int .i64 0, .int .i64 0, .int .i64 0, .int .i64 0, .int .i64 0, .int .i64 0, .int .i64 0, .bool false, .bool false, .int .i64 0] 48
    rwa [World.size_alloc] at h)
  have HK : Hid (Kept w ((w.alloc (.cells #[.int .i64 verts, .int .i64 arcs, .int .i64 workers, .int .i64 room, .int .i64 res, .int .i64 lex, .int .i64 hh, .int .i64 flag, .int .i64 pending, .int .i64 ask, .int .i64 count, .int .i64 sense, .int .i64 deques, .int .i64 size] 24)).alloc (.cells #[.int .i64 0, .int .i64 0, .int .i64 0, .int .i64 0, .int .i64 0, .int .i64 0, .int .i64 0, .int .i64 0, .int .i64 0, .int .i64 0, .int .i64 0, .int .i64 0, .int .i64 0, .int .i64 0, .int .i64 0, .int .i64 0, .int .i64 0, .int .i64 0, .int .i64 0, .bool false, .bool false, .int .i64 0] 48))) := Lib.hid (((Upd.refl _ _).alloc _).alloc _)
  have HS : Hid (w.heap.size ≤ w.heap.size + 1) := Lib.hid (by omega)
  go_enter Try.func14, Try.ntmps14
  go_upto_region 1 with (fail)
  generalize ((w.alloc (.cells #[.int .i64 verts, .int .i64 arcs, .int .i64 workers, .int .i64 room, .int .i64 res, .int .i64 lex, .int .i64 hh, .int .i64 flag, .int .i64 pending, .int .i64 ask, .int .i64 count, .int .i64 sense, .int .i64 deques, .int .i64 size] 24)).alloc (.cells #[.int .i64 0, .int .i64 0, .int .i64 0, .int .i64 0, .int .i64 0, .int .i64 0, .int .i64 0, .int .i64 0, .int .i64 0, .int .i64 0, .int .i64 0, .int .i64 0, .int .i64 0, .int .i64 0, .int .i64 0, .int .i64 0, .int .i64 0, .int .i64 0, .int .i64 0, .bool false, .bool false, .int .i64 0] 48)) = W2 at HL HZ HK ⊢
  generalize w.heap.size + 1 = ob at HZ HS ⊢
  have hra : W2.rangeAt w.heap.size 0 [.int .i64 verts, .int .i64 arcs, .int .i64 workers, .int .i64 room, .int .i64 res, .int .i64 lex, .int .i64 hh, .int .i64 flag, .int .i64 pending, .int .i64 ask, .int .i64 count, .int .i64 sense, .int .i64 deques, .int .i64 size] := by
    intro j v hv
    rw [Nat.zero_add, HL.out.cell j]
    simpa using hv
  have hth : W2.there ob 0 22 := by
    intro j hj
    rw [Nat.zero_add, HZ.out.cell j]
    exact ⟨by rw [Array.getElem?_eq_getElem (by simpa using hj)]; rfl, HZ.out.free j⟩
  have hz14 : (Try.prog.info? 24).map (·.size) = some 14 := by kernel_rfl
  have hzn : (Try.prog.info? 48).map (·.size) = some 22 := by kernel_rfl
  obtain ⟨W3, hW3⟩ : ∃ W3, W2.setCells ob 0 [.int .i64 verts, .int .i64 arcs, .int .i64 workers, .int .i64 room, .int .i64 res, .int .i64 lex, .int .i64 hh, .int .i64 flag, .int .i64 pending, .int .i64 ask, .int .i64 count, .int .i64 sense, .int .i64 deques, .int .i64 size, .int .i64 k, .int .i64 0, .int .i64 0, .int .i64 0, .int .i64 0, .bool false, .bool false, .int .i64 v] = W3 := ⟨_, rfl⟩
  have hr3 : W3.rangeAt ob 0 [.int .i64 verts, .int .i64 arcs, .int .i64 workers, .int .i64 room, .int .i64 res, .int .i64 lex, .int .i64 hh, .int .i64 flag, .int .i64 pending, .int .i64 ask, .int .i64 count, .int .i64 sense, .int .i64 deques, .int .i64 size, .int .i64 k, .int .i64 0, .int .i64 0, .int .i64 0, .int .i64 0, .bool false, .bool false, .int .i64 v] := by rw [← hW3]; exact World.rangeAt_setCells_same W2 ob 0 _ hth
  have HKF : Hid (Kept w W3) := Lib.hid (HK.out.then (by rw [← hW3]; exact upd_setCells ob _ 0 W2) (fun i hi e => by have := HS.out; omega))
  have hlv := run_loadVar_mid (P := Try.prog) W3 ob 0 48 [.int .i64 verts, .int .i64 arcs, .int .i64 workers, .int .i64 room, .int .i64 res, .int .i64 lex, .int .i64 hh, .int .i64 flag, .int .i64 pending, .int .i64 ask, .int .i64 count, .int .i64 sense, .int .i64 deques, .int .i64 size, .int .i64 k, .int .i64 0, .int .i64 0, .int .i64 0, .int .i64 0, .bool false, .bool false, .int .i64 v] _ hr3 Try.underlying48 rfl hzn
  clear HL HZ hr3 HK
  go_wp2_with (first | (refine wpList_load_mid rfl _ _ rfl w.heap.size 0 rfl [.int .i64 verts, .int .i64 arcs, .int .i64 workers, .int .i64 room, .int .i64 res, .int .i64 lex, .int .i64 hh, .int .i64 flag, .int .i64 pending, .int .i64 ask, .int .i64 count, .int .i64 sense, .int .i64 deques, .int .i64 size] _ hra Try.underlying24 rfl hz14 ?_) | (refine wpList_store_mid rfl _ _ _ rfl ob 0 #[.int .i64 verts, .int .i64 arcs, .int .i64 workers, .int .i64 room, .int .i64 res, .int .i64 lex, .int .i64 hh, .int .i64 flag, .int .i64 pending, .int .i64 ask, .int .i64 count, .int .i64 sense, .int .i64 deques, .int .i64 size, .int .i64 k, .int .i64 0, .int .i64 0, .int .i64 0, .int .i64 0, .bool false, .bool false, .int .i64 v] rfl rfl hth hzn (all_oneCell_toArray (cs := [.int .i64 verts, .int .i64 arcs, .int .i64 workers, .int .i64 room, .int .i64 res, .int .i64 lex, .int .i64 hh, .int .i64 flag, .int .i64 pending, .int .i64 ask, .int .i64 count, .int .i64 sense, .int .i64 deques, .int .i64 size, .int .i64 k, .int .i64 0, .int .i64 0, .int .i64 0, .int .i64 0, .bool false, .bool false, .int .i64 v]) (by simp [Value.oneCell'])) ?_; simp only [hW3]) | fail)
  clear hth hra hW3
  exact bodyPost_ret (v := .agg #[.int .i64 verts, .int .i64 arcs, .int .i64 workers, .int .i64 room, .int .i64 res, .int .i64 lex, .int .i64 hh, .int .i64 flag, .int .i64 pending, .int .i64 ask, .int .i64 count, .int .i64 sense, .int .i64 deques, .int .i64 size, .int .i64 k, .int .i64 0, .int .i64 0, .int .i64 0, .int .i64 0, .bool false, .bool false, .int .i64 v]) (by simp [results, Try.results14, hlv, asAddr, Act.put]) rfl ⟨rfl, HKF.out⟩
/-- A push's step. -/
theorem push_step {w : World} {mb : Nat} {T : TypeId} {l : Lay} {k v : Int} {bb g : Nat} {xs : List Int} {tp r : Nat} (m : DM) (hG : Geo l k tp r) (h : PB w mb T l k m [.int .i64 v]) (hb : Bnk w bb g xs) (hne : ¬ mb = g ∧ ¬ mb = bb) (ha : m.done = false → 0 ≤ m.a ∧ m.a ≤ 3) (hbd : -1 ≤ m.b ∧ m.b ≤ 1000000) (hb0 : m.a = 2 → 0 ≤ m.b) (htd : 0 ≤ bget xs (tp : Int) ∧ bget xs (tp : Int) ≤ 1000000) :
    Calls Try.prog 45 #[.pointer (some ⟨mb, 0, none⟩), .pointer (some ⟨bb, 0, none⟩)] w fun e w' => e = .returned (.bool (pushS tp r v m xs).1.done) ∧ DSt T l k mb bb g (pushS tp r v m xs).1 [.int .i64 v] (pushS tp r v m xs).2 w w' := by
  obtain ⟨a, t, b, x, dn, gt⟩ := m
  cases dn with
  | true => exact push_step_d h hb
  | false =>
    simp only at ha hbd hb0
    have h4 : a = 0 ∨ a = 1 ∨ a = 2 ∨ a = 3 := by have := ha (by simp); omega
    rcases h4 with rfl | rfl | rfl | rfl
    · exact push_step_0 hG h hb hne
    · by_cases hq : ((2 ^ r : Nat) : Int) ≤ b - bget xs (tp : Int)
      · rw [show pushS tp r v ⟨1, t, b, x, false, gt⟩ xs = (⟨2, bget xs (tp : Int), b, x, true, false⟩, xs) by simp only [pushS]; rw [if_pos hq]; rfl]
        exact push_step_1f hG h hb hne hbd htd hq
      · rw [show pushS tp r v ⟨1, t, b, x, false, gt⟩ xs = (⟨2, bget xs (tp : Int), b, x, false, gt⟩, xs) by simp only [pushS]; rw [if_neg hq]; rfl]
        exact push_step_1t hG h hb hne hbd htd hq
    · exact push_step_2 hG h hb hne ⟨hb0 rfl, hbd.2⟩
    · exact push_step_3 hG h hb hne hbd
theorem push_ok {w : World} {mb : Nat} {T : TypeId} {l : Lay} {k v : Int} {a t b x : Int} {dn gt : Bool} (h : PB w mb T l k ⟨a, t, b, x, dn, gt⟩ [.int .i64 v]) :
    Calls Try.prog 21 #[.pointer (some ⟨mb, 0, none⟩)] w fun e w' => e = .returned (.bool (dn && gt)) ∧ w = w' := by
  obtain ⟨-, -, -, -, c19, c20⟩ := h.own
  simp only at c19 c20
  clear h
  cases dn <;> cases gt
  all_goals
    go_enter Try.func21, Try.ntmps21
    go_wp2_with fail
    go_ret
    exact ⟨rfl, rfl⟩
end Go.Proofs.Ytdgkemadhooogaa
