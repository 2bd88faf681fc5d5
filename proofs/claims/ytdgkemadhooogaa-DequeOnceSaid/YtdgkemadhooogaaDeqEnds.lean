/- The law 11: ends, alone (printed by gen_deq.py). -/
import Derived.Test.YtdgkemadhooogaaDeqRun
import Derived.Test.YtdgkemadhooogaaBankNew
import Derived.Deep.RegionHeld3
import Derived.Deep.CutRange
import Derived.Handy
import Derived.Deep.MidRow
import Derived.StillTailTactics
import Derived.Deep.MidRow
namespace Go.Proofs.Ytdgkemadhooogaa
set_option linter.unusedVariables false
set_option linter.unusedSimpArgs false
open Go.RowKit
attribute [local go_sem] cell?_ext

set_option maxRecDepth 100000 in
set_option maxHeartbeats 2000000 in
theorem ends_push {w : World} {mb bb g : Nat} {l : Lay} {k : Int} {tp r : Nat} {v : Int} {s s' : KS} {N : Nat} (hG : Geo l k tp r) (h : PB w mb ((.push v) : Kd).T l k s.m (((.push v) : Kd).ex s.lo)) (hb : Bnk w bb g s.xs) (hne : ¬ mb = g ∧ ¬ mb = bb) (hA : Alone tp r (.push v) s N s') (hN : N ≤ 9) :
    Calls Try.prog 48 #[.iface 36 (.pointer (some ⟨mb, 0, none⟩)), .pointer (some ⟨bb, 0, none⟩)] w fun e w' => e = .returned (.int .i64 (N : Nat)) ∧ KSt (.push v) l k mb bb g s' w w' := by
  have HS := fun (i : Nat) (hi : i < N) (w' : World) (h' : KSt (.push v) l k mb bb g (krun tp r (.push v) s i) w w') => Lib.hid (kstep_any (.push v) (krun tp r (.push v) s i) hG h'.1 h'.2.1 hne (hA.inv i hi))
  have H0 : Hid (KSt (.push v) l k mb bb g (krun tp r (.push v) s 0) w w) := Lib.hid (KSt.refl h hb)
  have HD := Lib.hid hA.don
  have HF := Lib.hid hA.fin
  have h1N := hA.one
  clear h hb hne hA hG
  go_enter Try.func48, Try.ntmps48
  go_wp2_with fail
  go_loopw [5] (fun nx wr => ∃ i : Nat, nx = .int .i64 ((i + 1 : Nat) : Int) ∧ i < N ∧ Hid (KSt (.push v) l k mb bb g (krun tp r (.push v) s i) w wr)) (fun nx _ => 10 - (intOf nx).toNat)
  case atStart => exact ⟨0, rfl, by omega, H0⟩
  case round =>
    clear H0
    obtain ⟨i, rfl, hi, HK⟩ := hrel
    have d1 : ((i + 1 : Nat) : Int) < 10 := by omega
    have hw : wrap64 (((i + 1 : Nat) : Int) + 1) = ((i + 1 + 1 : Nat) : Int) := by unfold wrap64; omega
    have HS1 := HS i hi wr HK.out
    have hdn := HD.out i hi
    generalize hz : (krun tp r (.push v) s (i + 1)).m.done = z at hdn
    have HZ : Hid ((kstep tp r (.push v) (krun tp r (.push v) s i)).m.done = z) := Lib.hid hz
    rw [HZ.out] at HS1
    clear hz
    go_wp2_with fail
    refine HS1.out.mono ?_
    rintro e w2 ⟨rfl, hk⟩
    have HK2 : Hid (KSt (.push v) l k mb bb g (krun tp r (.push v) s (i + 1)) w w2) := Lib.hid (HK.out.trans hk)
    clear hk HS1 HZ HK HS
    by_cases q : i + 1 = N
    · have hz2 : z = true := by rw [hdn]; simpa using q
      subst hz2
      have HK9 : Hid (KSt (.push v) l k mb bb g s' w w2) := Lib.hid (by rw [← HF.out, ← q]; exact HK2.out)
      clear hdn
      go_wp2_with fail
      go_ret
      exact ⟨by rw [← q]; rfl, HK9.out⟩
    · have hz2 : z = false := by rw [hdn]; simpa using q
      subst hz2
      clear hdn
      go_wp2_with fail
      go_roundw
      case rel => exact ⟨i + 1, by simp, by omega, HK2⟩
      case measure => simp [intOf]; omega
set_option maxRecDepth 100000 in
set_option maxHeartbeats 2000000 in
theorem ends_pop {w : World} {mb bb g : Nat} {l : Lay} {k : Int} {tp r : Nat} {s s' : KS} {N : Nat} (hG : Geo l k tp r) (h : PB w mb (.pop : Kd).T l k s.m ((.pop : Kd).ex s.lo)) (hb : Bnk w bb g s.xs) (hne : ¬ mb = g ∧ ¬ mb = bb) (hA : Alone tp r .pop s N s') (hN : N ≤ 9) :
    Calls Try.prog 48 #[.iface 37 (.pointer (some ⟨mb, 0, none⟩)), .pointer (some ⟨bb, 0, none⟩)] w fun e w' => e = .returned (.int .i64 (N : Nat)) ∧ KSt .pop l k mb bb g s' w w' := by
  have HS := fun (i : Nat) (hi : i < N) (w' : World) (h' : KSt .pop l k mb bb g (krun tp r .pop s i) w w') => Lib.hid (kstep_any .pop (krun tp r .pop s i) hG h'.1 h'.2.1 hne (hA.inv i hi))
  have H0 : Hid (KSt .pop l k mb bb g (krun tp r .pop s 0) w w) := Lib.hid (KSt.refl h hb)
  have HD := Lib.hid hA.don
  have HF := Lib.hid hA.fin
  have h1N := hA.one
  clear h hb hne hA hG
  go_enter Try.func48, Try.ntmps48
  go_wp2_with fail
  go_loopw [5] (fun nx wr => ∃ i : Nat, nx = .int .i64 ((i + 1 : Nat) : Int) ∧ i < N ∧ Hid (KSt .pop l k mb bb g (krun tp r .pop s i) w wr)) (fun nx _ => 10 - (intOf nx).toNat)
  case atStart => exact ⟨0, rfl, by omega, H0⟩
  case round =>
    clear H0
    obtain ⟨i, rfl, hi, HK⟩ := hrel
    have d1 : ((i + 1 : Nat) : Int) < 10 := by omega
    have hw : wrap64 (((i + 1 : Nat) : Int) + 1) = ((i + 1 + 1 : Nat) : Int) := by unfold wrap64; omega
    have HS1 := HS i hi wr HK.out
    have hdn := HD.out i hi
    generalize hz : (krun tp r .pop s (i + 1)).m.done = z at hdn
    have HZ : Hid ((kstep tp r .pop (krun tp r .pop s i)).m.done = z) := Lib.hid hz
    rw [HZ.out] at HS1
    clear hz
    go_wp2_with fail
    refine HS1.out.mono ?_
    rintro e w2 ⟨rfl, hk⟩
    have HK2 : Hid (KSt .pop l k mb bb g (krun tp r .pop s (i + 1)) w w2) := Lib.hid (HK.out.trans hk)
    clear hk HS1 HZ HK HS
    by_cases q : i + 1 = N
    · have hz2 : z = true := by rw [hdn]; simpa using q
      subst hz2
      have HK9 : Hid (KSt .pop l k mb bb g s' w w2) := Lib.hid (by rw [← HF.out, ← q]; exact HK2.out)
      clear hdn
      go_wp2_with fail
      go_ret
      exact ⟨by rw [← q]; rfl, HK9.out⟩
    · have hz2 : z = false := by rw [hdn]; simpa using q
      subst hz2
      clear hdn
      go_wp2_with fail
      go_roundw
      case rel => exact ⟨i + 1, by simp, by omega, HK2⟩
      case measure => simp [intOf]; omega
set_option maxRecDepth 100000 in
set_option maxHeartbeats 2000000 in
theorem ends_steal {w : World} {mb bb g : Nat} {l : Lay} {k : Int} {tp r : Nat} {s s' : KS} {N : Nat} (hG : Geo l k tp r) (h : PB w mb (.steal : Kd).T l k s.m ((.steal : Kd).ex s.lo)) (hb : Bnk w bb g s.xs) (hne : ¬ mb = g ∧ ¬ mb = bb) (hA : Alone tp r .steal s N s') (hN : N ≤ 9) :
    Calls Try.prog 48 #[.iface 38 (.pointer (some ⟨mb, 0, none⟩)), .pointer (some ⟨bb, 0, none⟩)] w fun e w' => e = .returned (.int .i64 (N : Nat)) ∧ KSt .steal l k mb bb g s' w w' := by
  have HS := fun (i : Nat) (hi : i < N) (w' : World) (h' : KSt .steal l k mb bb g (krun tp r .steal s i) w w') => Lib.hid (kstep_any .steal (krun tp r .steal s i) hG h'.1 h'.2.1 hne (hA.inv i hi))
  have H0 : Hid (KSt .steal l k mb bb g (krun tp r .steal s 0) w w) := Lib.hid (KSt.refl h hb)
  have HD := Lib.hid hA.don
  have HF := Lib.hid hA.fin
  have h1N := hA.one
  clear h hb hne hA hG
  go_enter Try.func48, Try.ntmps48
  go_wp2_with fail
  go_loopw [5] (fun nx wr => ∃ i : Nat, nx = .int .i64 ((i + 1 : Nat) : Int) ∧ i < N ∧ Hid (KSt .steal l k mb bb g (krun tp r .steal s i) w wr)) (fun nx _ => 10 - (intOf nx).toNat)
  case atStart => exact ⟨0, rfl, by omega, H0⟩
  case round =>
    clear H0
    obtain ⟨i, rfl, hi, HK⟩ := hrel
    have d1 : ((i + 1 : Nat) : Int) < 10 := by omega
    have hw : wrap64 (((i + 1 : Nat) : Int) + 1) = ((i + 1 + 1 : Nat) : Int) := by unfold wrap64; omega
    have HS1 := HS i hi wr HK.out
    have hdn := HD.out i hi
    generalize hz : (krun tp r .steal s (i + 1)).m.done = z at hdn
    have HZ : Hid ((kstep tp r .steal (krun tp r .steal s i)).m.done = z) := Lib.hid hz
    rw [HZ.out] at HS1
    clear hz
    go_wp2_with fail
    refine HS1.out.mono ?_
    rintro e w2 ⟨rfl, hk⟩
    have HK2 : Hid (KSt .steal l k mb bb g (krun tp r .steal s (i + 1)) w w2) := Lib.hid (HK.out.trans hk)
    clear hk HS1 HZ HK HS
    by_cases q : i + 1 = N
    · have hz2 : z = true := by rw [hdn]; simpa using q
      subst hz2
      have HK9 : Hid (KSt .steal l k mb bb g s' w w2) := Lib.hid (by rw [← HF.out, ← q]; exact HK2.out)
      clear hdn
      go_wp2_with fail
      go_ret
      exact ⟨by rw [← q]; rfl, HK9.out⟩
    · have hz2 : z = false := by rw [hdn]; simpa using q
      subst hz2
      clear hdn
      go_wp2_with fail
      go_roundw
      case rel => exact ⟨i + 1, by simp, by omega, HK2⟩
      case measure => simp [intOf]; omega
theorem alone_push {w : World} {mb bb g : Nat} {l : Lay} {k : Int} {tp r : Nat} {v : Int} {s s' : KS} {N : Nat} (hG : Geo l k tp r) (h : PB w mb ((.push v) : Kd).T l k s.m (((.push v) : Kd).ex s.lo)) (hb : Bnk w bb g s.xs) (hne : ¬ mb = g ∧ ¬ mb = bb) (hA : Alone tp r (.push v) s N s') (hN : N ≤ 9) :
    Calls Try.prog 20 #[.iface 36 (.pointer (some ⟨mb, 0, none⟩)), .pointer (some ⟨bb, 0, none⟩)] w fun e w' => e = .returned (.bool true) ∧ KSt (.push v) l k mb bb g s' w w' := by
  have HE := Lib.hid (ends_push hG h hb hne hA hN)
  have h1 := hA.one
  have d1 : decide ((0 : Int) < (N : Int)) = true := by simp; omega
  have d2 : (0 : Int) < (N : Int) := by omega
  clear h hb hne hA hG
  go_enter Try.func20, Try.ntmps20
  go_wp2_with fail
  refine HE.out.mono ?_
  rintro e w1 ⟨rfl, hk⟩
  have H9 := Lib.hid hk
  clear hk HE
  go_wp2_with fail
  go_ret
  exact ⟨by rw [show true = decide (0 < N) by simp; omega]; rfl, H9.out⟩
theorem alone_pop {w : World} {mb bb g : Nat} {l : Lay} {k : Int} {tp r : Nat} {s s' : KS} {N : Nat} (hG : Geo l k tp r) (h : PB w mb (.pop : Kd).T l k s.m ((.pop : Kd).ex s.lo)) (hb : Bnk w bb g s.xs) (hne : ¬ mb = g ∧ ¬ mb = bb) (hA : Alone tp r .pop s N s') (hN : N ≤ 9) :
    Calls Try.prog 20 #[.iface 37 (.pointer (some ⟨mb, 0, none⟩)), .pointer (some ⟨bb, 0, none⟩)] w fun e w' => e = .returned (.bool true) ∧ KSt .pop l k mb bb g s' w w' := by
  have HE := Lib.hid (ends_pop hG h hb hne hA hN)
  have h1 := hA.one
  have d1 : decide ((0 : Int) < (N : Int)) = true := by simp; omega
  have d2 : (0 : Int) < (N : Int) := by omega
  clear h hb hne hA hG
  go_enter Try.func20, Try.ntmps20
  go_wp2_with fail
  refine HE.out.mono ?_
  rintro e w1 ⟨rfl, hk⟩
  have H9 := Lib.hid hk
  clear hk HE
  go_wp2_with fail
  go_ret
  exact ⟨by rw [show true = decide (0 < N) by simp; omega]; rfl, H9.out⟩
theorem alone_steal {w : World} {mb bb g : Nat} {l : Lay} {k : Int} {tp r : Nat} {s s' : KS} {N : Nat} (hG : Geo l k tp r) (h : PB w mb (.steal : Kd).T l k s.m ((.steal : Kd).ex s.lo)) (hb : Bnk w bb g s.xs) (hne : ¬ mb = g ∧ ¬ mb = bb) (hA : Alone tp r .steal s N s') (hN : N ≤ 9) :
    Calls Try.prog 20 #[.iface 38 (.pointer (some ⟨mb, 0, none⟩)), .pointer (some ⟨bb, 0, none⟩)] w fun e w' => e = .returned (.bool true) ∧ KSt .steal l k mb bb g s' w w' := by
  have HE := Lib.hid (ends_steal hG h hb hne hA hN)
  have h1 := hA.one
  have d1 : decide ((0 : Int) < (N : Int)) = true := by simp; omega
  have d2 : (0 : Int) < (N : Int) := by omega
  clear h hb hne hA hG
  go_enter Try.func20, Try.ntmps20
  go_wp2_with fail
  refine HE.out.mono ?_
  rintro e w1 ⟨rfl, hk⟩
  have H9 := Lib.hid hk
  clear hk HE
  go_wp2_with fail
  go_ret
  exact ⟨by rw [show true = decide (0 < N) by simp; omega]; rfl, H9.out⟩
/-- A plan, and its bank. -/
def BankEnd (l : Lay) (S : Nat) (w : World) (e : Ending) (w' : World) : Prop := ∃ bb g, e = .returned (.tuple #[l.val, .pointer (some ⟨bb, 0, none⟩), .bool true]) ∧ Bnk w' bb g (List.replicate S 0) ∧ w.heap.size ≤ bb ∧ w.heap.size ≤ g ∧ Kept w w'
set_option maxRecDepth 100000 in
set_option maxHeartbeats 4000000 in
theorem bank_any (v k : Int) (w : World) (hm : May v 0 k) (l : Lay) (hl : planOf v 0 k = l) (S : Nat) (hS : l.size = (S : Int)) (hS2 : S ≤ 524288) :
    Calls Try.prog 11 #[.int .i64 v, .int .i64 k] w (BankEnd l S w) := by
  have HP := fun w => Lib.hid (Plan_ok v 0 k w hm)
  rw [hl] at HP
  have HN := fun w => Lib.hid (New_ok S w hS2)
  obtain ⟨verts, arcs, workers, room, res, lex, hh, flag, pending, ask, count, sense, deques, size⟩ := l
  simp only at hS
  subst hS
  simp only [Lay.val, Lay.vals] at HP
  unfold BankEnd
  simp only [Lay.val, Lay.vals]
  have HZ := Lib.hid (Blk.new w #[.int .i64 0, .int .i64 0, .int .i64 0, .int .i64 0, .int .i64 0, .int .i64 0, .int .i64 0, .int .i64 0, .int .i64 0, .int .i64 0, .int .i64 0, .int .i64 0, .int .i64 0, .int .i64 0] 24)
  have HK := Lib.hid ((Upd.refl (fun _ => False) w).alloc (.cells #[.int .i64 0, .int .i64 0, .int .i64 0, .int .i64 0, .int .i64 0, .int .i64 0, .int .i64 0, .int .i64 0, .int .i64 0, .int .i64 0, .int .i64 0, .int .i64 0, .int .i64 0, .int .i64 0] 24))
  have hz14 : (Try.prog.info? 24).map (·.size) = some 14 := by kernel_rfl
  have HO : Hid (w.heap.size ≤ w.heap.size) := Lib.hid (Nat.le_refl _)
  clear hm hl
  go_enter Try.func11, Try.ntmps11
  go_wp2_with fail
  refine (HP _).out.mono ?_
  rintro e w1 ⟨rfl, hk⟩
  have HK1 : Hid (Kept w w1) := Lib.hid (HK.out.trans hk)
  have HZ1 := Lib.hid (HZ.out.kept hk)
  clear hk HK HZ HP
  have HL := Lib.hid (Blk.new w1 #[.int .i64 verts, .int .i64 arcs, .int .i64 workers, .int .i64 room, .int .i64 res, .int .i64 lex, .int .i64 hh, .int .i64 flag, .int .i64 pending, .int .i64 ask, .int .i64 count, .int .i64 sense, .int .i64 deques, .int .i64 (S : Int)] 24)
  have hA1 := (Upd.refl (fun _ => False) w1).alloc (.cells #[.int .i64 verts, .int .i64 arcs, .int .i64 workers, .int .i64 room, .int .i64 res, .int .i64 lex, .int .i64 hh, .int .i64 flag, .int .i64 pending, .int .i64 ask, .int .i64 count, .int .i64 sense, .int .i64 deques, .int .i64 (S : Int)] 24)
  have HK2 : Hid (Kept w (w1.alloc (.cells #[.int .i64 verts, .int .i64 arcs, .int .i64 workers, .int .i64 room, .int .i64 res, .int .i64 lex, .int .i64 hh, .int .i64 flag, .int .i64 pending, .int .i64 ask, .int .i64 count, .int .i64 sense, .int .i64 deques, .int .i64 (S : Int)] 24))) := Lib.hid (HK1.out.trans hA1)
  have HZ2 := Lib.hid (HZ1.out.kept hA1)
  generalize hob : w.heap.size = ob at HZ2 HO ⊢
  have HOB := Lib.hid hob
  clear hob hA1 HK1 HZ1
  go_upto_region 2 with (fail)
  generalize (w1.alloc (.cells #[.int .i64 verts, .int .i64 arcs, .int .i64 workers, .int .i64 room, .int .i64 res, .int .i64 lex, .int .i64 hh, .int .i64 flag, .int .i64 pending, .int .i64 ask, .int .i64 count, .int .i64 sense, .int .i64 deques, .int .i64 (S : Int)] 24)) = W2 at HL HK2 HZ2 ⊢
  generalize w1.heap.size = lb at HL ⊢
  have c13 : W2.cell? ⟨lb, 13, none⟩ = some (.int .i64 (S : Int)) := by rw [HL.out.cell]; rfl
  go_wp2_with fail
  refine (HN _).out.mono ?_
  rintro e w3 ⟨bb, g, rfl, hb, h1, h2, hk⟩
  have HK3 : Hid (Kept w w3) := Lib.hid (HK2.out.trans hk)
  have HL3 := Lib.hid (HL.out.kept hk)
  have HZ3 := Lib.hid (HZ2.out.kept hk)
  have HB3 := Lib.hid hb
  have HLE : Hid (w.heap.size ≤ bb ∧ w.heap.size ≤ g ∧ ¬ bb = ob ∧ ¬ g = ob) := Lib.hid (by
    have h3 := HK2.out.size
    have h4 := HZ2.out.lt
    have h5 := HOB.out
    omega)
  clear hk hb h1 h2 HK2 HL HZ2 HN c13
  have hra : w3.rangeAt lb 0 [.int .i64 verts, .int .i64 arcs, .int .i64 workers, .int .i64 room, .int .i64 res, .int .i64 lex, .int .i64 hh, .int .i64 flag, .int .i64 pending, .int .i64 ask, .int .i64 count, .int .i64 sense, .int .i64 deques, .int .i64 (S : Int)] := by
    intro j vv hv
    rw [Nat.zero_add, HL3.out.cell j]
    simpa using hv
  have hth : w3.there ob 0 14 := by
    intro j hj
    rw [Nat.zero_add, HZ3.out.cell j]
    exact ⟨by rw [Array.getElem?_eq_getElem (by simpa using hj)]; rfl, HZ3.out.free j⟩
  obtain ⟨W4, hW4⟩ : ∃ W4, w3.setCells ob 0 [.int .i64 verts, .int .i64 arcs, .int .i64 workers, .int .i64 room, .int .i64 res, .int .i64 lex, .int .i64 hh, .int .i64 flag, .int .i64 pending, .int .i64 ask, .int .i64 count, .int .i64 sense, .int .i64 deques, .int .i64 (S : Int)] = W4 := ⟨_, rfl⟩
  have hr4 : W4.rangeAt ob 0 [.int .i64 verts, .int .i64 arcs, .int .i64 workers, .int .i64 room, .int .i64 res, .int .i64 lex, .int .i64 hh, .int .i64 flag, .int .i64 pending, .int .i64 ask, .int .i64 count, .int .i64 sense, .int .i64 deques, .int .i64 (S : Int)] := by rw [← hW4]; exact World.rangeAt_setCells_same w3 ob 0 _ hth
  have hU4 : Upd (fun i => i = ob) w3 W4 := by rw [← hW4]; exact upd_setCells ob _ 0 w3
  have HKF : Hid (Kept w W4) := Lib.hid (HK3.out.then hU4 (fun i hi e => by have := HOB.out; omega))
  have HBF : Hid (Bnk W4 bb g (List.replicate S 0)) := Lib.hid (HB3.out.upd hU4 HLE.out.2.2.1 HLE.out.2.2.2)
  have hlv := run_loadVar_mid (P := Try.prog) W4 ob 0 24 [.int .i64 verts, .int .i64 arcs, .int .i64 workers, .int .i64 room, .int .i64 res, .int .i64 lex, .int .i64 hh, .int .i64 flag, .int .i64 pending, .int .i64 ask, .int .i64 count, .int .i64 sense, .int .i64 deques, .int .i64 (S : Int)] _ hr4 Try.underlying24 rfl hz14
  clear HL3 HZ3 hr4 HK3 hU4
  go_wp2_with (first | (refine wpList_load_mid rfl _ _ rfl lb 0 rfl [.int .i64 verts, .int .i64 arcs, .int .i64 workers, .int .i64 room, .int .i64 res, .int .i64 lex, .int .i64 hh, .int .i64 flag, .int .i64 pending, .int .i64 ask, .int .i64 count, .int .i64 sense, .int .i64 deques, .int .i64 (S : Int)] _ hra Try.underlying24 rfl hz14 ?_) | (refine wpList_store_mid rfl _ _ _ rfl ob 0 #[.int .i64 verts, .int .i64 arcs, .int .i64 workers, .int .i64 room, .int .i64 res, .int .i64 lex, .int .i64 hh, .int .i64 flag, .int .i64 pending, .int .i64 ask, .int .i64 count, .int .i64 sense, .int .i64 deques, .int .i64 (S : Int)] rfl rfl hth hz14 (all_oneCell_toArray (cs := [.int .i64 verts, .int .i64 arcs, .int .i64 workers, .int .i64 room, .int .i64 res, .int .i64 lex, .int .i64 hh, .int .i64 flag, .int .i64 pending, .int .i64 ask, .int .i64 count, .int .i64 sense, .int .i64 deques, .int .i64 (S : Int)]) (by simp [Value.oneCell'])) ?_; simp only [hW4]) | fail)
  clear hth hra hW4
  exact bodyPost_ret (v := .tuple #[.agg #[.int .i64 verts, .int .i64 arcs, .int .i64 workers, .int .i64 room, .int .i64 res, .int .i64 lex, .int .i64 hh, .int .i64 flag, .int .i64 pending, .int .i64 ask, .int .i64 count, .int .i64 sense, .int .i64 deques, .int .i64 (S : Int)], .pointer (some ⟨bb, 0, none⟩), .bool true]) (by simp [results, Try.results11, hlv, asAddr, Act.put]) rfl ⟨bb, g, rfl, HBF.out, HLE.out.1, HLE.out.2.1, HKF.out⟩
end Go.Proofs.Ytdgkemadhooogaa
