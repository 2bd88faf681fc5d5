/- The law CountAsk. -/
import Derived.Test.YtccjgbmbggbmgaaCountDoes
import Derived.Deep.RegionHeld3
namespace Go.Proofs.Ytccjgbmbggbmgaa
set_option linter.unusedVariables false
open Go.RowKit

theorem cop_of {e : List Value} (hf : fits [some .u8, some .i64, none] e) : ∃ x n again, e = [.int .u8 x, .int .i64 n, .bool again] ∧ 0 ≤ x ∧ x ≤ 255 := by
  obtain ⟨x1, u1, e1, h1, f1⟩ := fits_int hf
  obtain ⟨x2, u2, e2, h2, f2⟩ := fits_int f1
  obtain ⟨x3, u3, e3, f3⟩ := fits_bool f2
  exact ⟨x1, x2, x3, by rw [e1, e2, e3, fits_nil f3], (bounds_u8 h1).1, (bounds_u8 h1).2⟩
theorem flat40 : flatB Try.prog 40 [some .u8, some .i64, none] = true := by kernel_rfl
theorem does_any {k : Int} (hk0 : 0 ≤ k) (hk1 : k < 5) (x n : Int) (again : Bool) {w : World} {pb kb nb bb g : Nat} {p q p' q' : Int} (hp : penK k n p = p') (hq : askK k q = q') (hb : Boxes w pb kb nb bb g p q) :
    Calls Try.prog 14 #[.agg #[.int .u8 x, .int .i64 n, .bool again], .int .i64 k, .pointer (some ⟨pb, 0, none⟩), .pointer (some ⟨kb, 0, none⟩), .pointer (some ⟨nb, 0, none⟩)] w (Does pb kb nb bb g p' q' w) := by
  subst hp hq
  have h : k = 0 ∨ k = 1 ∨ k = 2 ∨ k = 3 ∨ k = 4 := by omega
  rcases h with rfl | rfl | rfl | rfl | rfl
  · exact does_0 x n again hb
  · exact does_1 x n again hb
  · exact does_2 x n again hb
  · exact does_3 x n again hb
  · exact does_4 x n again hb
/-- What the law keeps. -/
structure AS (w : World) (pb kb nb bb g : Nat) (p q : Int) (wx : World) : Prop where
  bx : Boxes wx pb kb nb bb g p q
  kp : Kept w wx
  old : w.heap.size ≤ g ∧ w.heap.size ≤ nb
theorem AS.kept {w wx w' : World} {pb kb nb bb g : Nat} {p q : Int} (h : AS w pb kb nb bb g p q wx) (hk : Kept wx w') : AS w pb kb nb bb g p q w' :=
  ⟨⟨h.bx.bank.kept hk, Blk.kept h.bx.plan hk, h.bx.ptr.kept hk, h.bx.pend.kept hk, h.bx.ne⟩, h.kp.trans hk, h.old⟩
theorem AS.does {w wx w' : World} {pb kb nb bb g : Nat} {p q p' q' : Int} {e : Ending} (h : AS w pb kb nb bb g p q wx) (hd : Does pb kb nb bb g p' q' wx e w') : AS w pb kb nb bb g p' q' w' :=
  ⟨hd.2.1, h.kp.then hd.2.2 (fun i hi e => by have := h.old; rcases e with e | e <;> omega), h.old⟩
theorem AS.acc {w wx w' : World} {pb kb nb bb g : Nat} {p q p' q' : Int} (h : AS w pb kb nb bb g p q wx) (hB : Bnk w' bb g (cnt p' q')) (hU : Upd (fun k => k = g) wx w') (hp : p' = p) : AS w pb kb nb bb g p' q' w' := by
  subst hp
  exact ⟨⟨hB, Blk.upd h.bx.plan hU h.bx.ne.1, h.bx.ptr.upd hU h.bx.ne.2.1, h.bx.pend.upd hU h.bx.ne.2.2.1, h.bx.ne⟩, h.kp.then hU (fun i hi e => by have := h.old; omega), h.old⟩
theorem AS.step {w wx w' : World} {mb pb kb nb bb g : Nat} {p q p' q' : Int} {fv : Value} {T : TypeId} {z : Bool} (h : AS w pb kb nb bb g p q wx) (hS : Stepped mb bb g fv T (cnt p' q') z wx w') (hp : p' = p) (h1 : ¬ mb = pb) (h2 : ¬ mb = kb) (h3 : ¬ mb = nb) (h4 : w.heap.size ≤ mb) : AS w pb kb nb bb g p' q' w' := by
  subst hp
  have hn := h.bx.ne
  exact ⟨⟨hS.bank, Blk.upd h.bx.plan hS.upd (fun e => by rcases e with e | e <;> omega), h.bx.ptr.upd hS.upd (fun e => by rcases e with e | e <;> omega), h.bx.pend.upd hS.upd (fun e => by rcases e with e | e <;> omega), hn⟩, h.kp.then hS.upd (fun i hi e => by have := h.old; rcases e with e | e <;> omega), h.old⟩
theorem AS.lts {w wx : World} {pb kb nb bb g : Nat} {p q : Int} (h : AS w pb kb nb bb g p q wx) : pb < wx.heap.size ∧ kb < wx.heap.size ∧ nb < wx.heap.size ∧ bb < wx.heap.size ∧ g < wx.heap.size ∧ w.heap.size ≤ wx.heap.size :=
  ⟨Blk.lt h.bx.plan, h.bx.ptr.lt, h.bx.pend.lt, h.bx.bank.head.lt, h.bx.bank.row.lt, h.kp.size⟩
theorem AS.cells {w wx : World} {pb kb nb bb g : Nat} {p q : Int} (h : AS w pb kb nb bb g p q wx) : (∀ i, wx.cell? ⟨pb, i, none⟩ = #[.int .i64 2, .int .i64 1, .int .i64 1, .int .i64 2, .int .i64 0, .int .i64 1, .int .i64 3, .int .i64 5, .int .i64 7, .int .i64 8, .int .i64 9, .int .i64 10, .int .i64 11, .int .i64 15][i]?) ∧ wx.cell? ⟨kb, 0, none⟩ = some (.pointer (some ⟨bb, 0, none⟩)) ∧ wx.cell? ⟨nb, 0, none⟩ = some (.int .i64 p) :=
  ⟨h.bx.plan.cell, by rw [h.bx.ptr.cell]; rfl, by rw [h.bx.pend.cell]; rfl⟩
theorem AS.of {w w1 : World} {bb g pb kb nb : Nat} (hB : Bnk w1 bb g (cnt 0 0)) (hg : w.heap.size ≤ g) (hk : Kept w w1) (hp : w1.heap.size = pb) (hq : pb + 1 = kb) (hr : kb + 1 = nb) : AS w pb kb nb bb g 0 0 (((w1.alloc (.cells lv 24)).alloc (.cells #[.pointer (some ⟨bb, 0, none⟩)] 25)).alloc (.cells #[.int .i64 0] 2)) := by
  have h1 := hB.row.lt
  have h2 := hB.head.lt
  have h3 := hk.size
  subst hp hq hr
  refine ⟨⟨((hB.kept ((Upd.refl _ _).alloc _)).kept ((Upd.refl _ _).alloc _)).kept ((Upd.refl _ _).alloc _), ?_, ?_, ?_, by omega⟩, ((hk.alloc _).alloc _).alloc _, by omega⟩
  · exact Blk.alloc (Blk.alloc (Blk.new w1 lv _) _) _
  · exact Blk.alloc (Blk.newAt _ _ _ _ (by simp)) _
  · exact Blk.newAt _ _ _ _ (by simp)
theorem pend_load {w : World} {bb g : Nat} {p q : Int} (h : Bnk w bb g (cnt p q)) :
    Calls Try.prog 11 #[.pointer (some ⟨bb, 0, none⟩), .int .i64 7] w fun e w' => e = .returned (.int .i64 p) ∧ w = w' := Load_bank h 7

set_option maxRecDepth 100000 in
set_option maxHeartbeats 4000000 in
theorem countAsk_core (a b : Option Addr) (capA capB : Nat) (els fls : List (List Value)) (w : World) (hlen : els.length ≤ capA) (hmost : capA ≤ maxLen) (hlen2 : fls.length ≤ capB) (hmost2 : capB ≤ maxLen)
    (hcells : els.length = 0 ∨ ∃ b off, a = some ⟨b, off, none⟩ ∧ ∀ i (h : i < els.length) j v, els[i][j]? = some v → w.cell? ⟨b, off + i * 3 + j, none⟩ = some v) (hfit : ∀ e ∈ els, fits [some .u8, some .i64, none] e)
    (hcells2 : fls.length = 0 ∨ ∃ c off, b = some ⟨c, off, none⟩ ∧ ∀ i (h : i < fls.length) j v, fls[i][j]? = some v → w.cell? ⟨c, off + i * 3 + j, none⟩ = some v) (hfit2 : ∀ e ∈ fls, fits [some .u8, some .i64, none] e) :
    Calls Try.prog 4 #[.slice a els.length capA, .slice b fls.length capB] w fun e w' => e = .returned (.bool true) ∧ Kept w w' := by
  have HP := fun w => Lib.hid (bank_any w)
  obtain ⟨M, hM⟩ : ∃ M, M = min els.length 60 := ⟨_, rfl⟩
  have hM1 : M ≤ els.length := by omega
  have hM2 : M ≤ 60 := by omega
  obtain ⟨N, hN⟩ : ∃ N, N = min fls.length 60 := ⟨_, rfl⟩
  have hN1 : N ≤ fls.length := by omega
  have hN2 : N ≤ 60 := by omega
  have hsl := fun w => run_take (P := Try.prog) Try.underlying38 (size := 3) (by kernel_rfl) a els.length capA M (by omega) w
  have hsl2 := fun w => run_take (P := Try.prog) Try.underlying38 (size := 3) (by kernel_rfl) b fls.length capB N (by omega) w
  have hif1 : (if (60 : Int) < (els.length : Int) then (60 : Int) else (els.length : Int)) = (M : Int) := by split <;> omega
  have hif2 : (if 60 < els.length then (60 : Int) else (els.length : Int)) = (M : Int) := by split <;> omega
  have hif3 : (if (60 : Int) < (fls.length : Int) then (60 : Int) else (fls.length : Int)) = (N : Int) := by split <;> omega
  have hif4 : (if 60 < fls.length then (60 : Int) else (fls.length : Int)) = (N : Int) := by split <;> omega
  unfold maxLen at hmost hmost2
  have HC := Lib.hid hcells
  have HF := Lib.hid hfit
  have HC2 := Lib.hid hcells2
  have HF2 := Lib.hid hfit2
  clear hcells hfit hM hcells2 hfit2 hN
  go_enter Try.func4, Try.ntmps4
  go_wp2_with fail
  refine (HP _).out.mono ?_
  rintro e w1 ⟨bb, g, rfl, hB, hbb, hg, hk⟩
  obtain ⟨pb, hpb⟩ : ∃ pb, w1.heap.size = pb := ⟨_, rfl⟩
  obtain ⟨kb, hkb⟩ : ∃ kb, pb + 1 = kb := ⟨_, rfl⟩
  obtain ⟨nb, hnb⟩ : ∃ nb, kb + 1 = nb := ⟨_, rfl⟩
  have S0 := Lib.hid (AS.of hB hg hk hpb hkb hnb)
  have HPB := Lib.hid hpb
  have HKB := Lib.hid hkb
  have HNB := Lib.hid hnb
  clear hB hbb hg hk HP hpb hkb hnb
  simp only [lv] at S0 ⊢
  go_wp2_with fail
  rw [HPB.out, HKB.out, HNB.out]
  clear HPB HKB HNB
  go_loopw [29] (fun x wr => ∃ (k : Nat) (p : Int), x = .int .i64 k ∧ k ≤ M ∧ Hid (AS w pb kb nb bb g p 0 wr)) (fun x _ => M - (intOf x).toNat)
  case atStart => exact ⟨0, 0, rfl, by omega, S0⟩
  case round =>
    obtain ⟨k, p, rfl, hk0, S1⟩ := hrel
    clear S0
    by_cases hlt : k < M
    · as_aux_lemma =>
        obtain ⟨b1, off, rfl, hcs⟩ := HC.out.resolve_left (by omega)
        obtain ⟨x, n, again, hel, hx0, hx1⟩ := cop_of (HF.out (els[k]'(by omega)) (List.getElem_mem _))
        have hc := fun j v (h : (els[k]'(by omega))[j]? = some v) => (S1.out.kp.cells _ (by rw [hcs k (by omega) j v h]; rfl) (fun f => f)).trans (hcs k (by omega) j v h)
        rw [hel] at hc
        have c0 : wr.cell? ⟨b1, off + k * 3, none⟩ = some (.int .u8 x) := hc 0 _ rfl
        have c1 : wr.cell? ⟨b1, off + k * 3 + 1, none⟩ = some (.int .i64 n) := hc 1 _ rfl
        have c2 : wr.cell? ⟨b1, off + k * 3 + 2, none⟩ = some (.bool again) := hc 2 _ rfl
        clear hc hel hcs
        have q0 : 0 ≤ x % 3 := Int.emod_nonneg _ (by omega)
        have q1 : x % 3 < 3 := Int.emod_lt_of_pos _ (by omega)
        obtain ⟨p', hp⟩ : ∃ p', penK (x % 3) n p = p' := ⟨_, rfl⟩
        have hq : askK (x % 3) 0 = 0 := by unfold askK; (first | (rw [if_neg (by omega)]) | (split <;> rfl))
        have HD := fun w (hb : Boxes w pb kb nb bb g p 0) => Lib.hid (does_any q0 (by omega) x n again hp hq hb)
        have hzz : (p' != p') = false := by simp
        clear hp hq
        go_wp2_with fail
        refine (HD _ (S1.out.kept ((Upd.refl _ _).alloc _)).bx).out.mono ?_
        rintro e w2 hd
        obtain rfl := hd.1
        have S2 := Lib.hid (AS.does (S1.out.kept ((Upd.refl _ _).alloc _)) hd)
        have C2 := S2.out.cells
        clear hd S1 HD c0 c1 c2
        go_wp2_with fail
        go_region_held3 (fun w' => (∀ i, w'.cell? ⟨pb, i, none⟩ = #[.int .i64 2, .int .i64 1, .int .i64 1, .int .i64 2, .int .i64 0, .int .i64 1, .int .i64 3, .int .i64 5, .int .i64 7, .int .i64 8, .int .i64 9, .int .i64 10, .int .i64 11, .int .i64 15][i]?) ∧ w'.cell? ⟨kb, 0, none⟩ = some (.pointer (some ⟨bb, 0, none⟩)) ∧ w'.cell? ⟨nb, 0, none⟩ = some (.int .i64 p'))
          (first | exact C2 | exact C3)
          ((first
            | (go_at_call 16; refine (asked_any (z := false) (ys := cnt p' 0) (S2.out.kept (Upd.refl _ _).drew).bx.bank rfl (by rw [cnt_8]; rfl) rfl).mono ?_; rintro e w3 ⟨rfl, hB, hU⟩; have S3 := Lib.hid ((S2.out.kept (Upd.refl _ _).drew).acc hB hU rfl); have C3 := S3.out.cells; clear hB hU)
            | (go_at_call 11; refine (pend_load S3.out.bx.bank).mono ?_; rintro e w' ⟨rfl, rfl⟩)))
        clear C2 C3 S2
        go_wp2_with fail
        go_roundw
        case rel => exact ⟨k + 1, p', by go_num, by omega, S3⟩
        case measure => simp [intOf]; omega
    · obtain ⟨cpl, cpt, _⟩ := S1.out.cells
      go_wp2_with fail
      refine (NewAsk_any _).mono ?_
      rintro e w2 ⟨lb, rfl, hl, h1, hk⟩
      have S2 := Lib.hid (S1.out.kept hk)
      have HL := Lib.hid hl
      have HT := Lib.hid S2.out.lts
      have HM : Hid (¬ w2.heap.size = g ∧ ¬ w2.heap.size = bb) := Lib.hid (by have := HT.out; omega)
      obtain ⟨_, cpt2, _⟩ := S2.out.cells
      have lkb := HT.out.2.1
      clear hk S1 hl h1 cpl cpt
      go_wp2_with fail
      refine (Ask_step (step_ask (Blk.newAt w2 _ _ _ rfl) HM.out (askIt (S2.out.kept ((Upd.refl _ _).alloc _)).bx.bank (Blk.alloc HL.out _)))).mono ?_
      rintro e w3 ⟨rfl, hS⟩
      have S4 : Hid (AS w pb kb nb bb g p 1 w3) := Lib.hid (AS.step (S2.out.kept ((Upd.refl _ _).alloc _)) hS rfl (by have := HT.out; omega) (by have := HT.out; omega) (by have := HT.out; omega) (by have := HT.out; omega))
      clear hS S2 HL HT cpt2 lkb
      go_wp2_with fail
      go_loopw [62] (fun x wr => ∃ (k : Nat) (p : Int), x = .int .i64 k ∧ k ≤ N ∧ Hid (AS w pb kb nb bb g p 1 wr)) (fun x _ => N - (intOf x).toNat)
      case atStart => exact ⟨0, p, rfl, by omega, S4⟩
      case round =>
        obtain ⟨k, p, rfl, hk0, S1⟩ := hrel
        clear S4
        by_cases hlt : k < N
        · as_aux_lemma =>
            obtain ⟨b1, off, rfl, hcs⟩ := HC2.out.resolve_left (by omega)
            obtain ⟨x, n, again, hel, hx0, hx1⟩ := cop_of (HF2.out (fls[k]'(by omega)) (List.getElem_mem _))
            have hc := fun j v (h : (fls[k]'(by omega))[j]? = some v) => (S1.out.kp.cells _ (by rw [hcs k (by omega) j v h]; rfl) (fun f => f)).trans (hcs k (by omega) j v h)
            rw [hel] at hc
            have c0 : wr.cell? ⟨b1, off + k * 3, none⟩ = some (.int .u8 x) := hc 0 _ rfl
            have c1 : wr.cell? ⟨b1, off + k * 3 + 1, none⟩ = some (.int .i64 n) := hc 1 _ rfl
            have c2 : wr.cell? ⟨b1, off + k * 3 + 2, none⟩ = some (.bool again) := hc 2 _ rfl
            clear hc hel hcs
            have q0 : 0 ≤ x % 5 := Int.emod_nonneg _ (by omega)
            have q1 : x % 5 < 5 := Int.emod_lt_of_pos _ (by omega)
            obtain ⟨p', hp⟩ : ∃ p', penK (x % 5) n p = p' := ⟨_, rfl⟩
            have hq : askK (x % 5) 1 = 1 := by unfold askK; (first | (rw [if_neg (by omega)]) | (split <;> rfl))
            have HD := fun w (hb : Boxes w pb kb nb bb g p 1) => Lib.hid (does_any q0 (by omega) x n again hp hq hb)
            have hzz : (p' != p') = false := by simp
            clear hp hq
            go_wp2_with fail
            refine (HD _ (S1.out.kept ((Upd.refl _ _).alloc _)).bx).out.mono ?_
            rintro e w2 hd
            obtain rfl := hd.1
            have S2 := Lib.hid (AS.does (S1.out.kept ((Upd.refl _ _).alloc _)) hd)
            have C2 := S2.out.cells
            clear hd S1 HD c0 c1 c2
            go_wp2_with fail
            go_region_held3 (fun w' => (∀ i, w'.cell? ⟨pb, i, none⟩ = #[.int .i64 2, .int .i64 1, .int .i64 1, .int .i64 2, .int .i64 0, .int .i64 1, .int .i64 3, .int .i64 5, .int .i64 7, .int .i64 8, .int .i64 9, .int .i64 10, .int .i64 11, .int .i64 15][i]?) ∧ w'.cell? ⟨kb, 0, none⟩ = some (.pointer (some ⟨bb, 0, none⟩)) ∧ w'.cell? ⟨nb, 0, none⟩ = some (.int .i64 p'))
              (first | exact C2 | exact C3)
              ((first
                | (go_at_call 16; refine (asked_any (z := true) (ys := cnt p' 1) (S2.out.kept (Upd.refl _ _).drew).bx.bank rfl (by rw [cnt_8]; rfl) rfl).mono ?_; rintro e w3 ⟨rfl, hB, hU⟩; have S3 := Lib.hid ((S2.out.kept (Upd.refl _ _).drew).acc hB hU rfl); have C3 := S3.out.cells; clear hB hU)
                | (go_at_call 11; refine (pend_load S3.out.bx.bank).mono ?_; rintro e w' ⟨rfl, rfl⟩)))
            clear C2 C3 S2
            go_wp2_with fail
            go_roundw
            case rel => exact ⟨k + 1, p', by go_num, by omega, S3⟩
            case measure => simp [intOf]; omega
        · go_wp2_with fail
          refine (awake_any _).mono ?_
          rintro e w5 ⟨rfl, hk5⟩
          go_wp2
          go_ret
          exact ⟨rfl, S1.out.kp.trans hk5⟩
theorem countAsk_walk (a0 : Option Addr) (cap0 : Nat) (els0 : List (List Value)) (a1 : Option Addr) (cap1 : Nat) (els1 : List (List Value)) (w : World) (h0 : FlatRow [some .u8, some .i64, none] w a0 cap0 els0) (_hf0 : ∀ x ∈ els0, fits [some .u8, some .i64, none] x) (h1 : FlatRow [some .u8, some .i64, none] w a1 cap1 els1) (_hf1 : ∀ x ∈ els1, fits [some .u8, some .i64, none] x) :
    Calls Try.prog 4 #[.slice a0 els0.length cap0, .slice a1 els1.length cap1] w fun e w' => e = .returned (.bool true) ∧ Kept w w' :=
  countAsk_core a0 a1 cap0 cap1 els0 els1 w h0.le h0.most h1.le h1.most h0.cells h0.fit h1.cells h1.fit
end Go.Proofs.Ytccjgbmbggbmgaa
