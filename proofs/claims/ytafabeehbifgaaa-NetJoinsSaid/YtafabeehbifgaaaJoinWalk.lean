/- net.Join, walked (printed by gen_join01.py). -/
import Derived.Test.YtafabeehbifgaaaJoin
import Derived.Test.YtafabeehbifgaaaNetCheck2
import Derived.Deep.CutRange
import Derived.StillTailTactics
namespace Go.Proofs.Ytafabeehbifgaaa
set_option linter.unusedVariables false
open Go.RowKit

set_option maxRecDepth 100000 in
set_option maxHeartbeats 1000000 in
theorem Join_bad (N S T : Int) (a : Option Addr) (cap : Nat) (ys : List Ar) (w : World) (h : Ars w a ys) (hm : ys.length ≤ 1000000) (hok : ¬ chkOf N S T ys = 0) :
    Calls Try.prog 13 #[.agg #[.int .i64 N, .int .i64 S, .int .i64 T, .slice a ys.length cap]] w (JoinOut 0 0 0 [] [] w) := by
  have HC := Lib.hid (Check_any N S T a cap ys ((w.alloc (.cells #[.int .i64 N, .int .i64 S, .int .i64 T, .slice a ys.length cap] 24)).alloc (.cells #[.int .i64 0, .int .i64 0, .int .i64 0, .slice none 0 0] 24)) (h.kept (((Upd.refl _ _).alloc _).alloc _)) (by omega))
  have HX := Lib.hid h
  have HB := Lib.hid ((Blk.new w #[.int .i64 N, .int .i64 S, .int .i64 T, .slice a ys.length cap] 24).alloc (.cells #[.int .i64 0, .int .i64 0, .int .i64 0, .slice none 0 0] 24))
  have HB2 := Lib.hid (Blk.new (w.alloc (.cells #[.int .i64 N, .int .i64 S, .int .i64 T, .slice a ys.length cap] 24)) #[.int .i64 0, .int .i64 0, .int .i64 0, .slice none 0 0] 24)
  have HK := Lib.hid (((Upd.refl (fun _ => False) w).alloc (.cells #[.int .i64 N, .int .i64 S, .int .i64 T, .slice a ys.length cap] 24)).alloc (.cells #[.int .i64 0, .int .i64 0, .int .i64 0, .slice none 0 0] 24))
  have e1 : (w.alloc (.cells #[.int .i64 N, .int .i64 S, .int .i64 T, .slice a ys.length cap] 24)).heap.size = w.heap.size + 1 := by simp
  rw [e1] at HB2
  have e2 : ((w.alloc (.cells #[.int .i64 N, .int .i64 S, .int .i64 T, .slice a ys.length cap] 24)).alloc (.cells #[.int .i64 0, .int .i64 0, .int .i64 0, .slice none 0 0] 24)).heap.size = w.heap.size + 2 := by simp
  clear h e1
  go_enter Try.func13, Try.ntmps13
  go_wp2_with fail
  refine HC.out.mono ?_
  rintro e w1 ⟨rfl, hk⟩
  have HB3 := Lib.hid (HB.out.kept hk)
  have HB4 := Lib.hid (HB2.out.kept hk)
  have HK1 := Lib.hid (HK.out.trans hk)
  have hsz1 : w.heap.size + 2 ≤ w1.heap.size := by have := hk.size; omega
  clear hk HB HB2 HK HC e2
  have hb := HB3.out.cell
  have hb4 := HB4.out.cell
  have hf4 := HB4.out.free
  generalize chkOf N S T ys = ck at hok
  have hne : (ck != 0) = true := by simpa using hok
  go_wp2
  have e2 : (w.heap.size + 1 : Nat) = w.heap.size + 1 := rfl
  obtain ⟨w3, hw3, hB3, hU3⟩ := HB4.out.put4 (.int .i64 0) (.int .i64 0) (.int .i64 0) (.slice none 0 0)
  rw [← hw3]
  have hc3 := hB3.cell
  clear hw3 hb4 hf4
  refine bodyPost_ret (v := .tuple #[.agg #[.int .i64 0, .int .i64 0, .int .i64 0, .slice none 0 0], .slice none 0 0]) ?_ rfl ?_
  · simp [results, go_sem, hc3]
  · exact ⟨none, 0, .slice none 0 0, rfl, Own.nil _ _, World.ownsRow_nil _ _ _ _, HK1.out.then hU3 (fun i hi he => by omega)⟩

theorem infoI : (Try.prog.info? 3).map (fun i => (i.zero, i.size, i.bytes)) = some (some (.int .i64 0), 1, 8) := by kernel_rfl
set_option maxRecDepth 100000 in
set_option maxHeartbeats 2000000 in
theorem Join_ok (N S T : Int) (a : Option Addr) (cap : Nat) (ys : List Ar) (w : World) (h : Ars w a ys) (hm : ys.length ≤ 1000000) (hok : chkOf N S T ys = 0) :
    Calls Try.prog 13 #[.agg #[.int .i64 N, .int .i64 S, .int .i64 T, .slice a ys.length cap]] w (JoinOut N S T (joinGo [] [] ys).1 (joinGo [] [] ys).2 w) := by
  obtain ⟨hN0, hN1, hfine, _⟩ := chk_zero hok
  have HFI := Lib.hid hfine
  clear hfine
  have HC := Lib.hid (Check_any N S T a cap ys ((w.alloc (.cells #[.int .i64 N, .int .i64 S, .int .i64 T, .slice a ys.length cap] 24)).alloc (.cells #[.int .i64 0, .int .i64 0, .int .i64 0, .slice none 0 0] 24)) (h.kept (((Upd.refl _ _).alloc _).alloc _)) (by omega))
  have HX := Lib.hid h
  have HB := Lib.hid ((Blk.new w #[.int .i64 N, .int .i64 S, .int .i64 T, .slice a ys.length cap] 24).alloc (.cells #[.int .i64 0, .int .i64 0, .int .i64 0, .slice none 0 0] 24))
  have HB2 := Lib.hid (Blk.new (w.alloc (.cells #[.int .i64 N, .int .i64 S, .int .i64 T, .slice a ys.length cap] 24)) #[.int .i64 0, .int .i64 0, .int .i64 0, .slice none 0 0] 24)
  have HK := Lib.hid (((Upd.refl (fun _ => False) w).alloc (.cells #[.int .i64 N, .int .i64 S, .int .i64 T, .slice a ys.length cap] 24)).alloc (.cells #[.int .i64 0, .int .i64 0, .int .i64 0, .slice none 0 0] 24))
  have e1 : (w.alloc (.cells #[.int .i64 N, .int .i64 S, .int .i64 T, .slice a ys.length cap] 24)).heap.size = w.heap.size + 1 := by simp
  rw [e1] at HB2
  have e2 : ((w.alloc (.cells #[.int .i64 N, .int .i64 S, .int .i64 T, .slice a ys.length cap] 24)).alloc (.cells #[.int .i64 0, .int .i64 0, .int .i64 0, .slice none 0 0] 24)).heap.size = w.heap.size + 2 := by simp
  clear h e1
  go_enter Try.func13, Try.ntmps13
  go_wp2_with fail
  refine HC.out.mono ?_
  rintro e w1 ⟨rfl, hk⟩
  have HB3 := Lib.hid (HB.out.kept hk)
  have HB4 := Lib.hid (HB2.out.kept hk)
  have HK1 := Lib.hid (HK.out.trans hk)
  have hsz1 : w.heap.size + 2 ≤ w1.heap.size := by have := hk.size; omega
  clear hk HB HB2 HK HC e2
  have hb := HB3.out.cell
  have hb4 := HB4.out.cell
  have hf4 := HB4.out.free
  rw [hok]
  clear hok hb4 hf4
  have S0 : Hid (JS w w.heap.size (w.heap.size + 1) w1.heap.size (w1.heap.size + 1) (w1.heap.size + 2) N S T (.slice a ys.length cap) (.slice none 0 0) (.slice none 0 0) (.slice none 0 0) [] [] (idxG []) 0 ((w1.alloc (.cells #[.int .i64 N, .int .i64 S, .int .i64 T, .slice none 0 0] 24)).alloc (.map #[] 0))) := by
    have e1 : (w1.alloc (.cells #[.int .i64 N, .int .i64 S, .int .i64 T, .slice none 0 0] 24)).heap.size = w1.heap.size + 1 := by simp
    have hk : Kept w1 ((w1.alloc (.cells #[.int .i64 N, .int .i64 S, .int .i64 T, .slice none 0 0] 24)).alloc (.map #[] 0)) := ((Upd.refl _ _).alloc _).alloc _
    have hmk := MK.new (w1.alloc (.cells #[.int .i64 N, .int .i64 S, .int .i64 T, .slice none 0 0] 24))
    rw [e1] at hmk
    exact Lib.hid ⟨HK1.out.trans hk, HB3.out.kept hk, HB4.out.kept hk, (Blk.new _ _ _).alloc _, Own.nil _ _, World.ownsRow_nil _ _ _ _, hmk, by simp; omega⟩
  clear HB3 HB4 HK1
  obtain ⟨i0, hi0, hz0, hz1, hz2⟩ := info_parts infoI
  have HI0 : Hid (_ ∧ _ ∧ _ ∧ _) := Lib.hid ⟨hi0, hz0, hz1, hz2⟩
  obtain ⟨j0, hi1, hy0, hy1, hy2⟩ := info_parts infoArc
  have HI1 : Hid (_ ∧ _ ∧ _ ∧ _) := Lib.hid ⟨hi1, hy0, hy1, hy2⟩
  clear hi0 hz0 hz1 hz2 hi1 hy0 hy1 hy2
  have hmk := @run_makeMap Try.prog
  have hlt0 : w.heap.size < w1.heap.size := by omega
  have hlt1 : w.heap.size < w1.heap.size + 1 := by omega
  go_wp2_with fail
  generalize ((w1.alloc (.cells #[.int .i64 N, .int .i64 S, .int .i64 T, .slice none 0 0] 24)).alloc (.map #[] 0)) = W1 at S0 ⊢
  obtain ⟨rb, hrb⟩ : ∃ rb, rb = w.heap.size + 1 := ⟨_, rfl⟩
  obtain ⟨nb, hnb⟩ : ∃ nb, nb = w.heap.size := ⟨_, rfl⟩
  obtain ⟨mb, hmb⟩ : ∃ mb, mb = w1.heap.size + 1 := ⟨_, rfl⟩
  obtain ⟨Bs, hBs⟩ : ∃ Bs, Bs = w1.heap.size + 2 := ⟨_, rfl⟩
  obtain ⟨ob, hob⟩ : ∃ ob, ob = w1.heap.size := ⟨_, rfl⟩
  rw [← hrb, ← hmb, ← hBs, ← hob, ← hnb] at S0
  rw [← hrb, ← hmb, ← hob, ← hnb]
  have HNB := Lib.hid hnb
  clear hrb hnb hmb hBs hob hsz1 hb hlt0 hlt1
  go_loopw [6, 27] (fun vf ix wr => ∃ (k : Nat) (out : List Ar) (ofl : List Int) (ao : Option Addr) (co : Nat) (af : Option Addr) (cf m : Nat), ix = .int .i64 k ∧ k ≤ ys.length ∧ vf = .slice af k cf ∧ Hid (JS w nb rb ob mb Bs N S T (.slice a ys.length cap) (.slice ao out.length co) (.slice ao out.length co) (.slice af k cf) out ofl (idxG out) m wr) ∧ Hid (ofl.length = k ∧ m ≤ k ∧ out.length ≤ k) ∧ Hid (joinGo [] [] ys = joinGo out ofl (ys.drop k)) ∧ Hid (Fine N out (ys.drop k))) (fun _ ix _ => ys.length - (intOf ix).toNat)
  case atStart => exact ⟨0, [], [], none, 0, none, 0, 0, rfl, by omega, rfl, S0, Lib.hid ⟨rfl, by omega, by simp⟩, Lib.hid rfl, HFI⟩
  case round =>
    obtain ⟨k, out, ofl, ao, co, af, cf, m, rfl, hk, rfl, S1, HL, HJ, HF⟩ := hrel
    clear S0 HFI
    by_cases hlt : k < ys.length
    · as_aux_lemma =>
      have hd : ys.drop k = ys[k] :: ys.drop (k + 1) := by rw [List.drop_eq_getElem_cons hlt]
      have HX2 := HX.out.kept S1.out.kp
      obtain ⟨b, off, rfl, c0, c1, c2⟩ := HX2.at k hlt
      rw [hd] at HJ HF
      obtain ⟨⟨f, t, c⟩, hx⟩ : ∃ x : Ar, ys[k] = x := ⟨_, rfl⟩
      rw [hx] at HJ HF c0 c1 c2
      simp only at c0 c1 c2
      have hv := HF.out.vy ⟨f, t, c⟩ (by simp)
      simp only at hv
      have hwf : wfi f := wfi_of (by omega) (by omega)
      have hwt : wfi t := wfi_of (by omega) (by omega)
      have HV := Lib.hid hv
      have HWF := Lib.hid hwf
      have HWT := Lib.hid hwt
      clear HX2 hd hx
      have cn := S1.out.prm.cell
      have q0 : (0 : Int) ≤ (k : Int) := by omega
      have q1 : (k : Int) < (ys.length : Int) := by omega
      have S2 : Hid (JS w nb rb ob mb Bs N S T (.slice (some ⟨b, off, none⟩) ys.length cap) (.slice ao out.length co) (.slice ao out.length co) (.slice af k cf) out ofl (idxG out) m ((wr.alloc (.cells #[.int .i64 f, .int .i64 t, .int .i64 c] 31)).alloc (.cells #[.int .i64 f, .int .i64 t] 41))) := Lib.hid (S1.out.kept (((Upd.refl _ _).alloc _).alloc _))
      have HA : Hid (Blk ((wr.alloc (.cells #[.int .i64 f, .int .i64 t, .int .i64 c] 31)).alloc (.cells #[.int .i64 f, .int .i64 t] 41)) wr.heap.size #[.int .i64 f, .int .i64 t, .int .i64 c] 31) := Lib.hid ((Blk.new _ _ _).alloc _)
      have HE : Hid (Blk ((wr.alloc (.cells #[.int .i64 f, .int .i64 t, .int .i64 c] 31)).alloc (.cells #[.int .i64 f, .int .i64 t] 41)) (wr.heap.size + 1) #[.int .i64 f, .int .i64 t] 41) := by
        have h := Blk.new (wr.alloc (.cells #[.int .i64 f, .int .i64 t, .int .i64 c] 31)) #[.int .i64 f, .int .i64 t] 41
        have e1 : (wr.alloc (.cells #[.int .i64 f, .int .i64 t, .int .i64 c] 31)).heap.size = wr.heap.size + 1 := by simp
        rw [e1] at h
        exact Lib.hid h
      have hbs : Bs ≤ wr.heap.size := S1.out.lt.2.2.2.2.2
      clear S1 hwf hwt
      by_cases hft : f = t
      · as_aux_lemma =>
        subst hft
        have HJ2 : Hid (joinGo [] [] ys = joinGo out (ofl ++ [-1]) (ys.drop (k + 1))) := Lib.hid (by rw [HJ.out]; simp [joinGo, joinStep])
        have HF2 := Lib.hid HF.out.skip
        obtain ⟨c', hc'⟩ : ∃ c', (idxG out f f).getD 0 = c' := ⟨_, rfl⟩
        obtain ⟨z', hz'⟩ : ∃ z', (idxG out f f).isSome = z' := ⟨_, rfl⟩
        have hlk := S2.out.map.lookOk HWF.out HWF.out hc' hz'
        clear hc' hz' HJ HF HV HWT hv
        go_upto_region 18 with (fail)
        clear hlk
        generalize ((wr.alloc (.cells #[.int .i64 f, .int .i64 f, .int .i64 c] 31)).alloc (.cells #[.int .i64 f, .int .i64 f] 41)) = W2 at S2 HA HE ⊢
        clear HA HE c0 c1 c2
        obtain ⟨hi, hz0, hz1, hz2⟩ := HI0.out
        have HR : Hid ((W2.alloc (.cells #[.int .i64 (-1)] 3)).ownsRow Bs 3 1 (.slice af k cf) k (ofl.map (Value.int .i64))) := Lib.hid (by have h := (S2.out.kept ((Upd.refl _ _).alloc (.cells #[.int .i64 (-1)] 3))).ofr; rw [HL.out.1] at h; exact h)
        go_wp2_with (first | (at_builtin; refine wpList_append_own _ rfl _ _ 37 rfl Bs 3 i0 (.int .i64 0) 1 8 Try.underlying37 hi hz0 hz1 hz2 rfl (by decide) _ k (ofl.map (Value.int .i64)) rfl HR.out ⟨W2.heap.size, 0, none⟩ 1 1 [.int .i64 (-1)] rfl rfl ?c1 ?c2 ?c3 ?c4 ?c5 ?_) | fail)
        case c1 => exact cell_one_new _ _ _
        case c2 => simp [Value.oneCell']
        case c3 => unfold maxLen; omega
        case c4 => omega
        case c5 => have := S2.out.lt; simp; omega
        intro v' w4 hown hgrow hnil
        have S5 := Lib.hid ((S2.out.kept ((Upd.refl _ _).alloc (.cells #[.int .i64 (-1)] 3))).appF (by rw [HL.out.1]; exact hown) hgrow)
        obtain ⟨af', cf', rfl⟩ := row_form hown
        have HL5 : Hid ((ofl ++ [(-1)]).length = k + 1 ∧ m ≤ k + 1 ∧ out.length ≤ k + 1) := Lib.hid ⟨by simp [HL.out.1], by have := HL.out; omega, by have := HL.out; omega⟩
        clear hown hgrow hnil S2 hi hz0 hz1 hz2 HR HL
        go_wp2_with fail
        go_roundw
        case rel => exact ⟨k + 1, out, ofl ++ [(-1)], ao, co, af', cf', m, by go_num, by omega, rfl, S5, HL5, HJ2, HF2⟩
        case measure => simp [intOf]; omega
      · cases hix : idx out f t with
        | none => as_aux_lemma =>
          have HJ2 : Hid (joinGo [] [] ys = joinGo (out ++ [⟨f, t, c⟩]) (ofl ++ [(out.length : Int)]) (ys.drop (k + 1))) := Lib.hid (by rw [HJ.out]; simp [joinGo, joinStep, hft, hix])
          have HF2 := Lib.hid HF.out.more
          have HG := Lib.hid (idxG_append out ⟨f, t, c⟩ hix)
          have hlk := S2.out.map.lookOk HWF.out HWT.out (c := 0) (z := false) (by simp [idxG, hix]) (by simp [idxG, hix])
          have hob : ob < wr.heap.size := by have := S2.out.lt; omega
          have HOL : Hid (out.length ≤ 1000000 ∧ m ≤ 1000000) := Lib.hid (by have := HL.out; omega)
          clear HJ HF hix hv
          have cnet := S2.out.net.cell
          go_upto_region 12 with (fail)
          clear hlk
          generalize ((wr.alloc (.cells #[.int .i64 f, .int .i64 t, .int .i64 c] 31)).alloc (.cells #[.int .i64 f, .int .i64 t] 41)) = W2 at S2 HA HE cnet ⊢
          clear c0 c1 c2 cnet hob
          have cE := HE.out.cell
          go_upto_region 13 with (at_mapUpdate; refine wpList_putk _ rfl _ _ _ rfl rfl S2.out.map (by have := HOL.out.2; unfold maxLen; omega) HWF.out HWT.out rfl rfl (wfi_of (by omega) (by have := HOL.out.1; omega)) ?_; intro w3 hM hU; have HA3 := Lib.hid (HA.out.upd hU (by have := S2.out.lt; omega)); have S3 := Lib.hid (S2.out.putM hM hU); clear hM hU HA HE cE S2)
          have cA := HA3.out.cell
          have cnet := S3.out.net.cell
          have fnet := S3.out.net.free
          have hltA := HA3.out.lt
          have hltO := S3.out.net.lt
          obtain ⟨hi, hz0, hz1, hz2⟩ := HI1.out
          have HR : Hid ((w3.alloc (.cells #[.int .i64 f, .int .i64 t, .int .i64 c] 31)).ownsRow Bs 31 3 (.slice ao out.length co) out.length (acells out)) := Lib.hid (S3.out.kept ((Upd.refl _ _).alloc (.cells #[.int .i64 f, .int .i64 t, .int .i64 c] 31))).own
          go_upto_region 18 with (first | (at_builtin; refine wpList_append_own _ rfl _ _ 22 rfl Bs 31 j0 (.agg #[.int .i64 0, .int .i64 0, .int .i64 0]) 3 24 Try.underlying22 hi hz0 hz1 hz2 rfl (by decide) _ out.length (acells out) rfl HR.out ⟨w3.heap.size, 0, none⟩ 1 1 [.int .i64 f, .int .i64 t, .int .i64 c] rfl rfl (cells_new _ _ _) (by intro u hu; simp at hu; rcases hu with rfl | rfl | rfl <;> rfl) (by have := HOL.out.1; unfold maxLen; omega) (by have := HOL.out.1; omega) (by have := S3.out.lt; simp; omega) ?_; intro v' w4 hown hgrow hnil; obtain ⟨ao', co', rfl⟩ := row_form hown; have S4 := Lib.hid ((S3.out.kept ((Upd.refl _ _).alloc (.cells #[.int .i64 f, .int .i64 t, .int .i64 c] 31))).appO (x := ⟨f, t, c⟩) hown hgrow); have cnet4 := S4.out.net.cell; have fnet4 := S4.out.net.free; clear hown hgrow hnil S3 HA3 cA cnet fnet hltA hltO hi hz0 hz1 hz2 HR) | fail)
          have hlen : (out ++ [(⟨f, t, c⟩ : Ar)]).length = out.length + 1 := by simp
          have S6 : Hid (JS w nb rb ob mb Bs N S T (.slice (some ⟨b, off, none⟩) ys.length cap) (.slice ao' (out ++ [(⟨f, t, c⟩ : Ar)]).length co') (.slice ao' (out ++ [(⟨f, t, c⟩ : Ar)]).length co') (.slice af k cf) (out ++ [⟨f, t, c⟩]) ofl (idxG (out ++ [⟨f, t, c⟩])) (m + 1) (w4.setCell ⟨ob, 3, none⟩ (.slice ao' (out.length + 1) co'))) := Lib.hid (by
            rw [HG.out, hlen]
            exact S4.out.setN (.slice ao' (out.length + 1) co'))
          generalize (w4.setCell ⟨ob, 3, none⟩ (.slice ao' (out.length + 1) co')) = W5 at S6 ⊢
          clear S4 cnet4 fnet4 HG hlen
          obtain ⟨hi, hz0, hz1, hz2⟩ := HI0.out
          have HR : Hid ((W5.alloc (.cells #[.int .i64 (out.length : Int)] 3)).ownsRow Bs 3 1 (.slice af k cf) k (ofl.map (Value.int .i64))) := Lib.hid (by have h := (S6.out.kept ((Upd.refl _ _).alloc (.cells #[.int .i64 (out.length : Int)] 3))).ofr; rw [HL.out.1] at h; exact h)
          go_wp2_with (first | (at_builtin; refine wpList_append_own _ rfl _ _ 37 rfl Bs 3 i0 (.int .i64 0) 1 8 Try.underlying37 hi hz0 hz1 hz2 rfl (by decide) _ k (ofl.map (Value.int .i64)) rfl HR.out ⟨W5.heap.size, 0, none⟩ 1 1 [.int .i64 (out.length : Int)] rfl rfl ?c1 ?c2 ?c3 ?c4 ?c5 ?_) | fail)
          case c1 => exact cell_one_new _ _ _
          case c2 => simp [Value.oneCell']
          case c3 => unfold maxLen; omega
          case c4 => omega
          case c5 => have := S6.out.lt; simp; omega
          intro v' w4 hown hgrow hnil
          have S5 := Lib.hid ((S6.out.kept ((Upd.refl _ _).alloc (.cells #[.int .i64 (out.length : Int)] 3))).appF (by rw [HL.out.1]; exact hown) hgrow)
          obtain ⟨af', cf', rfl⟩ := row_form hown
          have HL5 : Hid ((ofl ++ [(out.length : Int)]).length = k + 1 ∧ (m + 1) ≤ k + 1 ∧ (out ++ [(⟨f, t, c⟩ : Ar)]).length ≤ k + 1) := Lib.hid ⟨by simp [HL.out.1], by have := HL.out; omega, by have := HL.out; simp; omega⟩
          clear hown hgrow hnil S6 hi hz0 hz1 hz2 HR HL
          go_wp2_with fail
          go_roundw
          case rel => exact ⟨k + 1, (out ++ [(⟨f, t, c⟩ : Ar)]), ofl ++ [(out.length : Int)], ao', co', af', cf', (m + 1), by go_num, by omega, rfl, S5, HL5, HJ2, HF2⟩
          case measure => simp [intOf]; omega
        | some i => as_aux_lemma =>
          obtain ⟨hio, hif, hit⟩ := idx_some hix
          have HRM := HF.out.room i hio
          simp only at HRM
          obtain ⟨r, hr⟩ : ∃ r, out[i].c + c = r := ⟨_, rfl⟩
          have HJ2 : Hid (joinGo [] [] ys = joinGo (out.set i ⟨out[i].f, out[i].t, r⟩) (ofl ++ [(i : Int)]) (ys.drop (k + 1))) := Lib.hid (by
            rw [HJ.out]
            simp only [joinGo, joinStep, if_neg hft, hix]
            rw [hif, hit, ← hr]
            simp [hio])
          have HF2 : Hid (Fine N (out.set i ⟨out[i].f, out[i].t, r⟩) (ys.drop (k + 1))) := Lib.hid (by rw [← hr]; exact HF.out.add i hio _ _)
          have HG := Lib.hid (idxG_set out i hio r)
          have hlk := S2.out.map.lookOk HWF.out HWT.out (c := (i : Int)) (z := true) (by simp [idxG, hix]) (by simp [idxG, hix])
          have hob : ob < wr.heap.size := by have := S2.out.lt; omega
          clear HJ HF hix hv hif hit
          go_upto_region 17 with (fail)
          clear hlk
          generalize ((wr.alloc (.cells #[.int .i64 f, .int .i64 t, .int .i64 c] 31)).alloc (.cells #[.int .i64 f, .int .i64 t] 41)) = W2 at S2 HA HE ⊢
          clear c0 c1 c2 hob HE
          obtain ⟨gb, rfl, hgb, hgl, hgf⟩ := S2.out.own.blk (by omega)
          have ccap := S2.out.own.capAt i hio
          have cA := HA.out.cell
          have cnet := S2.out.net.cell
          have q2 : (0 : Int) ≤ (i : Int) := by omega
          have q3 : (i : Int) < (out.length : Int) := by omega
          generalize hzc : out[i].c = z at ccap HRM hr
          have hw1 : IntKind.i64.wrap (z + c) = r := by rw [IntKind.wrap_i64]; omega
          clear hzc hr
          go_still_tail 9, (by kernel_rfl)
          change wpList _ _ _ _ _ W2.drew
          have S3 := Lib.hid (S2.out.kept (Upd.refl _ _).drew)
          clear S2 HA ccap cA cnet hw1
          have hgf3 : ∀ j, W2.drew.frozen? ⟨gb, j, none⟩ = false := hgf
          have ccap3 := S3.out.own.capAt i hio
          clear hgf
          generalize W2.drew = W3 at S3 hgf3 ccap3 ⊢
          go_upto_region 18 with (fail)
          have hlen : (out.set i ⟨out[i].f, out[i].t, r⟩).length = out.length := by simp
          have S6 : Hid (JS w nb rb ob mb Bs N S T (.slice (some ⟨b, off, none⟩) ys.length cap) (.slice (some ⟨gb, 0, none⟩) (out.set i ⟨out[i].f, out[i].t, r⟩).length co) (.slice (some ⟨gb, 0, none⟩) (out.set i ⟨out[i].f, out[i].t, r⟩).length co) (.slice af k cf) (out.set i ⟨out[i].f, out[i].t, r⟩) ofl (idxG (out.set i ⟨out[i].f, out[i].t, r⟩)) m (W3.setCell ⟨gb, i * 3 + 2, none⟩ (.int .i64 r))) := Lib.hid (by
            rw [HG.out, hlen]
            exact S3.out.setCap i hio r)
          generalize (W3.setCell ⟨gb, i * 3 + 2, none⟩ (.int .i64 r)) = W5 at S6 ⊢
          have HLO : Hid ((out.set i ⟨out[i].f, out[i].t, r⟩).length ≤ k + 1) := Lib.hid (by have := HL.out; rw [hlen]; omega)
          clear S3 hgf3 ccap3 HG hlen
          obtain ⟨hi, hz0, hz1, hz2⟩ := HI0.out
          have HR : Hid ((W5.alloc (.cells #[.int .i64 (i : Int)] 3)).ownsRow Bs 3 1 (.slice af k cf) k (ofl.map (Value.int .i64))) := Lib.hid (by have h := (S6.out.kept ((Upd.refl _ _).alloc (.cells #[.int .i64 (i : Int)] 3))).ofr; rw [HL.out.1] at h; exact h)
          go_wp2_with (first | (at_builtin; refine wpList_append_own _ rfl _ _ 37 rfl Bs 3 i0 (.int .i64 0) 1 8 Try.underlying37 hi hz0 hz1 hz2 rfl (by decide) _ k (ofl.map (Value.int .i64)) rfl HR.out ⟨W5.heap.size, 0, none⟩ 1 1 [.int .i64 (i : Int)] rfl rfl ?c1 ?c2 ?c3 ?c4 ?c5 ?_) | fail)
          case c1 => exact cell_one_new _ _ _
          case c2 => simp [Value.oneCell']
          case c3 => unfold maxLen; omega
          case c4 => omega
          case c5 => have := S6.out.lt; simp; omega
          intro v' w4 hown hgrow hnil
          have S5 := Lib.hid ((S6.out.kept ((Upd.refl _ _).alloc (.cells #[.int .i64 (i : Int)] 3))).appF (by rw [HL.out.1]; exact hown) hgrow)
          obtain ⟨af', cf', rfl⟩ := row_form hown
          have HL5 : Hid ((ofl ++ [(i : Int)]).length = k + 1 ∧ m ≤ k + 1 ∧ (out.set i (⟨out[i].f, out[i].t, r⟩ : Ar)).length ≤ k + 1) := Lib.hid ⟨by simp [HL.out.1], by have := HL.out; omega, HLO.out⟩
          clear hown hgrow hnil S6 hi hz0 hz1 hz2 HR HL
          go_wp2_with fail
          go_roundw
          case rel => exact ⟨k + 1, (out.set i (⟨out[i].f, out[i].t, r⟩ : Ar)), ofl ++ [(i : Int)], (some ⟨gb, 0, none⟩), co, af', cf', m, by go_num, by omega, rfl, S5, HL5, HJ2, HF2⟩
          case measure => simp [intOf]; omega
    · as_aux_lemma =>
      obtain rfl : k = ys.length := by omega
      have HJ2 : Hid (joinGo [] [] ys = (out, ofl)) := Lib.hid (by rw [HJ.out, List.drop_of_length_le (Nat.le_refl _)]; rfl)
      have cnet := S1.out.net.cell
      have cres := S1.out.res.cell
      have fres := S1.out.res.free
      clear HJ HF HX
      go_wp2_with fail
      obtain ⟨w3, hw3, hB3, hU3⟩ := S1.out.res.put4 (.int .i64 N) (.int .i64 S) (.int .i64 T) (.slice ao out.length co)
      rw [← hw3]
      have hc3 := hB3.cell
      clear hw3 cnet cres fres
      have hb := S1.out.lt
      refine bodyPost_ret (v := .tuple #[.agg #[.int .i64 N, .int .i64 S, .int .i64 T, .slice ao out.length co], .slice af ys.length cf]) ?_ rfl ?_
      · simp [results, go_sem, hc3]
      · rw [HJ2.out]
        refine ⟨ao, co, _, rfl, (S1.out.own.upd hU3 (fun k hk he => by omega)).base (by omega), ?_, S1.out.kp.then hU3 (fun k hk he => by omega)⟩
        exact ownsRow_base (ownsRow_far S1.out.ofr hU3 (fun k hk he => by have := (World.ownsRow.lt S1.out.ofr k hk).1; omega)) (by omega)
end Go.Proofs.Ytafabeehbifgaaa
