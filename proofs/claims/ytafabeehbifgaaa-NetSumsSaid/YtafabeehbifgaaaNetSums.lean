/- The law NetSums (printed by gen_sums01.py). -/
import Derived.Test.YtafabeehbifgaaaSums
import Derived.Test.YtafabeehbifgaaaAwake01
import Derived.Test.YtafabeehbifgaaaOpenNet
import Derived.Deep.CutRange
import Derived.Deep.RegionHeldLaw
namespace Go.Proofs.Ytafabeehbifgaaa
set_option linter.unusedVariables false
open Go.RowKit

theorem sum_is {w : World} {a : Option Addr} {xs : List Ar} (h : Ars w a xs) {n : Nat} (hn : xs.length = n) (hm : n ≤ 1000000) {s : Int} {b : Bool} (hs : sumT xs = s) (hb : sumB xs = b) (N S T : Int) (c : Nat) :
    Calls Try.prog 12 #[.agg #[.int .i64 N, .int .i64 S, .int .i64 T, .slice a n c]] w fun e w' => e = .returned (.tuple #[.int .i64 s, .bool b]) ∧ Kept w w' := by
  subst hn hs hb; exact Sum_any N S T a c xs w h (by omega)
theorem copy_is (N S T : Int) {w : World} {a : Option Addr} {xs : List Ar} (h : Ars w a xs) {n : Nat} (hn : xs.length = n) (hm : n ≤ 1000000) (c : Nat) :
    Calls Try.prog 9 #[.agg #[.int .i64 N, .int .i64 S, .int .i64 T, .slice a n c]] w fun e w' => ∃ a' c', e = .returned (.agg #[.int .i64 N, .int .i64 S, .int .i64 T, (.slice a' n c')]) ∧ Own w' w.heap.size (.slice a' n c') xs ∧ Kept w w' := by
  subst hn; exact Copy_any N S T a c xs w h (by omega)
set_option maxRecDepth 100000 in
set_option maxHeartbeats 2000000 in
theorem netSums_core (N S T : Int) (a : Option Addr) (cap : Nat) (ys : List Ar) (tn c : Int) (w : World) (h : Ars w a ys) (hcap : ys.length ≤ cap) (hmost : cap ≤ 9223372036854775807) (ht0 : 0 ≤ tn) (ht1 : tn ≤ 255) (hc0 : -9223372036854775808 ≤ c) (hc1 : c ≤ 9223372036854775807) :
    Calls Try.prog 4 #[.agg #[.int .i64 N, .int .i64 S, .int .i64 T, .slice a ys.length cap], .int .u8 tn, .int .i64 c] w fun e w' => e = .returned (.bool true) ∧ Kept w w' := by
  have HAW := fun w => Lib.hid (awake_any w)
  obtain ⟨M, hM⟩ : ∃ M, M = min ys.length 100 := ⟨_, rfl⟩
  have hM1 : M ≤ ys.length := by omega
  have hM2 : M ≤ 100 := by omega
  have hsl := fun w => run_take (P := Try.prog) Try.underlying22 (size := 3) (by kernel_rfl) a ys.length cap M (by omega) w
  have hif1 : (if (100 : Int) < (ys.length : Int) then (100 : Int) else (ys.length : Int)) = (M : Int) := by split <;> omega
  have hif2 : (if 100 < ys.length then (100 : Int) else (ys.length : Int)) = (M : Int) := by split <;> omega
  have hxl : (ys.take M).length = M := by simp; omega
  have HX := Lib.hid (h.take M)
  generalize hxs : ys.take M = xs at HX hxl
  have HL : Hid (xs.length = M ∧ M ≤ 1000000) := Lib.hid ⟨hxl, by omega⟩
  have HMX : Hid (M ≤ 100 ∧ M ≤ cap ∧ cap ≤ 9223372036854775807) := Lib.hid ⟨hM2, by omega, hmost⟩
  clear h hxs hM hxl
  go_enter Try.func4, Try.ntmps4
  go_upto_region 2 with (fail)
  have HB0 := Lib.hid (Blk.new w #[.int .i64 N, .int .i64 S, .int .i64 T, .slice a M cap] 24)
  have HK0 := Lib.hid ((Upd.refl (fun _ => False) w).alloc (.cells #[.int .i64 N, .int .i64 S, .int .i64 T, .slice a M cap] 24))
  have HA0 := Lib.hid (HX.out.kept HK0.out)
  have HNB : Hid (w.heap.size ≤ w.heap.size) := Lib.hid (Nat.le_refl _)
  generalize (w.alloc (.cells #[.int .i64 N, .int .i64 S, .int .i64 T, .slice a M cap] 24)) = W0 at HB0 HK0 HA0 ⊢
  generalize hnb : w.heap.size = nb at HB0 ⊢
  have HNW : Hid (w.heap.size ≤ nb) := Lib.hid (Nat.le_of_eq hnb)
  clear hnb hsl hif1 hif2 HNB hcap hmost hM1 hM2
  obtain ⟨s0, hs0⟩ : ∃ s0, sumT xs = s0 := ⟨_, rfl⟩
  obtain ⟨ok, hok⟩ : ∃ ok, sumB xs = ok := ⟨_, rfl⟩
  have HS := fun (W : World) (h : Ars W a xs) => Lib.hid (sum_is h HL.out.1 HL.out.2 hs0 hok)
  have HS0 := Lib.hid hs0
  have HOK := Lib.hid hok
  clear hs0 hok
  have cb := HB0.out.cell
  go_wp2_with fail
  refine (HS _ HA0.out).out N S T cap |>.mono ?_
  rintro e w1 ⟨rfl, hk⟩
  have HB1 := Lib.hid (HB0.out.kept hk)
  have HK1 := Lib.hid (HK0.out.trans hk)
  have HA1 := Lib.hid (HA0.out.kept hk)
  clear hk HB0 HK0 HA0 cb
  have cb := HB1.out.cell
  by_cases hM0 : M = 0
  · as_aux_lemma =>
    subst hM0
    go_upto_region 10 with (fail)
    clear cb
    have HB := HB1
    have HA := HA1
    have HK := HK1
    clear HB1 HA1 HK1
    have cb := HB.out.cell
    have HCP := Lib.hid (copy_is N S T HA.out HL.out.1 HL.out.2 cap)
    have hWs : w.heap.size ≤ w1.heap.size := HK.out.size
    go_wp2_with fail
    refine HCP.out.mono ?_
    rintro e w5 ⟨a5, c5, rfl, hO, hk⟩
    have HB5 := Lib.hid (HB.out.kept hk)
    have HA5 := Lib.hid (HA.out.kept hk)
    have HK5 := Lib.hid (HK.out.trans hk)
    have HO5 := Lib.hid (hO.base hWs)
    clear hO hk HB HA HK cb HCP hWs
    have hmw : w.heap.size ≤ w5.heap.size := HK5.out.size
    have hnm : ¬ nb = w5.heap.size := by have := HB5.out.lt; omega
    go_upto_region 11 with (fail)
    have HM6 := Lib.hid (Blk.new w5 #[.int .i64 N, .int .i64 S, .int .i64 T, .slice a5 0 c5] 24)
    have HB6 := Lib.hid (HB5.out.alloc (.cells #[.int .i64 N, .int .i64 S, .int .i64 T, .slice a5 0 c5] 24))
    have HK6 := Lib.hid (HK5.out.alloc (.cells #[.int .i64 N, .int .i64 S, .int .i64 T, .slice a5 0 c5] 24))
    have HO6 := Lib.hid (HO5.out.kept ((Upd.refl _ _).alloc (.cells #[.int .i64 N, .int .i64 S, .int .i64 T, .slice a5 0 c5] 24)))
    generalize (w5.alloc (.cells #[.int .i64 N, .int .i64 S, .int .i64 T, .slice a5 0 c5] 24)) = w6 at HM6 HB6 HK6 HO6 ⊢
    clear HB5 HA5 HK5 HO5
    generalize w5.heap.size = m2 at HM6 hmw hnm ⊢
    have HM7 := Lib.hid (HM6.out.alloc (.cells #[.int .i64 0, .int .i64 0, .int .i64 c] 31))
    have HB7 := Lib.hid (HB6.out.alloc (.cells #[.int .i64 0, .int .i64 0, .int .i64 c] 31))
    have HK7 := Lib.hid (HK6.out.alloc (.cells #[.int .i64 0, .int .i64 0, .int .i64 c] 31))
    have HO7 : Hid ((w6.alloc (.cells #[.int .i64 0, .int .i64 0, .int .i64 c] 31)).ownsRow w.heap.size 31 3 (.slice a5 0 c5) 0 (acells xs)) := Lib.hid (by
      have h := HO6.out.kept ((Upd.refl _ _).alloc (.cells #[.int .i64 0, .int .i64 0, .int .i64 c] 31))
      unfold Own at h
      rw [HL.out.1] at h
      exact h)
    have HO8' := Lib.hid (HO6.out.kept ((Upd.refl _ _).alloc (.cells #[.int .i64 0, .int .i64 0, .int .i64 c] 31)))
    have cm6 := HM6.out.cell
    have lm6 := HM6.out.lt
    obtain ⟨j1, hi, hz0, hz1, hz2⟩ := info_parts infoArc
    go_wp2_with (first | (at_builtin; refine wpList_append_own _ rfl _ _ 22 rfl w.heap.size 31 j1 (.agg #[.int .i64 0, .int .i64 0, .int .i64 0]) 3 24 Try.underlying22 hi hz0 hz1 hz2 rfl (by decide) _ 0 (acells xs) rfl HO7.out ⟨w6.heap.size, 0, none⟩ 1 1 [.int .i64 0, .int .i64 0, .int .i64 c] rfl rfl (cells_new _ _ _) (by intro u hu; simp at hu; rcases hu with rfl | rfl <;> rfl) (by have := HMX.out; unfold maxLen; omega) (by have := HMX.out; omega) (by have := HK6.out.size; simp; omega) ?_; intro v' w7 hown hgrow hnil; obtain ⟨a7, c7, rfl⟩ := row_form hown; have hU7 : Upd (fun k => (Value.slice a5 0 c5).ownBlock = some k) (w6.alloc (.cells #[.int .i64 0, .int .i64 0, .int .i64 c] 31)) w7 := Upd.grown (Upd.refl _ _) hgrow (fun k hk => .inl hk); have HM8 := Lib.hid (HM7.out.upd hU7 (HO8'.out.neBlk HM7.out (by decide))); have HB8 := Lib.hid (HB7.out.upd hU7 (HO8'.out.neBlk HB7.out (by decide))); have HK8 := Lib.hid (HK7.out.then hU7 (fun k hk he => by have := (World.ownsRow.lt HO7.out k he).1; omega)); have HW8 := Lib.hid hown; have cm8 := HM8.out.cell; have fm8 := HM8.out.free) | fail)
    have hzl : (xs ++ [(⟨0, 0, c⟩ : Ar)]).length = 1 := by simp [HL.out.1]
    have HK9 : Hid (Kept w (w7.setCell ⟨m2, 3, none⟩ (.slice a7 1 c7))) := Lib.hid (Upd.setCell HK8.out (.inr hmw) _)
    have HB9 := Lib.hid (Blk.other HB8.out (p := ⟨m2, 3, none⟩) hnm (.slice a7 1 c7))
    have HA9 := Lib.hid (HX.out.kept HK9.out)
    have HO9 : Hid (Ars (w7.setCell ⟨m2, 3, none⟩ (.slice a7 1 c7)) a7 (xs ++ [⟨0, 0, c⟩])) := by
      have h : Own w7 w.heap.size (.slice a7 1 c7) (xs ++ [⟨0, 0, c⟩]) := by
        unfold Own
        rw [acells_append, hzl]
        exact HW8.out
      have hu : Upd (fun k => k = m2) w7 (w7.setCell ⟨m2, 3, none⟩ (.slice a7 1 c7)) := Upd.setCell (S := fun k => k = m2) (Upd.refl _ _) (.inl rfl) _
      exact Lib.hid (h.far hu (fun g hg he => by subst hg; exact h.ne HM8.out (by decide) he)).at.2
    generalize (w7.setCell ⟨m2, 3, none⟩ (.slice a7 1 c7)) = w9 at HK9 HB9 HA9 HO9 ⊢
    clear HW8 cm8 fm8 HM8 HB8 HK8 hU7 hown hgrow hnil HM7 HB7 HK7 HO7 HM6 HB6 HK6 HO6 HO8' cm6 lm6 hi hz0 hz1 hz2 hnm hmw
    obtain ⟨s1, hs1⟩ : ∃ s1, sumT (xs ++ [⟨0, 0, c⟩]) = s1 := ⟨_, rfl⟩
    obtain ⟨b1, hb1⟩ : ∃ b1, sumB (xs ++ [⟨0, 0, c⟩]) = b1 := ⟨_, rfl⟩
    have HSM := Lib.hid (sum_is HO9.out hzl (by have := HMX.out; omega) hs1 hb1)
    refine (HSM.out N S T c7).mono ?_
    rintro e w10 ⟨rfl, hk⟩
    have HB10 := Lib.hid (HB9.out.kept hk)
    have HK10 := Lib.hid (HK9.out.trans hk)
    have HA10 := Lib.hid (HA9.out.kept hk)
    have HMO := sum_more xs c
    rw [hs1, hb1, HS0.out, HOK.out] at HMO
    clear hk HB9 HK9 HA9 HO9 HSM hs1 hb1 hzl
    have cb10 := HB10.out.cell
    cases hok : ok
    · as_aux_lemma =>
      subst hok
      obtain ⟨rfl, rfl⟩ := HMO.1 rfl
      clear HMO
      have HCC : Hid (∀ x ∈ xs, True) := Lib.hid (fun _ _ => trivial)
      go_upto_region 15 with (fail)
      go_wp2_with fail
      go_loopw [115] (fun ix wr => ∃ k : Nat, ix = .int .i64 k ∧ k ≤ 0 ∧ Hid (Kept w10 wr)) (fun ix _ => 0 - (intOf ix).toNat)
      case atStart => exact ⟨0, rfl, by omega, Lib.hid (Upd.refl _ _)⟩
      case round =>
        obtain ⟨k, rfl, hk, HKr⟩ := hrel
        by_cases hlt : k < 0
        · exact absurd hlt (Nat.not_lt_zero _)
        · as_aux_lemma =>
          have HKf := Lib.hid (HK10.out.trans HKr.out)
          clear HKr cb10
          go_wp2_with fail
          refine (HAW _).out.mono ?_
          rintro e w11 ⟨rfl, hk⟩
          have HKf2 := Lib.hid (HKf.out.trans hk)
          clear hk
          go_wp2_with fail
          go_ret
          exact ⟨rfl, HKf2.out⟩
    · subst hok
      obtain ⟨hs0, hs2, hall, hbad, hgood⟩ := HMO.2 rfl
      have HCC := Lib.hid hall
      clear HMO hall
      by_cases hc : c < 0
      · as_aux_lemma =>
        obtain ⟨rfl, rfl⟩ := hbad (.inl hc)
        clear hbad hgood
        have hc' : ¬ 0 ≤ c := by omega
        go_upto_region 15 with (fail)
        go_wp2_with fail
        go_loopw [115] (fun ix wr => ∃ k : Nat, ix = .int .i64 k ∧ k ≤ 0 ∧ Hid (Kept w10 wr)) (fun ix _ => 0 - (intOf ix).toNat)
        case atStart => exact ⟨0, rfl, by omega, Lib.hid (Upd.refl _ _)⟩
        case round =>
          obtain ⟨k, rfl, hk, HKr⟩ := hrel
          by_cases hlt : k < 0
          · exact absurd hlt (Nat.not_lt_zero _)
          · as_aux_lemma =>
            have HKf := Lib.hid (HK10.out.trans HKr.out)
            clear HKr cb10
            go_wp2_with fail
            refine (HAW _).out.mono ?_
            rintro e w11 ⟨rfl, hk⟩
            have HKf2 := Lib.hid (HKf.out.trans hk)
            clear hk
            go_wp2_with fail
            go_ret
            exact ⟨rfl, HKf2.out⟩
      · by_cases hd : 4611686018427387904 - s0 < c
        · as_aux_lemma =>
          obtain ⟨rfl, rfl⟩ := hbad (.inr hd)
          clear hbad hgood
          have hc' : 0 ≤ c := by omega
          have hd' : ¬ c ≤ 4611686018427387904 - s0 := by omega
          go_upto_region 15 with (fail)
          go_wp2_with fail
          go_loopw [115] (fun ix wr => ∃ k : Nat, ix = .int .i64 k ∧ k ≤ 0 ∧ Hid (Kept w10 wr)) (fun ix _ => 0 - (intOf ix).toNat)
          case atStart => exact ⟨0, rfl, by omega, Lib.hid (Upd.refl _ _)⟩
          case round =>
            obtain ⟨k, rfl, hk, HKr⟩ := hrel
            by_cases hlt : k < 0
            · exact absurd hlt (Nat.not_lt_zero _)
            · as_aux_lemma =>
              have HKf := Lib.hid (HK10.out.trans HKr.out)
              clear HKr cb10
              go_wp2_with fail
              refine (HAW _).out.mono ?_
              rintro e w11 ⟨rfl, hk⟩
              have HKf2 := Lib.hid (HKf.out.trans hk)
              clear hk
              go_wp2_with fail
              go_ret
              exact ⟨rfl, HKf2.out⟩
        · as_aux_lemma =>
          obtain ⟨rfl, rfl⟩ := hgood (by omega) (by omega)
          clear hbad hgood
          have hc' : 0 ≤ c := by omega
          have hd' : c ≤ 4611686018427387904 - s0 := by omega
          go_upto_region 15 with (fail)
          go_wp2_with fail
          go_loopw [115] (fun ix wr => ∃ k : Nat, ix = .int .i64 k ∧ k ≤ 0 ∧ Hid (Kept w10 wr)) (fun ix _ => 0 - (intOf ix).toNat)
          case atStart => exact ⟨0, rfl, by omega, Lib.hid (Upd.refl _ _)⟩
          case round =>
            obtain ⟨k, rfl, hk, HKr⟩ := hrel
            by_cases hlt : k < 0
            · exact absurd hlt (Nat.not_lt_zero _)
            · as_aux_lemma =>
              have HKf := Lib.hid (HK10.out.trans HKr.out)
              clear HKr cb10
              go_wp2_with fail
              refine (HAW _).out.mono ?_
              rintro e w11 ⟨rfl, hk⟩
              have HKf2 := Lib.hid (HKf.out.trans hk)
              clear hk
              go_wp2_with fail
              go_ret
              exact ⟨rfl, HKf2.out⟩
  · have hMp : (0 : Int) < (M : Int) := by omega
    obtain ⟨b, off, rfl⟩ := HA1.out.some (by have := HL.out.1; intro e; rw [e] at this; simp at this; omega)
    obtain ⟨K, hK⟩ : ∃ K : Nat, K = tn.toNat % M := ⟨_, rfl⟩
    have hKM : K < M := by rw [hK]; exact Nat.mod_lt _ (by omega)
    have hKi : tn.tmod (M : Int) = (K : Int) := by
      have e : (tn.toNat : Int) = tn := by omega
      rw [Int.tmod_eq_emod_of_nonneg ht0, hK, Int.natCast_emod, e]
    have hKw : IntKind.i64.wrap (K : Int) = (K : Int) := by rw [IntKind.wrap_i64]; have := HL.out.2; omega
    have hMn : ¬ (M : Int) = 0 := by omega
    clear hK
    go_upto_region 6 with (fail)
    clear cb
    have HB2 := Lib.hid (HB1.out.alloc (.cells #[.int .i64 N, .int .i64 S, .int .i64 T, .slice (some ⟨b, off, none⟩) M cap] 24))
    have HM2 := Lib.hid (Blk.new w1 #[.int .i64 N, .int .i64 S, .int .i64 T, .slice (some ⟨b, off, none⟩) M cap] 24)
    have HK2 := Lib.hid (HK1.out.alloc (.cells #[.int .i64 N, .int .i64 S, .int .i64 T, .slice (some ⟨b, off, none⟩) M cap] 24))
    have HA2 := Lib.hid (HA1.out.kept ((Upd.refl _ _).alloc (.cells #[.int .i64 N, .int .i64 S, .int .i64 T, .slice (some ⟨b, off, none⟩) M cap] 24)))
    have hnm : ¬ nb = w1.heap.size := by have := HB1.out.lt; omega
    have hwm : w.heap.size ≤ w1.heap.size := HK1.out.size
    generalize (w1.alloc (.cells #[.int .i64 N, .int .i64 S, .int .i64 T, .slice (some ⟨b, off, none⟩) M cap] 24)) = W2 at HB2 HM2 HK2 HA2 ⊢
    generalize w1.heap.size = mb at HM2 hnm hwm ⊢
    clear HB1 HK1 HA1
    have hlow := fun w => run_low (P := Try.prog) Try.underlying22 (size := 3) (by kernel_rfl) b off M cap K (by omega) HMX.out.2.1 (by have := HMX.out; omega) w
    have htk := fun w => run_take (P := Try.prog) Try.underlying22 (size := 3) (by kernel_rfl) (some ⟨b, off, none⟩) M cap K (by have := HMX.out; omega) w
    obtain ⟨j0, hi, hz0, hz1, hz2⟩ := info_parts infoArc
    -- the new, empty row
    obtain ⟨EB, hEB⟩ : ∃ EB, EB = W2.heap.size := ⟨_, rfl⟩
    have HO3 : Hid ((W2.alloc (.cells #[] 31)).ownsRow EB 31 3 (.slice (some ⟨W2.heap.size, 0, none⟩) 0 0) 0 []) := Lib.hid (by rw [hEB]; exact World.ownsRow_lit W2 #[] 0 (Nat.le_refl _) (by decide) rfl)
    have HK3 : Hid (Kept w (W2.alloc (.cells #[] 31))) := Lib.hid (HK2.out.alloc _)
    have HB3 : Hid (Blk (W2.alloc (.cells #[] 31)) nb #[.int .i64 N, .int .i64 S, .int .i64 T, .slice (some ⟨b, off, none⟩) M cap] 24) := Lib.hid (HB2.out.alloc _)
    have HM3 : Hid (Blk (W2.alloc (.cells #[] 31)) mb #[.int .i64 N, .int .i64 S, .int .i64 T, .slice (some ⟨b, off, none⟩) M cap] 24) := Lib.hid (HM2.out.alloc _)
    have HA3 : Hid (Ars (W2.alloc (.cells #[] 31)) (some ⟨b, off, none⟩) xs) := Lib.hid (HA2.out.kept ((Upd.refl _ _).alloc _))
    have HEB : Hid (mb < EB ∧ nb < EB ∧ w.heap.size ≤ EB) := Lib.hid (by rw [hEB]; exact ⟨HM2.out.lt, HB2.out.lt, HK2.out.size⟩)
    have hne : ∀ (g : Nat) (u : World) (vv : Value) (nn : Nat) (zs : List Value), u.ownsRow EB 31 3 vv nn zs → vv.ownBlock = some g → EB ≤ g := fun g u vv nn zs h1 h2 => (World.ownsRow.lt h1 g h2).1
    have C2 : ∀ i, W2.drew.cell? ⟨nb, i, none⟩ = (#[.int .i64 N, .int .i64 S, .int .i64 T, .slice (some ⟨b, off, none⟩) M cap] : Array Value)[i]? := HB2.out.cell
    have C3 : ∀ i, (W2.alloc (.cells #[] 31)).drew.cell? ⟨nb, i, none⟩ = (#[.int .i64 N, .int .i64 S, .int .i64 T, .slice (some ⟨b, off, none⟩) M cap] : Array Value)[i]? := HB3.out.cell
    have hd1 : (acells (xs.drop K)).length = (M - K) * 3 := by rw [acells_len, List.length_drop, HL.out.1]
    have hd2 : (acells (xs.take K)).length = K * 3 := by rw [acells_len, List.length_take, HL.out.1, Nat.min_eq_left (by omega)]
    go_region_held_law (fun w' => ∀ i, w'.cell? ⟨nb, i, none⟩ = (#[.int .i64 N, .int .i64 S, .int .i64 T, .slice (some ⟨b, off, none⟩) M cap] : Array Value)[i]?)
      (first | exact C2 | exact C3 | exact C4 | exact C5 | exact C6)
      (first
        | (refine step_append_own rfl (.tmp 42) (.tmp 46) 22 rfl EB 31 j0 (.agg #[.int .i64 0, .int .i64 0, .int .i64 0]) 3 24 Try.underlying22 hi hz0 hz1 hz2 rfl (by decide) (.slice (some ⟨W2.heap.size, 0, none⟩) 0 0) 0 [] (by simp [Act.eval]) HO3.out ⟨b, off + K * 3, none⟩ (M - K) (cap - K) (acells (xs.drop K)) (by simp [Act.eval]) hd1 (arsNews (arsLow HA3.out K)) (acells_one _) (M - K) (by omega) (by omega) (by have := HMX.out; unfold maxLen; omega) (by have := HMX.out; omega) (by simp; omega) ?_; intro g4 cap4 w4 hown hgrow; have hU4 : Upd (fun k => EB ≤ k) (W2.alloc (.cells #[] 31)) w4 := Upd.grown ((Upd.refl _ (W2.alloc (.cells #[] 31))).drew) hgrow (fun k hk => .inl (hne k _ _ _ _ HO3.out hk)); have HKW4 : Hid (Kept W2 w4) := Lib.hid (((Upd.refl _ _).alloc (.cells #[] 31)).then hU4 (fun i hi he => by omega)); have HO4 : Hid (w4.ownsRow EB 31 3 (.slice (some ⟨g4, 0, none⟩) (M - K) cap4) (M - K) (acells (xs.drop K))) := Lib.hid hown; have C4 := (HB2.out.kept HKW4.out).cell; have HA4 := Lib.hid (HA2.out.kept HKW4.out); have hE4 : EB ≤ w4.heap.size := Nat.le_trans (Nat.le_of_eq hEB) HKW4.out.size; clear hown hgrow hU4)
        | (refine step_append_own rfl (.tmp 47) (.tmp 51) 22 rfl EB 31 j0 (.agg #[.int .i64 0, .int .i64 0, .int .i64 0]) 3 24 Try.underlying22 hi hz0 hz1 hz2 rfl (by decide) (.slice (some ⟨g4, 0, none⟩) (M - K) cap4) (M - K) (acells (xs.drop K)) (by simp [Act.eval, Act.put]) HO4.out ⟨b, off, none⟩ K cap (acells (xs.take K)) (by simp [Act.eval, Act.put]) hd2 (arsNews (HA4.out.take K)) (acells_one _) M (by omega) (by omega) (by have := HMX.out; unfold maxLen; omega) (by have := HMX.out; omega) hE4 ?_; intro g8 cap8 w8 hown hgrow; have hU8 : Upd (fun k => EB ≤ k) w4 w8 := Upd.grown (Upd.refl _ _) hgrow (fun k hk => .inl (hne k _ _ _ _ HO4.out hk)); have HKW8 : Hid (Kept W2 w8) := Lib.hid (HKW4.out.then hU8 (fun i hi he => by omega)); have HO8 : Hid (w8.ownsRow EB 31 3 (.slice (some ⟨g8, 0, none⟩) M cap8) M (acells (xs.drop K) ++ acells (xs.take K))) := Lib.hid hown; have HM8 := Lib.hid (HM2.out.kept HKW8.out); have HB8 := Lib.hid (HB2.out.kept HKW8.out); have C5 := HB8.out.cell; have cm8 := HM8.out.cell; have fm8 := HM8.out.free; have C6 := (Blk.other HB8.out (p := ⟨mb, 3, none⟩) hnm (.slice (some ⟨g8, 0, none⟩) M cap8)).cell; clear hown hgrow hU8))
    have HK9 : Hid (Kept w (w8.setCell ⟨mb, 3, none⟩ (.slice (some ⟨g8, 0, none⟩) M cap8))) := Lib.hid (Upd.setCell (HK2.out.trans HKW8.out) (.inr hwm) _)
    have HM9 : Hid (Blk (w8.setCell ⟨mb, 3, none⟩ (.slice (some ⟨g8, 0, none⟩) M cap8)) mb #[.int .i64 N, .int .i64 S, .int .i64 T, .slice (some ⟨g8, 0, none⟩) M cap8] 24) := Lib.hid (by have := HM8.out.set 3 (.slice (some ⟨g8, 0, none⟩) M cap8); simpa using this)
    have HB9 := Lib.hid (Blk.other HB8.out (p := ⟨mb, 3, none⟩) hnm (.slice (some ⟨g8, 0, none⟩) M cap8))
    have HA9 := Lib.hid (HX.out.kept HK9.out)
    have hzl : (xs.drop K ++ xs.take K).length = M := by have := HL.out.1; simp; omega
    have HO9 : Hid (Ars (w8.setCell ⟨mb, 3, none⟩ (.slice (some ⟨g8, 0, none⟩) M cap8)) (some ⟨g8, 0, none⟩) (xs.drop K ++ xs.take K)) := by
      have h : Own w8 EB (.slice (some ⟨g8, 0, none⟩) M cap8) (xs.drop K ++ xs.take K) := by
        unfold Own
        rw [acells_append, hzl]
        exact HO8.out
      have hu : Upd (fun k => k = mb) w8 (w8.setCell ⟨mb, 3, none⟩ (.slice (some ⟨g8, 0, none⟩) M cap8)) := Upd.setCell (S := fun k => k = mb) (Upd.refl _ _) (.inl rfl) _
      exact Lib.hid (h.far hu (fun g hg he => by cases hg; exact h.ne HM8.out (by decide) he)).at.2
    generalize (w8.setCell ⟨mb, 3, none⟩ (.slice (some ⟨g8, 0, none⟩) M cap8)) = w9 at HK9 HM9 HB9 HA9 HO9 ⊢
    clear C2 C3 C4 C5 C6 cm8 fm8 HO4 HO8 HB8 HM8 HKW8 HKW4 HA4 HA3 HA2 HB2 HB3 HM2 HM3 HK2 HK3 HO3 hlow htk hd1 hd2 hne hE4 HEB hi hz0 hz1 hz2
    have HSR := Lib.hid (sum_is HO9.out hzl HL.out.2 ((sum_rot xs K).1.trans HS0.out) ((sum_rot xs K).2.trans HOK.out))
    have cm9 := HM9.out.cell
    go_upto_region 7 with (fail)
    go_wp2_with fail
    refine (HSR.out N S T cap8).mono ?_
    rintro e w10 ⟨rfl, hk⟩
    have HB := Lib.hid (HB9.out.kept hk)
    have HA := Lib.hid (HA9.out.kept hk)
    have HK := Lib.hid (HK9.out.trans hk)
    clear hk HB9 HA9 HK9 HM9 HO9 HSR cm9 hzl
    clear hMp hKi hKw hMn hKM hM0 hnm hwm hEB
    go_upto_region 10 with (fail)
    have cb := HB.out.cell
    have HCP := Lib.hid (copy_is N S T HA.out HL.out.1 HL.out.2 cap)
    have hWs : w.heap.size ≤ w10.heap.size := HK.out.size
    go_wp2_with fail
    refine HCP.out.mono ?_
    rintro e w5 ⟨a5, c5, rfl, hO, hk⟩
    have HB5 := Lib.hid (HB.out.kept hk)
    have HA5 := Lib.hid (HA.out.kept hk)
    have HK5 := Lib.hid (HK.out.trans hk)
    have HO5 := Lib.hid (hO.base hWs)
    clear hO hk HB HA HK cb HCP hWs
    have hmw : w.heap.size ≤ w5.heap.size := HK5.out.size
    have hnm : ¬ nb = w5.heap.size := by have := HB5.out.lt; omega
    go_upto_region 11 with (fail)
    have HM6 := Lib.hid (Blk.new w5 #[.int .i64 N, .int .i64 S, .int .i64 T, .slice a5 M c5] 24)
    have HB6 := Lib.hid (HB5.out.alloc (.cells #[.int .i64 N, .int .i64 S, .int .i64 T, .slice a5 M c5] 24))
    have HK6 := Lib.hid (HK5.out.alloc (.cells #[.int .i64 N, .int .i64 S, .int .i64 T, .slice a5 M c5] 24))
    have HO6 := Lib.hid (HO5.out.kept ((Upd.refl _ _).alloc (.cells #[.int .i64 N, .int .i64 S, .int .i64 T, .slice a5 M c5] 24)))
    generalize (w5.alloc (.cells #[.int .i64 N, .int .i64 S, .int .i64 T, .slice a5 M c5] 24)) = w6 at HM6 HB6 HK6 HO6 ⊢
    clear HB5 HA5 HK5 HO5
    generalize w5.heap.size = m2 at HM6 hmw hnm ⊢
    have HM7 := Lib.hid (HM6.out.alloc (.cells #[.int .i64 0, .int .i64 0, .int .i64 c] 31))
    have HB7 := Lib.hid (HB6.out.alloc (.cells #[.int .i64 0, .int .i64 0, .int .i64 c] 31))
    have HK7 := Lib.hid (HK6.out.alloc (.cells #[.int .i64 0, .int .i64 0, .int .i64 c] 31))
    have HO7 : Hid ((w6.alloc (.cells #[.int .i64 0, .int .i64 0, .int .i64 c] 31)).ownsRow w.heap.size 31 3 (.slice a5 M c5) M (acells xs)) := Lib.hid (by
      have h := HO6.out.kept ((Upd.refl _ _).alloc (.cells #[.int .i64 0, .int .i64 0, .int .i64 c] 31))
      unfold Own at h
      rw [HL.out.1] at h
      exact h)
    have HO8' := Lib.hid (HO6.out.kept ((Upd.refl _ _).alloc (.cells #[.int .i64 0, .int .i64 0, .int .i64 c] 31)))
    have cm6 := HM6.out.cell
    have lm6 := HM6.out.lt
    obtain ⟨j1, hi, hz0, hz1, hz2⟩ := info_parts infoArc
    go_wp2_with (first | (at_builtin; refine wpList_append_own _ rfl _ _ 22 rfl w.heap.size 31 j1 (.agg #[.int .i64 0, .int .i64 0, .int .i64 0]) 3 24 Try.underlying22 hi hz0 hz1 hz2 rfl (by decide) _ M (acells xs) rfl HO7.out ⟨w6.heap.size, 0, none⟩ 1 1 [.int .i64 0, .int .i64 0, .int .i64 c] rfl rfl (cells_new _ _ _) (by intro u hu; simp at hu; rcases hu with rfl | rfl <;> rfl) (by have := HMX.out; unfold maxLen; omega) (by have := HMX.out; omega) (by have := HK6.out.size; simp; omega) ?_; intro v' w7 hown hgrow hnil; obtain ⟨a7, c7, rfl⟩ := row_form hown; have hU7 : Upd (fun k => (Value.slice a5 M c5).ownBlock = some k) (w6.alloc (.cells #[.int .i64 0, .int .i64 0, .int .i64 c] 31)) w7 := Upd.grown (Upd.refl _ _) hgrow (fun k hk => .inl hk); have HM8 := Lib.hid (HM7.out.upd hU7 (HO8'.out.neBlk HM7.out (by decide))); have HB8 := Lib.hid (HB7.out.upd hU7 (HO8'.out.neBlk HB7.out (by decide))); have HK8 := Lib.hid (HK7.out.then hU7 (fun k hk he => by have := (World.ownsRow.lt HO7.out k he).1; omega)); have HW8 := Lib.hid hown; have cm8 := HM8.out.cell; have fm8 := HM8.out.free) | fail)
    have hzl : (xs ++ [(⟨0, 0, c⟩ : Ar)]).length = (M + 1) := by simp [HL.out.1]
    have HK9 : Hid (Kept w (w7.setCell ⟨m2, 3, none⟩ (.slice a7 (M + 1) c7))) := Lib.hid (Upd.setCell HK8.out (.inr hmw) _)
    have HB9 := Lib.hid (Blk.other HB8.out (p := ⟨m2, 3, none⟩) hnm (.slice a7 (M + 1) c7))
    have HA9 := Lib.hid (HX.out.kept HK9.out)
    have HO9 : Hid (Ars (w7.setCell ⟨m2, 3, none⟩ (.slice a7 (M + 1) c7)) a7 (xs ++ [⟨0, 0, c⟩])) := by
      have h : Own w7 w.heap.size (.slice a7 (M + 1) c7) (xs ++ [⟨0, 0, c⟩]) := by
        unfold Own
        rw [acells_append, hzl]
        exact HW8.out
      have hu : Upd (fun k => k = m2) w7 (w7.setCell ⟨m2, 3, none⟩ (.slice a7 (M + 1) c7)) := Upd.setCell (S := fun k => k = m2) (Upd.refl _ _) (.inl rfl) _
      exact Lib.hid (h.far hu (fun g hg he => by subst hg; exact h.ne HM8.out (by decide) he)).at.2
    generalize (w7.setCell ⟨m2, 3, none⟩ (.slice a7 (M + 1) c7)) = w9 at HK9 HB9 HA9 HO9 ⊢
    clear HW8 cm8 fm8 HM8 HB8 HK8 hU7 hown hgrow hnil HM7 HB7 HK7 HO7 HM6 HB6 HK6 HO6 HO8' cm6 lm6 hi hz0 hz1 hz2 hnm hmw
    obtain ⟨s1, hs1⟩ : ∃ s1, sumT (xs ++ [⟨0, 0, c⟩]) = s1 := ⟨_, rfl⟩
    obtain ⟨b1, hb1⟩ : ∃ b1, sumB (xs ++ [⟨0, 0, c⟩]) = b1 := ⟨_, rfl⟩
    have HSM := Lib.hid (sum_is HO9.out hzl (by have := HMX.out; omega) hs1 hb1)
    refine (HSM.out N S T c7).mono ?_
    rintro e w10 ⟨rfl, hk⟩
    have HB10 := Lib.hid (HB9.out.kept hk)
    have HK10 := Lib.hid (HK9.out.trans hk)
    have HA10 := Lib.hid (HA9.out.kept hk)
    have HMO := sum_more xs c
    rw [hs1, hb1, HS0.out, HOK.out] at HMO
    clear hk HB9 HK9 HA9 HO9 HSM hs1 hb1 hzl
    have cb10 := HB10.out.cell
    cases hok : ok
    · as_aux_lemma =>
      subst hok
      obtain ⟨rfl, rfl⟩ := HMO.1 rfl
      clear HMO
      have HCC : Hid (∀ x ∈ xs, True) := Lib.hid (fun _ _ => trivial)
      go_upto_region 15 with (fail)
      go_wp2_with fail
      go_loopw [115] (fun ix wr => ∃ k : Nat, ix = .int .i64 k ∧ k ≤ M ∧ Hid (Kept w10 wr)) (fun ix _ => M - (intOf ix).toNat)
      case atStart => exact ⟨0, rfl, by omega, Lib.hid (Upd.refl _ _)⟩
      case round =>
        obtain ⟨k, rfl, hk, HKr⟩ := hrel
        by_cases hlt : k < M
        · as_aux_lemma =>
          have hlx : k < xs.length := by rw [HL.out.1]; exact hlt
          obtain ⟨b9, off9, e9, d0, d1, d2⟩ := (HA10.out.kept HKr.out).at k hlx
          cases e9
          generalize xs[k].f = p0 at d0
          generalize xs[k].t = p1 at d1
          generalize xs[k].c = p2 at d2 
          have q0 : (0 : Int) ≤ (k : Int) := by omega
          have q1 : (k : Int) < (M : Int) := by omega
          have q2 := HL.out.2
          have HKr2 := Lib.hid (HKr.out.alloc (.cells #[.int .i64 p0, .int .i64 p1, .int .i64 p2] 31))
          clear HKr cb10
          go_wp2_with fail
          go_roundw
          case rel => exact ⟨k + 1, by go_num, by omega, HKr2⟩
          case measure => simp [intOf]; omega
        · as_aux_lemma =>
          have HKf := Lib.hid (HK10.out.trans HKr.out)
          clear HKr cb10
          go_wp2_with fail
          refine (HAW _).out.mono ?_
          rintro e w11 ⟨rfl, hk⟩
          have HKf2 := Lib.hid (HKf.out.trans hk)
          clear hk
          go_wp2_with fail
          go_ret
          exact ⟨rfl, HKf2.out⟩
    · subst hok
      obtain ⟨hs0, hs2, hall, hbad, hgood⟩ := HMO.2 rfl
      have HCC := Lib.hid hall
      clear HMO hall
      by_cases hc : c < 0
      · as_aux_lemma =>
        obtain ⟨rfl, rfl⟩ := hbad (.inl hc)
        clear hbad hgood
        have hc' : ¬ 0 ≤ c := by omega
        go_upto_region 15 with (fail)
        go_wp2_with fail
        go_loopw [115] (fun ix wr => ∃ k : Nat, ix = .int .i64 k ∧ k ≤ M ∧ Hid (Kept w10 wr)) (fun ix _ => M - (intOf ix).toNat)
        case atStart => exact ⟨0, rfl, by omega, Lib.hid (Upd.refl _ _)⟩
        case round =>
          obtain ⟨k, rfl, hk, HKr⟩ := hrel
          by_cases hlt : k < M
          · as_aux_lemma =>
            have hlx : k < xs.length := by rw [HL.out.1]; exact hlt
            obtain ⟨b9, off9, e9, d0, d1, d2⟩ := (HA10.out.kept HKr.out).at k hlx
            cases e9
            obtain ⟨hx0, hx1⟩ := HCC.out xs[k] (List.getElem_mem _)
            generalize xs[k].f = p0 at d0
            generalize xs[k].t = p1 at d1
            generalize xs[k].c = p2 at d2 hx0 hx1 
            have q0 : (0 : Int) ≤ (k : Int) := by omega
            have q1 : (k : Int) < (M : Int) := by omega
            have q2 := HL.out.2
            have HKr2 := Lib.hid (HKr.out.alloc (.cells #[.int .i64 p0, .int .i64 p1, .int .i64 p2] 31))
            clear HKr cb10
            go_wp2_with fail
            go_roundw
            case rel => exact ⟨k + 1, by go_num, by omega, HKr2⟩
            case measure => simp [intOf]; omega
          · as_aux_lemma =>
            have HKf := Lib.hid (HK10.out.trans HKr.out)
            clear HKr cb10
            go_wp2_with fail
            refine (HAW _).out.mono ?_
            rintro e w11 ⟨rfl, hk⟩
            have HKf2 := Lib.hid (HKf.out.trans hk)
            clear hk
            go_wp2_with fail
            go_ret
            exact ⟨rfl, HKf2.out⟩
      · by_cases hd : 4611686018427387904 - s0 < c
        · as_aux_lemma =>
          obtain ⟨rfl, rfl⟩ := hbad (.inr hd)
          clear hbad hgood
          have hc' : 0 ≤ c := by omega
          have hd' : ¬ c ≤ 4611686018427387904 - s0 := by omega
          go_upto_region 15 with (fail)
          go_wp2_with fail
          go_loopw [115] (fun ix wr => ∃ k : Nat, ix = .int .i64 k ∧ k ≤ M ∧ Hid (Kept w10 wr)) (fun ix _ => M - (intOf ix).toNat)
          case atStart => exact ⟨0, rfl, by omega, Lib.hid (Upd.refl _ _)⟩
          case round =>
            obtain ⟨k, rfl, hk, HKr⟩ := hrel
            by_cases hlt : k < M
            · as_aux_lemma =>
              have hlx : k < xs.length := by rw [HL.out.1]; exact hlt
              obtain ⟨b9, off9, e9, d0, d1, d2⟩ := (HA10.out.kept HKr.out).at k hlx
              cases e9
              obtain ⟨hx0, hx1⟩ := HCC.out xs[k] (List.getElem_mem _)
              generalize xs[k].f = p0 at d0
              generalize xs[k].t = p1 at d1
              generalize xs[k].c = p2 at d2 hx0 hx1 
              have q0 : (0 : Int) ≤ (k : Int) := by omega
              have q1 : (k : Int) < (M : Int) := by omega
              have q2 := HL.out.2
              have HKr2 := Lib.hid (HKr.out.alloc (.cells #[.int .i64 p0, .int .i64 p1, .int .i64 p2] 31))
              clear HKr cb10
              go_wp2_with fail
              go_roundw
              case rel => exact ⟨k + 1, by go_num, by omega, HKr2⟩
              case measure => simp [intOf]; omega
            · as_aux_lemma =>
              have HKf := Lib.hid (HK10.out.trans HKr.out)
              clear HKr cb10
              go_wp2_with fail
              refine (HAW _).out.mono ?_
              rintro e w11 ⟨rfl, hk⟩
              have HKf2 := Lib.hid (HKf.out.trans hk)
              clear hk
              go_wp2_with fail
              go_ret
              exact ⟨rfl, HKf2.out⟩
        · as_aux_lemma =>
          obtain ⟨rfl, rfl⟩ := hgood (by omega) (by omega)
          clear hbad hgood
          have hc' : 0 ≤ c := by omega
          have hd' : c ≤ 4611686018427387904 - s0 := by omega
          go_upto_region 15 with (fail)
          go_wp2_with fail
          go_loopw [115] (fun ix wr => ∃ k : Nat, ix = .int .i64 k ∧ k ≤ M ∧ Hid (Kept w10 wr)) (fun ix _ => M - (intOf ix).toNat)
          case atStart => exact ⟨0, rfl, by omega, Lib.hid (Upd.refl _ _)⟩
          case round =>
            obtain ⟨k, rfl, hk, HKr⟩ := hrel
            by_cases hlt : k < M
            · as_aux_lemma =>
              have hlx : k < xs.length := by rw [HL.out.1]; exact hlt
              obtain ⟨b9, off9, e9, d0, d1, d2⟩ := (HA10.out.kept HKr.out).at k hlx
              cases e9
              obtain ⟨hx0, hx1⟩ := HCC.out xs[k] (List.getElem_mem _)
              generalize xs[k].f = p0 at d0
              generalize xs[k].t = p1 at d1
              generalize xs[k].c = p2 at d2 hx0 hx1 
              have q0 : (0 : Int) ≤ (k : Int) := by omega
              have q1 : (k : Int) < (M : Int) := by omega
              have q2 := HL.out.2
              have HKr2 := Lib.hid (HKr.out.alloc (.cells #[.int .i64 p0, .int .i64 p1, .int .i64 p2] 31))
              clear HKr cb10
              go_wp2_with fail
              go_roundw
              case rel => exact ⟨k + 1, by go_num, by omega, HKr2⟩
              case measure => simp [intOf]; omega
            · as_aux_lemma =>
              have HKf := Lib.hid (HK10.out.trans HKr.out)
              clear HKr cb10
              go_wp2_with fail
              refine (HAW _).out.mono ?_
              rintro e w11 ⟨rfl, hk⟩
              have HKf2 := Lib.hid (HKf.out.trans hk)
              clear hk
              go_wp2_with fail
              go_ret
              exact ⟨rfl, HKf2.out⟩
theorem netSums_walk (N S T : Int) (a : Option Addr) (cap : Nat) (els : List (List Value)) (tn c : Int) (w : World) (_wN : (Lit.int .i64 N).wf = true) (_wS : (Lit.int .i64 S).wf = true) (_wT : (Lit.int .i64 T).wf = true) (hrow : FlatRow [some .i64, some .i64, some .i64] w a cap els) (_hf : ∀ x ∈ els, fits [some .i64, some .i64, some .i64] x) (wt : (Lit.int .u8 tn).wf = true) (wc : (Lit.int .i64 c).wf = true) :
    Calls Try.prog 4 #[.agg #[.int .i64 N, .int .i64 S, .int .i64 T, .slice a els.length cap], .int .u8 tn, .int .i64 c] w fun e w' => e = .returned (.bool true) ∧ Kept w w' := by
  obtain ⟨ys, hl, hA, hw⟩ := ars_of_flat hrow
  rw [← hl]
  have hle := hrow.le
  have hmo := hrow.most
  unfold maxLen at hmo
  exact netSums_core N S T a cap ys tn c w hA (by omega) hmo (bounds_u8 wt).1 (bounds_u8 wt).2 (bounds_i64 wc).1 (bounds_i64 wc).2
end Go.Proofs.Ytafabeehbifgaaa
