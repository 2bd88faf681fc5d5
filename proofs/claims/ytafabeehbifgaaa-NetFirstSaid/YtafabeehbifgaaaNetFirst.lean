/- The law NetFirst (printed by gen_first01.py). -/
import Derived.Test.YtafabeehbifgaaaFirst
import Derived.Test.YtafabeehbifgaaaAmong
import Derived.Test.YtafabeehbifgaaaAwake01
import Derived.Test.YtafabeehbifgaaaOpenNet
import Derived.Deep.CutRange
import Derived.StillTailTactics
import Derived.Deep.RegionHeld3
namespace Go.Proofs.Ytafabeehbifgaaa
set_option linter.unusedVariables false
open Go.RowKit

theorem Own.fAt {w : World} {base gb n c : Nat} {ys : List Ar} (h : Own w base (.slice (some ⟨gb, 0, none⟩) n c) ys) (i : Nat) (hi : i < ys.length) : w.cell? ⟨gb, i * 3, none⟩ = some (.int .i64 ys[i].f) ∧ w.cell? ⟨gb, i * 3 + 1, none⟩ = some (.int .i64 ys[i].t) ∧ w.cell? ⟨gb, i * 3 + 2, none⟩ = some (.int .i64 ys[i].c) := by
  obtain ⟨b, off, e, h0, h1, h2⟩ := h.at.2.at i hi
  cases e
  simp only [Nat.zero_add] at h0 h1 h2
  exact ⟨h0, h1, h2⟩
theorem check_nf {w : World} {mb : Nat} {N S T : Int} {a : Option Addr} {n c : Nat} {ys : List Ar} {wr : World} (h : NF w mb N S T a n c ys wr) (hn : n ≤ 300) {e : Int} (he : chkOf N S T ys = e) :
    Calls Try.prog 10 #[.agg #[.int .i64 N, .int .i64 S, .int .i64 T, .slice a n c]] wr fun e' w' => e' = .returned (.int .i64 e) ∧ Kept wr w' := by
  have hl := h.len
  subst he
  rw [hl]
  exact Check_any N S T a c ys wr h.own.at.2 (by omega)
set_option maxRecDepth 100000 in
set_option maxHeartbeats 2000000 in
theorem netFirst_core (N0 S0 T0 : Int) (a0 : Option Addr) (cap : Nat) (ys0 : List Ar) (w : World) (h : Ars w a0 ys0) (hm : ys0.length ≤ 9223372036854775807) (hwf : ∀ x ∈ ys0, -9223372036854775808 ≤ x.c ∧ x.c ≤ 9223372036854775807) :
    Calls Try.prog 3 #[.agg #[.int .i64 N0, .int .i64 S0, .int .i64 T0, .slice a0 ys0.length cap]] w fun e w' => e = .returned (.bool true) ∧ Kept w w' := by
  have HW := Lib.hid hwf
  clear hwf
  have HAW := fun w => Lib.hid (awake_any w)
  have HK0 := Lib.hid ((Upd.refl (fun _ => False) w).alloc (.cells #[.int .i64 N0, .int .i64 S0, .int .i64 T0, .slice a0 ys0.length cap] 24))
  by_cases hl : 300 < ys0.length
  · have h1 : (300 : Int) < (ys0.length : Int) := by omega
    clear h
    go_enter Try.func3, Try.ntmps3
    go_wp2_with fail
    refine (HAW _).out.mono ?_
    rintro e w1 ⟨rfl, hk⟩
    have HK1 := Lib.hid (HK0.out.trans hk)
    clear hk
    go_wp2_with fail
    go_ret
    exact ⟨rfl, HK1.out⟩
  · have h1 : ¬ (300 : Int) < (ys0.length : Int) := by omega
    have HC := Lib.hid (Copy_any N0 S0 T0 a0 cap ys0 (w.alloc (.cells #[.int .i64 N0, .int .i64 S0, .int .i64 T0, .slice a0 ys0.length cap] 24)) (h.kept ((Upd.refl _ _).alloc _)) (by omega))
    clear h
    have HN := Lib.hid hl
    clear hl
    go_enter Try.func3, Try.ntmps3
    go_wp2_with fail
    refine HC.out.mono ?_
    rintro e w1 ⟨a1, c1, rfl, hO, hk⟩
    have S1 : Hid (NF w w1.heap.size N0 S0 T0 a1 ys0.length c1 ys0 (w1.alloc (.cells #[.int .i64 N0, .int .i64 S0, .int .i64 T0, .slice a1 ys0.length c1] 24))) := Lib.hid
      ⟨(HK0.out.trans hk).alloc _, Blk.new _ _ _, (hO.base (by simp)).kept ((Upd.refl _ _).alloc _), (HK0.out.trans hk).size⟩
    clear hO hk HC HK0
    obtain ⟨n, hn⟩ : ∃ n, n = ys0.length := ⟨_, rfl⟩
    have HN3 : Hid (n ≤ 300) := Lib.hid (by have := HN.out; omega)
    rw [← hn] at S1
    go_upto_region 4 with (fail)
    rw [← hn]
    generalize (w1.alloc (.cells #[.int .i64 N0, .int .i64 S0, .int .i64 T0, .slice a1 n c1] 24)) = W1 at S1 ⊢
    generalize w1.heap.size = mb at S1 ⊢
    clear hn h1 HN
    go_wp2_with fail
    go_loopw [4, 19] (fun la ix wr => ∃ (k : Nat) (e N S T : Int) (ys : List Ar), ix = .int .i64 k ∧ la = .int .i64 e ∧ Hid (NF w mb N S T a1 n c1 ys wr) ∧ Hid (k ≤ lvl e) ∧ Hid (chkOf N S T ys = 0 ∨ e < chkOf N S T ys) ∧ Hid (∀ x ∈ ys, -9223372036854775808 ≤ x.c ∧ x.c ≤ 9223372036854775807)) (fun _ ix _ => 7 - (intOf ix).toNat)
    case atStart => exact ⟨0, 0, N0, S0, T0, ys0, rfl, rfl, S1, Lib.hid (Nat.zero_le _), Lib.hid (by have := chk_cases N0 S0 T0 ys0; omega), HW⟩
    case round =>
      obtain ⟨k, e, N, S, T, ys, rfl, rfl, S2, HL, HG, HWC⟩ := hrel
      clear S1
      have hk5 : k ≤ 5 := Nat.le_trans HL.out (lvl_le e)
      have j0 : (k : Int) < 7 := by omega
      obtain ⟨e2, he2⟩ : ∃ e2, chkOf N S T ys = e2 := ⟨_, rfl⟩
      have HC := Lib.hid (check_nf S2.out HN3.out he2)
      have HE := Lib.hid he2
      have HG2 : Hid (e2 = 0 ∨ e < e2) := Lib.hid (by have := HG.out; rwa [he2] at this)
      have hcs := chk_cases N S T ys
      rw [he2] at hcs
      have cm := S2.out.net.cell
      clear he2 HG
      by_cases e0 : e2 = 0
      · as_aux_lemma =>
        subst e0
        go_wp2_with fail
        refine HC.out.mono ?_
        rintro e' w3 ⟨rfl, hk3⟩
        have HK3 := Lib.hid (S2.out.kp.trans hk3)
        clear hk3 cm HC
        go_wp2_with fail
        refine (HAW _).out.mono ?_
        rintro e' w4 ⟨rfl, hk4⟩
        have HK4 := Lib.hid (HK3.out.trans hk4)
        clear hk4
        go_wp2_with fail
        go_ret
        exact ⟨rfl, HK4.out⟩
      · have hlt : e < e2 := by have := HG2.out; omega
        have hle : ¬ e2 ≤ e := by omega
        by_cases e10 : e2 = 10
        · as_aux_lemma =>
          subst e10
          go_wp2_with fail
          refine HC.out.mono ?_
          rintro e' w3 ⟨rfl, hk3⟩
          have S3 := Lib.hid (S2.out.kept hk3)
          have cm3 := S3.out.net.cell
          have fm3 := S3.out.net.free
          have HL3 : Hid (k + 1 ≤ lvl 10) := Lib.hid (by have h1 := lvl_step hlt (by omega); have h2 := HL.out; omega)
          clear hk3 cm HC S2
          have HA := Lib.hid (Among_any N 4000 (by omega) (by omega) w3)
          have hq := am_in (x := N) (n := 4000) (by omega)
          generalize am N 4000 = q at HA hq
          have HG3 : Hid (chkOf (2 + q) S T ys = 0 ∨ 10 < chkOf (2 + q) S T ys) := Lib.hid (fix10 (by have := S3.out.len; have := HN3.out; omega) hq)
          have w1 : wrap64 (2 + q) = 2 + q := by unfold wrap64; omega
          have w2 : IntKind.i64.wrap (2 + q) = 2 + q := by rw [IntKind.wrap_i64]; omega
          go_wp2_with fail
          refine HA.out.mono ?_
          rintro e' w4 ⟨rfl, rfl⟩
          have S4 := Lib.hid (S3.out.setN (2 + q))
          clear HA S3
          go_wp2_with fail
          go_roundw
          case rel => exact ⟨k + 1, 10, 2 + q, S, T, ys, by go_num, rfl, S4, HL3, HG3, HWC⟩
          case measure => simp [intOf]; omega
        · by_cases e12 : e2 = 12
          · as_aux_lemma =>
            subst e12
            go_wp2_with fail
            refine HC.out.mono ?_
            rintro e' w3 ⟨rfl, hk3⟩
            have S3 := Lib.hid (S2.out.kept hk3)
            have cm3 := S3.out.net.cell
            have fm3 := S3.out.net.free
            have HL3 : Hid (k + 1 ≤ lvl 12) := Lib.hid (by have h1 := lvl_step hlt (by omega); have h2 := HL.out; omega)
            clear hk3 cm HC S2
            have HG3 : Hid (chkOf N 0 1 ys = 0 ∨ 12 < chkOf N 0 1 ys) := Lib.hid (fix12 HE.out)
            have S4 := Lib.hid ((S3.out.setS 0).setT 1)
            clear S3
            go_wp2_with fail
            go_roundw
            case rel => exact ⟨k + 1, 12, N, 0, 1, ys, by go_num, rfl, S4, HL3, HG3, HWC⟩
            case measure => simp [intOf]; omega
          · by_cases e13 : e2 = 13
            · as_aux_lemma =>
              subst e13
              go_wp2_with fail
              refine HC.out.mono ?_
              rintro e' w3 ⟨rfl, hk3⟩
              have S3 := Lib.hid (S2.out.kept hk3)
              have cm3 := S3.out.net.cell
              have fm3 := S3.out.net.free
              have HL3 : Hid (k + 1 ≤ lvl 13) := Lib.hid (by have h1 := lvl_step hlt (by omega); have h2 := HL.out; omega)
              clear hk3 cm HC S2
              have HG3 : Hid (chkOf N S T (ys.map (fitA N am)) = 0 ∨ 13 < chkOf N S T (ys.map (fitA N am))) := Lib.hid (fix13 HE.out (fun x hx => am_in hx))
              have hNN : 1 ≤ N ∧ N ≤ 4096 := by have := chk_is (m := 3) (by omega) (by simpa using HE.out) 0 (by omega); simp [rule] at this; omega
              go_wp2_with fail
              go_loopw [55] (fun ix wi => ∃ j : Nat, ix = .int .i64 j ∧ j ≤ n ∧ Hid (NF w mb N S T a1 n c1 (mapTo j (fitA N am) ys) wi)) (fun ix _ => n - (intOf ix).toNat)
              case atStart => exact ⟨0, rfl, by omega, by rw [mapTo_zero]; exact S3⟩
              case round =>
                obtain ⟨j, rfl, hj, S4⟩ := hrel
                clear S3 cm3 fm3
                have HLn := S4.out.len
                rw [mapTo_len] at HLn
                have cm4 := S4.out.net.cell
                have fm4 := S4.out.net.free
                by_cases hjn : j < n
                · as_aux_lemma =>
                  have hj1 : j < (mapTo j (fitA N am) ys).length := by rw [mapTo_len]; omega
                  have hj2 : j < ys.length := by omega
                  have hget := mapTo_get j (fitA N am) ys hj2 hj1
                  have hset := mapTo_set j (fitA N am) ys hj2
                  obtain ⟨gb, rfl, hgb, hgl, hgf⟩ := S4.out.own.blk (by omega)
                  obtain ⟨d0, d1, d2⟩ := S4.out.own.fAt j hj1
                  rw [hget] at d0 d1 d2
                  have q0 : (0 : Int) ≤ (j : Int) := by omega
                  have q1 : (j : Int) < (n : Int) := by omega
                  have hgm := S4.out.own.ne S4.out.net (by decide)
                  have hlm := S4.out.net.lt
                  have hn3 := HN3.out
                  clear HLn
                  go_upto_region 22 with (fail)
                  have S5 : Hid (NF w mb N S T (some ⟨gb, 0, none⟩) n c1 (mapTo j (fitA N am) ys) (wr.alloc (.cells #[.int .i64 ys[j].f, .int .i64 ys[j].t, .int .i64 ys[j].c] 31))) := Lib.hid (S4.out.kept ((Upd.refl _ _).alloc _))
                  have HXB := Lib.hid (Blk.new wr #[.int .i64 ys[j].f, .int .i64 ys[j].t, .int .i64 ys[j].c] 31)
                  have hxg : ¬ gb = wr.heap.size := by omega
                  have HFA : Hid ((⟨am ys[j].f N, am ys[j].t N, ys[j].c⟩ : Ar) = fitA N am ys[j]) := Lib.hid rfl
                  clear S4 cm4 fm4 d0 d1 d2 hgf hgl hlm
                  generalize (wr.alloc (.cells #[.int .i64 ys[j].f, .int .i64 ys[j].t, .int .i64 ys[j].c] 31)) = W at S5 HXB ⊢
                  generalize wr.heap.size = xb at HXB hxg ⊢
                  have S6 := Lib.hid (S5.out.kept (Upd.refl _ _).drew)
                  have HXB6 := Lib.hid (HXB.out.drew)
                  clear S5 HXB
                  have hj3 : j < (mapTo j (fitA N am) ys).length := hj1
                  have HW1 : Hid (NF w mb N S T (some ⟨gb, 0, none⟩) n c1 ((mapTo j (fitA N am) ys).set j ⟨am ys[j].f N, ys[j].t, ys[j].c⟩) (W.drew.setCell ⟨gb, j * 3, none⟩ (.int .i64 (am ys[j].f N)))) := Lib.hid (by
                    have h := S6.out.setF j hj1 (am ys[j].f N)
                    rw [hget] at h
                    exact h)
                  have HW2 : Hid (NF w mb N S T (some ⟨gb, 0, none⟩) n c1 (mapTo (j + 1) (fitA N am) ys) ((W.drew.setCell ⟨gb, j * 3, none⟩ (.int .i64 (am ys[j].f N))).setCell ⟨gb, j * 3 + 1, none⟩ (.int .i64 (am ys[j].t N)))) := Lib.hid (by
                    have h := HW1.out.setTo j (by simpa using hj1) (am ys[j].t N)
                    simp only [List.getElem_set_self, List.set_set] at h
                    rw [HFA.out, hset] at h
                    exact h)
                  have HXB7 := Lib.hid (Blk.other HXB6.out (p := ⟨gb, j * 3, none⟩) (fun e => hxg e.symm) (.int .i64 (am ys[j].f N)))
                  have C0 : (∀ i, W.drew.cell? ⟨mb, i, none⟩ = (#[.int .i64 N, .int .i64 S, .int .i64 T, .slice (some ⟨gb, 0, none⟩) n c1] : Array Value)[i]?) ∧ (∀ i, W.drew.cell? ⟨xb, i, none⟩ = (#[.int .i64 ys[j].f, .int .i64 ys[j].t, .int .i64 ys[j].c] : Array Value)[i]?) := ⟨S6.out.net.cell, HXB6.out.cell⟩
                  have C1 : (∀ i, (W.drew.setCell ⟨gb, j * 3, none⟩ (.int .i64 (am ys[j].f N))).cell? ⟨mb, i, none⟩ = (#[.int .i64 N, .int .i64 S, .int .i64 T, .slice (some ⟨gb, 0, none⟩) n c1] : Array Value)[i]?) ∧ (∀ i, (W.drew.setCell ⟨gb, j * 3, none⟩ (.int .i64 (am ys[j].f N))).cell? ⟨xb, i, none⟩ = (#[.int .i64 ys[j].f, .int .i64 ys[j].t, .int .i64 ys[j].c] : Array Value)[i]?) := ⟨HW1.out.net.cell, HXB7.out.cell⟩
                  have HXB8 := Lib.hid (Blk.other HXB7.out (p := ⟨gb, j * 3 + 1, none⟩) (fun e => hxg e.symm) (.int .i64 (am ys[j].t N)))
                  have C2 : (∀ i, ((W.drew.setCell ⟨gb, j * 3, none⟩ (.int .i64 (am ys[j].f N))).setCell ⟨gb, j * 3 + 1, none⟩ (.int .i64 (am ys[j].t N))).cell? ⟨mb, i, none⟩ = (#[.int .i64 N, .int .i64 S, .int .i64 T, .slice (some ⟨gb, 0, none⟩) n c1] : Array Value)[i]?) ∧ (∀ i, ((W.drew.setCell ⟨gb, j * 3, none⟩ (.int .i64 (am ys[j].f N))).setCell ⟨gb, j * 3 + 1, none⟩ (.int .i64 (am ys[j].t N))).cell? ⟨xb, i, none⟩ = (#[.int .i64 ys[j].f, .int .i64 ys[j].t, .int .i64 ys[j].c] : Array Value)[i]?) := ⟨HW2.out.net.cell, HXB8.out.cell⟩
                  have e0 : W.drew.cell? ⟨gb, j * 3, none⟩ = some (.int .i64 ys[j].f) := by have h := (S6.out.own.fAt j hj1).1; rw [hget] at h; exact h
                  have e1 : W.drew.cell? ⟨gb, j * 3 + 1, none⟩ = some (.int .i64 ys[j].t) := by have h := (S6.out.own.fAt j hj1).2.1; rw [hget] at h; exact h
                  obtain ⟨gb', hgb', _, _, hgf⟩ := S6.out.own.blk (by rw [mapTo_len]; omega)
                  cases hgb'
                  have g0 : ∀ i, W.drew.frozen? ⟨gb, i, none⟩ = false := hgf
                  have e2 : (W.drew.setCell ⟨gb, j * 3, none⟩ (.int .i64 (am ys[j].f N))).cell? ⟨gb, j * 3 + 1, none⟩ = some (.int .i64 ys[j].t) := by have h := (HW1.out.own.fAt j (by simpa using hj1)).2.1; simpa using h
                  have g2 : ∀ i, (W.drew.setCell ⟨gb, j * 3, none⟩ (.int .i64 (am ys[j].f N))).frozen? ⟨gb, i, none⟩ = false := by
                    obtain ⟨g2', h2', _, _, hf2⟩ := HW1.out.own.blk (by simp; omega)
                    cases h2'
                    exact hf2
                  have f0 : W.cell? ⟨gb, j * 3, none⟩ = some (.int .i64 ys[j].f) := e0
                  have f1 : W.cell? ⟨gb, j * 3 + 1, none⟩ = some (.int .i64 ys[j].t) := e1
                  have f2 : (W.setCell ⟨gb, j * 3, none⟩ (.int .i64 (am ys[j].f N))).cell? ⟨gb, j * 3 + 1, none⟩ = some (.int .i64 ys[j].t) := e2
                  have k0 : ∀ i, W.frozen? ⟨gb, i, none⟩ = false := g0
                  have k2 : ∀ i, (W.setCell ⟨gb, j * 3, none⟩ (.int .i64 (am ys[j].f N))).frozen? ⟨gb, i, none⟩ = false := g2
                  clear hgf hget hset HXB6 HXB7 HXB8 e0 e1 e2 g0 g2
                  go_region_held3 (fun w' => (∀ i, w'.cell? ⟨mb, i, none⟩ = (#[.int .i64 N, .int .i64 S, .int .i64 T, .slice (some ⟨gb, 0, none⟩) n c1] : Array Value)[i]?) ∧ (∀ i, w'.cell? ⟨xb, i, none⟩ = (#[.int .i64 ys[j].f, .int .i64 ys[j].t, .int .i64 ys[j].c] : Array Value)[i]?))
                    (first | exact C0 | exact C1 | exact C2)
                    ((first
                      | (go_at_call 11; refine (Among_any _ _ hNN.1 (by omega) _).mono ?_; rintro e' w5 ⟨rfl, rfl⟩)))
                  have S7 : Hid (NF w mb N S T (some ⟨gb, 0, none⟩) n c1 (mapTo (j + 1) (fitA N am) ys) ((W.setCell ⟨gb, j * 3, none⟩ (.int .i64 (am ys[j].f N))).setCell ⟨gb, j * 3 + 1, none⟩ (.int .i64 (am ys[j].t N))).drew) := HW2
                  clear HW1 HW2 C0 C1 C2 f0 f1 f2 k0 k2 S6
                  go_wp2_with fail
                  go_roundw
                  case rel => exact ⟨j + 1, by go_num, by omega, S7⟩
                  case measure => simp [intOf]; omega
                · as_aux_lemma =>
                  have S5 : Hid (NF w mb N S T a1 n c1 (ys.map (fitA N am)) wr) := Lib.hid (by
                    have h := S4.out
                    rw [mapTo_all (fitA N am) ys (by omega)] at h
                    exact h)
                  have HWC3 : Hid (∀ x ∈ ys.map (fitA N am), -9223372036854775808 ≤ x.c ∧ x.c ≤ 9223372036854775807) := Lib.hid (by intro x hx; obtain ⟨y, hy, rfl⟩ := List.mem_map.1 hx; exact HWC.out y hy)
                  clear S4
                  go_wp2_with fail
                  go_roundw
                  case rel => exact ⟨k + 1, 13, N, S, T, ys.map (fitA N am), by go_num, rfl, S5, HL3, HG3, HWC3⟩
                  case measure => simp [intOf]; omega
            · by_cases e14 : e2 = 14
              · as_aux_lemma =>
                subst e14
                go_wp2_with fail
                refine HC.out.mono ?_
                rintro e' w3 ⟨rfl, hk3⟩
                have S3 := Lib.hid (S2.out.kept hk3)
                have cm3 := S3.out.net.cell
                have fm3 := S3.out.net.free
                have HL3 : Hid (k + 1 ≤ lvl 14) := Lib.hid (by have h1 := lvl_step hlt (by omega); have h2 := HL.out; omega)
                clear hk3 cm HC S2
                have HG3 : Hid (chkOf N S T (ys.map (fitC (fun x => max x 0))) = 0 ∨ 14 < chkOf N S T (ys.map (fitC (fun x => max x 0)))) := Lib.hid (fix14 HE.out (fun x => by omega))
                go_wp2_with fail
                go_loopw [86] (fun ix wi => ∃ j : Nat, ix = .int .i64 j ∧ j ≤ n ∧ Hid (NF w mb N S T a1 n c1 (mapTo j (fitC (fun x => max x 0)) ys) wi)) (fun ix _ => n - (intOf ix).toNat)
                case atStart => exact ⟨0, rfl, by omega, by rw [mapTo_zero]; exact S3⟩
                case round =>
                  obtain ⟨j, rfl, hj, S4⟩ := hrel
                  clear S3 cm3 fm3
                  have HLn := S4.out.len
                  rw [mapTo_len] at HLn
                  have cm4 := S4.out.net.cell
                  have fm4 := S4.out.net.free
                  by_cases hjn : j < n
                  · as_aux_lemma =>
                    have hj1 : j < (mapTo j (fitC (fun x => max x 0)) ys).length := by rw [mapTo_len]; omega
                    have hj2 : j < ys.length := by omega
                    have hget := mapTo_get j (fitC (fun x => max x 0)) ys hj2 hj1
                    have hset := mapTo_set j (fitC (fun x => max x 0)) ys hj2
                    obtain ⟨gb, rfl, hgb, hgl, hgf⟩ := S4.out.own.blk (by omega)
                    obtain ⟨d0, d1, d2⟩ := S4.out.own.fAt j hj1
                    rw [hget] at d0 d1 d2
                    have q0 : (0 : Int) ≤ (j : Int) := by omega
                    have q1 : (j : Int) < (n : Int) := by omega
                    have hgm := S4.out.own.ne S4.out.net (by decide)
                    have hlm := S4.out.net.lt
                    have hn3 := HN3.out
                    clear HLn
                    have S5 : Hid (NF w mb N S T (some ⟨gb, 0, none⟩) n c1 (mapTo (j + 1) (fitC (fun x => max x 0)) ys) ((wr.setCell ⟨gb, j * 3 + 2, none⟩ (.int .i64 (if ys[j].c < 0 then 0 else ys[j].c))).alloc (.cells #[.int .i64 ys[j].f, .int .i64 ys[j].t, .int .i64 ys[j].c] 31))) := Lib.hid (by
                      have h := S4.out.setC j hj1 (if ys[j].c < 0 then 0 else ys[j].c)
                      rw [hget] at h
                      rw [show (⟨ys[j].f, ys[j].t, (if ys[j].c < 0 then 0 else ys[j].c)⟩ : Ar) = (fitC (fun x => max x 0)) ys[j] by simp only [fitC]; congr 1; split <;> omega, hset] at h
                      exact h.kept ((Upd.refl _ _).alloc _))
                    clear hget hset
                    go_wp2_with fail
                    go_roundw
                    case rel => exact ⟨j + 1, by go_num, by omega, S5⟩
                    case measure => simp [intOf]; omega
                  · as_aux_lemma =>
                    have S5 : Hid (NF w mb N S T a1 n c1 (ys.map (fitC (fun x => max x 0))) wr) := Lib.hid (by
                      have h := S4.out
                      rw [mapTo_all (fitC (fun x => max x 0)) ys (by omega)] at h
                      exact h)
                    have HWC3 : Hid (∀ x ∈ ys.map (fitC (fun x => max x 0)), -9223372036854775808 ≤ x.c ∧ x.c ≤ 9223372036854775807) := Lib.hid (by intro x hx; obtain ⟨y, hy, rfl⟩ := List.mem_map.1 hx; have := HWC.out y hy; simp only [fitC]; omega)
                    clear S4
                    go_wp2_with fail
                    go_roundw
                    case rel => exact ⟨k + 1, 14, N, S, T, ys.map (fitC (fun x => max x 0)), by go_num, rfl, S5, HL3, HG3, HWC3⟩
                    case measure => simp [intOf]; omega
              · by_cases e15 : e2 = 15
                · as_aux_lemma =>
                  subst e15
                  go_wp2_with fail
                  refine HC.out.mono ?_
                  rintro e' w3 ⟨rfl, hk3⟩
                  have S3 := Lib.hid (S2.out.kept hk3)
                  have cm3 := S3.out.net.cell
                  have fm3 := S3.out.net.free
                  have HL3 : Hid (k + 1 ≤ lvl 15) := Lib.hid (by have h1 := lvl_step hlt (by omega); have h2 := HL.out; omega)
                  clear hk3 cm HC S2
                  have HG3 : Hid (chkOf N S T (ys.map (fitC (fun x => x / 1024))) = 0 ∨ 15 < chkOf N S T (ys.map (fitC (fun x => x / 1024)))) := Lib.hid (fix15 (by have := S3.out.len; have := HN3.out; omega) HE.out (fun x hx h0 => by have := HWC.out x hx; omega))
                  go_wp2_with fail
                  go_loopw [105] (fun ix wi => ∃ j : Nat, ix = .int .i64 j ∧ j ≤ n ∧ Hid (NF w mb N S T a1 n c1 (mapTo j (fitC (fun x => x / 1024)) ys) wi)) (fun ix _ => n - (intOf ix).toNat)
                  case atStart => exact ⟨0, rfl, by omega, by rw [mapTo_zero]; exact S3⟩
                  case round =>
                    obtain ⟨j, rfl, hj, S4⟩ := hrel
                    clear S3 cm3 fm3
                    have HLn := S4.out.len
                    rw [mapTo_len] at HLn
                    have cm4 := S4.out.net.cell
                    have fm4 := S4.out.net.free
                    by_cases hjn : j < n
                    · as_aux_lemma =>
                      have hj1 : j < (mapTo j (fitC (fun x => x / 1024)) ys).length := by rw [mapTo_len]; omega
                      have hj2 : j < ys.length := by omega
                      have hget := mapTo_get j (fitC (fun x => x / 1024)) ys hj2 hj1
                      have hset := mapTo_set j (fitC (fun x => x / 1024)) ys hj2
                      obtain ⟨gb, rfl, hgb, hgl, hgf⟩ := S4.out.own.blk (by omega)
                      obtain ⟨d0, d1, d2⟩ := S4.out.own.fAt j hj1
                      rw [hget] at d0 d1 d2
                      have q0 : (0 : Int) ≤ (j : Int) := by omega
                      have q1 : (j : Int) < (n : Int) := by omega
                      have hgm := S4.out.own.ne S4.out.net (by decide)
                      have hlm := S4.out.net.lt
                      have hn3 := HN3.out
                      clear HLn
                      have S5 : Hid (NF w mb N S T (some ⟨gb, 0, none⟩) n c1 (mapTo (j + 1) (fitC (fun x => x / 1024)) ys) ((wr.setCell ⟨gb, j * 3 + 2, none⟩ (.int .i64 (ys[j].c / 1024))).alloc (.cells #[.int .i64 ys[j].f, .int .i64 ys[j].t, .int .i64 ys[j].c] 31))) := Lib.hid (by
                        have h := S4.out.setC j hj1 (ys[j].c / 1024)
                        rw [hget] at h
                        rw [show (⟨ys[j].f, ys[j].t, (ys[j].c / 1024)⟩ : Ar) = (fitC (fun x => x / 1024)) ys[j] by rfl, hset] at h
                        exact h.kept ((Upd.refl _ _).alloc _))
                      clear hget hset
                      go_wp2_with fail
                      go_roundw
                      case rel => exact ⟨j + 1, by go_num, by omega, S5⟩
                      case measure => simp [intOf]; omega
                    · as_aux_lemma =>
                      have S5 : Hid (NF w mb N S T a1 n c1 (ys.map (fitC (fun x => x / 1024))) wr) := Lib.hid (by
                        have h := S4.out
                        rw [mapTo_all (fitC (fun x => x / 1024)) ys (by omega)] at h
                        exact h)
                      have HWC3 : Hid (∀ x ∈ ys.map (fitC (fun x => x / 1024)), -9223372036854775808 ≤ x.c ∧ x.c ≤ 9223372036854775807) := Lib.hid (by intro x hx; obtain ⟨y, hy, rfl⟩ := List.mem_map.1 hx; have := HWC.out y hy; simp only [fitC]; omega)
                      clear S4
                      go_wp2_with fail
                      go_roundw
                      case rel => exact ⟨k + 1, 15, N, S, T, ys.map (fitC (fun x => x / 1024)), by go_num, rfl, S5, HL3, HG3, HWC3⟩
                      case measure => simp [intOf]; omega
                · exfalso
                  have h11 : e2 = 11 := by omega
                  subst h11
                  have h := HE.out
                  have hl := S2.out.len
                  have hn := HN3.out
                  have h1 : rule N S T ys 1 = true := by simp [rule]; omega
                  unfold chkOf at h
                  rw [h1] at h
                  generalize rule N S T ys 0 = r0 at h
                  generalize rule N S T ys 2 = r2 at h
                  generalize rule N S T ys 3 = r3 at h
                  generalize rule N S T ys 4 = r4 at h
                  generalize rule N S T ys 5 = r5 at h
                  revert h
                  cases r0 <;> cases r2 <;> cases r3 <;> cases r4 <;> cases r5 <;> simp
theorem flat31 : flatB Try.prog 31 [some .i64, some .i64, some .i64] = true := by kernel_rfl
theorem netFirst_walk (N S T : Int) (a : Option Addr) (cap : Nat) (els : List (List Value)) (w : World) (_wN : (Lit.int .i64 N).wf = true) (_wS : (Lit.int .i64 S).wf = true) (_wT : (Lit.int .i64 T).wf = true) (hrow : FlatRow [some .i64, some .i64, some .i64] w a cap els) (_hf : ∀ x ∈ els, fits [some .i64, some .i64, some .i64] x) :
    Calls Try.prog 3 #[.agg #[.int .i64 N, .int .i64 S, .int .i64 T, .slice a els.length cap]] w fun e w' => e = .returned (.bool true) ∧ Kept w w' := by
  obtain ⟨ys, hl, hA, hw⟩ := ars_of_flat hrow
  rw [← hl]
  have hle := hrow.le
  have hmo := hrow.most
  unfold maxLen at hmo
  exact netFirst_core N S T a cap ys w hA (by omega) (fun x hx => bounds_i64 (hw x hx).2.2)
end Go.Proofs.Ytafabeehbifgaaa
