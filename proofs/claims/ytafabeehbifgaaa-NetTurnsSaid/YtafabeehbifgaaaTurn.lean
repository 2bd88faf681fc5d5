/- net.Turn, net.Same. -/
import Derived.Test.YtafabeehbifgaaaNetState
import Derived.Test.YtafabeehbifgaaaNetEqual
import Derived.Test.YtafabeehbifgaaaSums
import Derived.Deep.CutRange
import Derived.StillTailTactics
import Derived.Deep.RegionHeld3
namespace Go.Proofs.Ytafabeehbifgaaa
set_option linter.unusedVariables false
open Go.RowKit

def flip (x : Ar) : Ar := ⟨x.t, x.f, x.c⟩
theorem flip_flip (ys : List Ar) : (ys.map flip).map flip = ys := by
  rw [List.map_map]
  have : flip ∘ flip = id := by funext x; rfl
  rw [this, List.map_id]
theorem flip_inj {xs ys : List Ar} : xs.map flip = ys.map flip ↔ xs = ys := by
  constructor
  · intro h
    have := congrArg (List.map flip) h
    rwa [flip_flip, flip_flip] at this
  · intro h; rw [h]
theorem leftOf_flip : ∀ (ys : List Ar) (l : Int), leftOf (ys.map flip) l = leftOf ys l
  | [], l => rfl
  | a :: ys, l => by
    simp only [List.map_cons, leftOf]
    rw [leftOf_flip ys]
    rfl
theorem sumT_flip (ys : List Ar) : sumT (ys.map flip) = sumT ys := by unfold sumT; rw [leftOf_flip]
theorem sumB_flip (ys : List Ar) : sumB (ys.map flip) = sumB ys := by unfold sumB; rw [leftOf_flip]
theorem chk_flip (N S T : Int) (ys : List Ar) : chkOf N T S (ys.map flip) = chkOf N S T ys := by
  have h1 : rule N T S (ys.map flip) 1 = rule N S T ys 1 := by simp [rule]
  have h2 : rule N T S (ys.map flip) 2 = rule N S T ys 2 := by
    simp only [rule]
    generalize inN N S = p
    generalize inN N T = q
    have : decide (T ≠ S) = decide (S ≠ T) := by congr 1; exact propext ⟨fun h e => h e.symm, fun h e => h e.symm⟩
    rw [this]
    cases p <;> cases q <;> simp
  have h3 : rule N T S (ys.map flip) 3 = rule N S T ys 3 := by
    simp only [rule, List.all_map]
    congr 1
    funext x
    simp only [Function.comp, flip]
    exact Bool.and_comm _ _
  have h4 : rule N T S (ys.map flip) 4 = rule N S T ys 4 := by
    simp only [rule, List.all_map]
    rfl
  have h5 : rule N T S (ys.map flip) 5 = rule N S T ys 5 := sumB_flip ys
  unfold chkOf
  rw [h1, h2, h3, h4, h5]
  rfl
set_option maxHeartbeats 1000000 in
theorem Turn_any (N S T : Int) (a : Option Addr) (cap : Nat) (ys : List Ar) (w : World) (h : Ars w a ys) (hm : ys.length ≤ 1000000) :
    Calls Try.prog 16 #[.agg #[.int .i64 N, .int .i64 S, .int .i64 T, .slice a ys.length cap]] w (CopyIs N T S (ys.map flip) w) := by
  have hk0 := ((Upd.refl (fun _ => False) w).alloc (.cells #[.int .i64 N, .int .i64 S, .int .i64 T, .slice a ys.length cap] 24)).alloc (.cells #[.int .i64 0, .int .i64 0, .int .i64 0, .slice none 0 0] 24)
  have HC := Lib.hid (Copy_any N S T a cap ys ((w.alloc (.cells #[.int .i64 N, .int .i64 S, .int .i64 T, .slice a ys.length cap] 24)).alloc (.cells #[.int .i64 0, .int .i64 0, .int .i64 0, .slice none 0 0] 24)) (h.kept hk0) (by omega))
  have HX := Lib.hid h
  have HB := Lib.hid ((Blk.new w #[.int .i64 N, .int .i64 S, .int .i64 T, .slice a ys.length cap] 24).alloc (.cells #[.int .i64 0, .int .i64 0, .int .i64 0, .slice none 0 0] 24))
  have HR := Lib.hid (Blk.new (w.alloc (.cells #[.int .i64 N, .int .i64 S, .int .i64 T, .slice a ys.length cap] 24)) #[.int .i64 0, .int .i64 0, .int .i64 0, .slice none 0 0] 24)
  have e1 : (w.alloc (.cells #[.int .i64 N, .int .i64 S, .int .i64 T, .slice a ys.length cap] 24)).heap.size = w.heap.size + 1 := by simp
  rw [e1] at HR
  have HK := Lib.hid hk0
  have hsz : ((w.alloc (.cells #[.int .i64 N, .int .i64 S, .int .i64 T, .slice a ys.length cap] 24)).alloc (.cells #[.int .i64 0, .int .i64 0, .int .i64 0, .slice none 0 0] 24)).heap.size = w.heap.size + 2 := by simp
  clear h hk0 e1
  go_enter Try.func16, Try.ntmps16
  go_wp2_with fail
  refine HC.out.mono ?_
  rintro e w1 ⟨a1, c1, rfl, hO, hk⟩
  have HB1 := Lib.hid (HB.out.kept hk)
  have HR1 := Lib.hid (HR.out.kept hk)
  have HK1 := Lib.hid (HK.out.trans hk)
  have HO1 := Lib.hid (hO.base (base' := w.heap.size) (by omega))
  have hs1 : w.heap.size + 2 ≤ w1.heap.size := by have := hk.size; omega
  clear hk hO HB HR HK HC hsz
  go_upto_region 2 with (fail)
  have S2 : Hid (NF w w1.heap.size N S T a1 ys.length c1 ys (w1.alloc (.cells #[.int .i64 N, .int .i64 S, .int .i64 T, .slice a1 ys.length c1] 24))) := Lib.hid ⟨HK1.out.alloc _, Blk.new _ _ _, HO1.out.kept ((Upd.refl _ _).alloc _), by omega⟩
  have HB2 := Lib.hid (HB1.out.alloc (.cells #[.int .i64 N, .int .i64 S, .int .i64 T, .slice a1 ys.length c1] 24))
  have HR2 := Lib.hid (HR1.out.alloc (.cells #[.int .i64 N, .int .i64 S, .int .i64 T, .slice a1 ys.length c1] 24))
  generalize (w1.alloc (.cells #[.int .i64 N, .int .i64 S, .int .i64 T, .slice a1 ys.length c1] 24)) = W2 at S2 HB2 HR2 ⊢
  have hnt : ¬ w.heap.size = w1.heap.size := by omega
  have hrt : ¬ w.heap.size + 1 = w1.heap.size := by omega
  generalize w1.heap.size = tb at S2 hnt hrt ⊢
  clear HB1 HR1 HK1 HO1 hs1
  have S3 := Lib.hid (S2.out.setS T)
  have S4 := Lib.hid (S3.out.setT S)
  have HB3 := Lib.hid (Blk.other HB2.out (p := ⟨tb, 1, none⟩) hnt (.int .i64 T))
  have HB4 := Lib.hid (Blk.other HB3.out (p := ⟨tb, 2, none⟩) hnt (.int .i64 S))
  have HR4 := Lib.hid (Blk.other (Blk.other HR2.out (p := ⟨tb, 1, none⟩) hrt (.int .i64 T)) (p := ⟨tb, 2, none⟩) hrt (.int .i64 S))
  have C0 : ∀ i, W2.drew.cell? ⟨w.heap.size, i, none⟩ = (#[.int .i64 N, .int .i64 S, .int .i64 T, .slice a ys.length cap] : Array Value)[i]? := HB2.out.cell
  have C1 : ∀ i, (W2.setCell ⟨tb, 1, none⟩ (.int .i64 T)).drew.cell? ⟨w.heap.size, i, none⟩ = (#[.int .i64 N, .int .i64 S, .int .i64 T, .slice a ys.length cap] : Array Value)[i]? := HB3.out.cell
  have C2 : ∀ i, ((W2.setCell ⟨tb, 1, none⟩ (.int .i64 T)).setCell ⟨tb, 2, none⟩ (.int .i64 S)).drew.cell? ⟨w.heap.size, i, none⟩ = (#[.int .i64 N, .int .i64 S, .int .i64 T, .slice a ys.length cap] : Array Value)[i]? := HB4.out.cell
  have f0 := S2.out.net.cell
  have k0 := S2.out.net.free
  have f1 := S3.out.net.cell
  have k1 := S3.out.net.free
  go_region_held3 (fun w' => ∀ i, w'.cell? ⟨w.heap.size, i, none⟩ = (#[.int .i64 N, .int .i64 S, .int .i64 T, .slice a ys.length cap] : Array Value)[i]?)
    (first | exact C0 | exact C1 | exact C2)
    (fail)
  have S5 : Hid (NF w tb N T S a1 ys.length c1 ys (((W2.setCell ⟨tb, 1, none⟩ (.int .i64 T)).setCell ⟨tb, 2, none⟩ (.int .i64 S)).drew)) := Lib.hid (S4.out.kept ((Upd.refl _ _).drew))
  have HB5 := Lib.hid (show Blk (((W2.setCell ⟨tb, 1, none⟩ (.int .i64 T)).setCell ⟨tb, 2, none⟩ (.int .i64 S)).drew) w.heap.size _ _ from HB4.out)
  have HR5 := Lib.hid (show Blk (((W2.setCell ⟨tb, 1, none⟩ (.int .i64 T)).setCell ⟨tb, 2, none⟩ (.int .i64 S)).drew) (w.heap.size + 1) _ _ from HR4.out)
  generalize (((W2.setCell ⟨tb, 1, none⟩ (.int .i64 T)).setCell ⟨tb, 2, none⟩ (.int .i64 S)).drew) = W5 at S5 HB5 HR5 ⊢
  clear S2 S3 S4 HB2 HB3 HB4 HR2 HR4 C0 C1 C2 f0 k0 f1 k1
  have cb := HB5.out.cell
  go_upto_region 4 with (fail)
  clear cb
  obtain ⟨n, hn⟩ : ∃ n, n = ys.length := ⟨_, rfl⟩
  have hnm : n ≤ 1000000 := by omega
  have HNL := Lib.hid hn
  rw [← hn] at S5 HB5 ⊢
  clear hn
  go_loopw [17] (fun ix wr => ∃ k : Nat, ix = .int .i64 k ∧ k ≤ n ∧ Hid (NF w tb N T S a1 n c1 (mapTo k flip ys) wr) ∧ Hid (Blk wr w.heap.size #[.int .i64 N, .int .i64 S, .int .i64 T, .slice a n cap] 24) ∧ Hid (Blk wr (w.heap.size + 1) #[.int .i64 0, .int .i64 0, .int .i64 0, .slice none 0 0] 24)) (fun ix _ => n - (intOf ix).toNat)
  case atStart => exact ⟨0, rfl, by omega, by rw [mapTo_zero]; exact S5, HB5, HR5⟩
  case round =>
    obtain ⟨k, rfl, hk, S6, HB6, HR6⟩ := hrel
    clear S5 HB5 HR5
    by_cases hlt : k < n
    · as_aux_lemma =>
      have hk1 : k < ys.length := by rw [← HNL.out]; exact hlt
      have hk2 : k < (mapTo k flip ys).length := by rw [mapTo_len]; exact hk1
      have hget := mapTo_get k flip ys hk1 hk2
      have hset := mapTo_set k flip ys hk1
      obtain ⟨b, off, rfl, c0, c1', c2⟩ := (HX.out.kept S6.out.kp).at k hk1
      have hfl : (⟨ys[k].t, ys[k].f, ys[k].c⟩ : Ar) = flip ys[k] := rfl
      have S7 := Lib.hid (S6.out.kept ((Upd.refl _ _).alloc (.cells #[.int .i64 ys[k].f, .int .i64 ys[k].t, .int .i64 ys[k].c] 31)))
      have HB7 := Lib.hid (HB6.out.alloc (.cells #[.int .i64 ys[k].f, .int .i64 ys[k].t, .int .i64 ys[k].c] 31))
      have HR7 := Lib.hid (HR6.out.alloc (.cells #[.int .i64 ys[k].f, .int .i64 ys[k].t, .int .i64 ys[k].c] 31))
      have HA7 := Lib.hid (Blk.new wr #[.int .i64 ys[k].f, .int .i64 ys[k].t, .int .i64 ys[k].c] 31)
      have q0 : (0 : Int) ≤ (k : Int) := by omega
      have q1 : (k : Int) < (n : Int) := by omega
      have cb := HB6.out.cell
      have htl : tb < wr.heap.size := S6.out.net.lt
      go_upto_region 6 with (fail)
      clear cb c0 c1' c2
      generalize (wr.alloc (.cells #[.int .i64 ys[k].f, .int .i64 ys[k].t, .int .i64 ys[k].c] 31)) = W at S7 HB7 HR7 HA7 ⊢
      obtain ⟨g, rfl, hg, hgl, hgf⟩ := S7.out.own.blk (by omega)
      have hga : ¬ g = wr.heap.size := by
        obtain ⟨g', hg', _, hgl', _⟩ := S6.out.own.blk (by omega)
        cases hg'
        omega
      generalize wr.heap.size = ab at HA7 htl hga ⊢
      have hbg := S7.out.own.ne HB7.out (by decide)
      have hrg := S7.out.own.ne HR7.out (by decide)
      obtain ⟨d0, d1, d2⟩ : W.cell? ⟨g, k * 3, none⟩ = some (.int .i64 ys[k].f) ∧ W.cell? ⟨g, k * 3 + 1, none⟩ = some (.int .i64 ys[k].t) ∧ W.cell? ⟨g, k * 3 + 2, none⟩ = some (.int .i64 ys[k].c) := by
        obtain ⟨b', off', e, h0, h1, h2⟩ := S7.out.own.at.2.at k hk2
        cases e
        simp only [Nat.zero_add] at h0 h1 h2
        rw [hget] at h0 h1 h2
        exact ⟨h0, h1, h2⟩
      have ct := S7.out.net.cell
      have ca := HA7.out.cell
      have S8 : Hid (NF w tb N T S (some ⟨g, 0, none⟩) n c1 (mapTo (k + 1) flip ys) (((W.setCell ⟨g, k * 3, none⟩ (.int .i64 ys[k].t)).setCell ⟨g, k * 3 + 1, none⟩ (.int .i64 ys[k].f)).setCell ⟨g, k * 3 + 2, none⟩ (.int .i64 ys[k].c))) := Lib.hid (by
        have h := ((S7.out.setF k hk2 ys[k].t).setTo k (by simpa using hk2) ys[k].f).setC k (by simpa using hk2) ys[k].c
        simp only [List.getElem_set_self, List.set_set] at h
        rw [hfl, hset] at h
        exact h)
      have HB8 := Lib.hid (Blk.other (Blk.other (Blk.other HB7.out (p := ⟨g, k * 3, none⟩) (fun e => hbg e.symm) (.int .i64 ys[k].t)) (p := ⟨g, k * 3 + 1, none⟩) (fun e => hbg e.symm) (.int .i64 ys[k].f)) (p := ⟨g, k * 3 + 2, none⟩) (fun e => hbg e.symm) (.int .i64 ys[k].c))
      have HR8 := Lib.hid (Blk.other (Blk.other (Blk.other HR7.out (p := ⟨g, k * 3, none⟩) (fun e => hrg e.symm) (.int .i64 ys[k].t)) (p := ⟨g, k * 3 + 1, none⟩) (fun e => hrg e.symm) (.int .i64 ys[k].f)) (p := ⟨g, k * 3 + 2, none⟩) (fun e => hrg e.symm) (.int .i64 ys[k].c))
      clear S6 S7 HB6 HB7 HR6 HR7 HA7 hget hset hfl hbg hrg
      go_wp2_with fail
      go_roundw
      case rel => exact ⟨k + 1, by go_num, by omega, S8, HB8, HR8⟩
      case measure => simp [intOf]; omega
    · as_aux_lemma =>
      have S7 : Hid (NF w tb N T S a1 n c1 (ys.map flip) wr) := Lib.hid (by
        have h := S6.out
        rw [mapTo_all flip ys (by rw [← HNL.out]; omega)] at h
        exact h)
      have ct := S7.out.net.cell
      have cr := HR6.out.cell
      have fr := HR6.out.free
      clear S6
      go_wp2_with fail
      obtain ⟨w3, hw3, hB3, hU3⟩ := HR6.out.put4 (.int .i64 N) (.int .i64 T) (.int .i64 S) (.slice a1 n c1)
      rw [← hw3]
      have hc3 := hB3.cell
      clear hw3 ct cr fr
      have hml : n = (ys.map flip).length := by rw [List.length_map]; exact HNL.out
      refine bodyPost_ret (v := .agg #[.int .i64 N, .int .i64 T, .int .i64 S, .slice a1 n c1]) ?_ rfl ?_
      · simp [results, go_sem, hc3]
      · refine ⟨a1, c1, by rw [← hml], ?_, S7.out.kp.then hU3 (fun i hi he => by omega)⟩
        rw [← hml]
        exact S7.out.own.far hU3 (fun g hg he => by subst hg; exact S7.out.own.ne HR6.out (by decide) he)
end Go.Proofs.Ytafabeehbifgaaa
