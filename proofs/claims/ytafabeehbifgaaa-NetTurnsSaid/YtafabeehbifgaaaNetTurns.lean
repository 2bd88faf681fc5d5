/- The law NetTurns (printed by gen_turns01.py). -/
import Derived.Test.YtafabeehbifgaaaTurn
import Derived.Test.YtafabeehbifgaaaSameN
import Derived.Test.YtafabeehbifgaaaAwake01
import Derived.Test.YtafabeehbifgaaaOpenNet
namespace Go.Proofs.Ytafabeehbifgaaa
set_option linter.unusedVariables false
open Go.RowKit

theorem turn_is (N S T : Int) {w : World} {a : Option Addr} {xs : List Ar} (h : Ars w a xs) {n : Nat} (hn : xs.length = n) (hm : n ≤ 1000000) (c : Nat) :
    Calls Try.prog 16 #[.agg #[.int .i64 N, .int .i64 S, .int .i64 T, .slice a n c]] w fun e w' => ∃ a' c', e = .returned (.agg #[.int .i64 N, .int .i64 T, .int .i64 S, .slice a' n c']) ∧ Ars w' a' (xs.map flip) ∧ Kept w w' := by
  subst hn
  refine (Turn_any N S T a c xs w h hm).mono ?_
  rintro e w' ⟨a', c', rfl, ho, hk⟩
  refine ⟨a', c', by rw [List.length_map], ho.at.2, hk⟩
theorem sum_at {w : World} {a : Option Addr} {xs : List Ar} (h : Ars w a xs) {n : Nat} (hn : xs.length = n) (hm : n ≤ 1000000) {s : Int} {b : Bool} (hs : sumT xs = s) (hb : sumB xs = b) (N S T : Int) (c : Nat) :
    Calls Try.prog 12 #[.agg #[.int .i64 N, .int .i64 S, .int .i64 T, .slice a n c]] w fun e w' => e = .returned (.tuple #[.int .i64 s, .bool b]) ∧ Kept w w' := by
  subst hn hs hb; exact Sum_any N S T a c xs w h (by omega)
theorem check_at {w : World} {a : Option Addr} {xs : List Ar} (h : Ars w a xs) {n : Nat} (hn : xs.length = n) (hm : n ≤ 1000000) {N S T e0 : Int} (he : chkOf N S T xs = e0) (c : Nat) :
    Calls Try.prog 10 #[.agg #[.int .i64 N, .int .i64 S, .int .i64 T, .slice a n c]] w fun e w' => e = .returned (.int .i64 e0) ∧ Kept w w' := by
  subst hn he; exact Check_any N S T a c xs w h (by omega)
theorem same_at {w : World} {a a' : Option Addr} {xs ys : List Ar} (h : Ars w a xs) (h' : Ars w a' ys) {n m : Nat} (hn : xs.length = n) (hm : ys.length = m) (hn2 : n ≤ 1000000) (hm2 : m ≤ 1000000) {N S T N' S' T' : Int} {z : Bool} (hz : decide (N = N' ∧ S = S' ∧ T = T' ∧ xs = ys) = z) (c c' : Nat) :
    Calls Try.prog 15 #[.agg #[.int .i64 N, .int .i64 S, .int .i64 T, .slice a n c], .agg #[.int .i64 N', .int .i64 S', .int .i64 T', .slice a' m c']] w fun e w' => e = .returned (.bool z) ∧ Kept w w' := by
  subst hn hm hz; exact Same_any N S T N' S' T' a a' c c' xs ys w h h' (by omega) (by omega)
theorem samenet_at {w : World} {a a' : Option Addr} {xs : List Ar} (h : Ars w a xs) (h' : Ars w a' xs) {n : Nat} (hn : xs.length = n) (hm : n ≤ 1000000) (N S T : Int) (c c' : Nat) :
    Calls Try.prog 14 #[.agg #[.int .i64 N, .int .i64 S, .int .i64 T, .slice a n c], .agg #[.int .i64 N, .int .i64 S, .int .i64 T, .slice a' n c']] w fun e w' => e = .returned (.bool true) ∧ Kept w w' := by
  subst hn
  have h1 := SameNet_eq N S T a a' c c' xs xs w h h' rfl (by omega)
  simpa using h1
/-- What stays: the nets, and what is left of their rows. -/
structure TW (w : World) (nb ob tb : Nat) (N S T M P Q : Int) (a a' a2 : Option Addr) (n c m c' c2 : Nat) (xs ys : List Ar) (wr : World) : Prop where
  kp : Kept w wr
  nn : Blk wr nb #[.int .i64 N, .int .i64 S, .int .i64 T, .slice a n c] 24
  oo : Blk wr ob #[.int .i64 M, .int .i64 P, .int .i64 Q, .slice a' m c'] 24
  tt : Blk wr tb #[.int .i64 N, .int .i64 T, .int .i64 S, .slice a2 n c2] 24
  an : Ars wr a xs
  ao : Ars wr a' ys
  at_ : Ars wr a2 (xs.map flip)
theorem TW.kept {w : World} {nb ob tb : Nat} {N S T M P Q : Int} {a a' a2 : Option Addr} {n c m c' c2 : Nat} {xs ys : List Ar} {wr w' : World} (h : TW w nb ob tb N S T M P Q a a' a2 n c m c' c2 xs ys wr) (hk : Kept wr w') : TW w nb ob tb N S T M P Q a a' a2 n c m c' c2 xs ys w' :=
  ⟨h.kp.trans hk, h.nn.kept hk, h.oo.kept hk, h.tt.kept hk, h.an.kept hk, h.ao.kept hk, h.at_.kept hk⟩
theorem TW.cells {w : World} {nb ob tb : Nat} {N S T M P Q : Int} {a a' a2 : Option Addr} {n c m c' c2 : Nat} {xs ys : List Ar} {wr : World} (h : TW w nb ob tb N S T M P Q a a' a2 n c m c' c2 xs ys wr) :
    (∀ i, wr.cell? ⟨nb, i, none⟩ = (#[.int .i64 N, .int .i64 S, .int .i64 T, .slice a n c] : Array Value)[i]?) ∧ (∀ i, wr.cell? ⟨ob, i, none⟩ = (#[.int .i64 M, .int .i64 P, .int .i64 Q, .slice a' m c'] : Array Value)[i]?) ∧ (∀ i, wr.cell? ⟨tb, i, none⟩ = (#[.int .i64 N, .int .i64 T, .int .i64 S, .slice a2 n c2] : Array Value)[i]?) := ⟨h.nn.cell, h.oo.cell, h.tt.cell⟩
set_option maxRecDepth 100000 in
set_option maxHeartbeats 2000000 in
theorem netTurns_core (N S T M P Q : Int) (a a' : Option Addr) (n c m c' : Nat) (xs ys : List Ar) (w : World) (h : Ars w a xs) (h' : Ars w a' ys) (hn : xs.length = n) (hm : ys.length = m) (hn2 : n ≤ 9223372036854775807) (hm2 : m ≤ 9223372036854775807) :
    Calls Try.prog 7 #[.agg #[.int .i64 N, .int .i64 S, .int .i64 T, .slice a n c], .agg #[.int .i64 M, .int .i64 P, .int .i64 Q, .slice a' m c']] w fun e w' => e = .returned (.bool true) ∧ Kept w w' := by
  have HAW := fun w => Lib.hid (awake_any w)
  have hk0 := ((Upd.refl (fun _ => False) w).alloc (.cells #[.int .i64 N, .int .i64 S, .int .i64 T, .slice a n c] 24)).alloc (.cells #[.int .i64 M, .int .i64 P, .int .i64 Q, .slice a' m c'] 24)
  have HK0 := Lib.hid hk0
  have HX := Lib.hid h
  have HY := Lib.hid h'
  have HN := Lib.hid hn
  have HM := Lib.hid hm
  clear h h' hk0 hn hm
  by_cases h1 : (300 : Int) < (n : Int)
  · go_enter Try.func7, Try.ntmps7
    go_wp2_with fail
    refine (HAW _).out.mono ?_
    rintro e w1 ⟨rfl, hk⟩
    have HK1 := Lib.hid (HK0.out.trans hk)
    clear hk
    go_wp2_with fail
    go_ret
    exact ⟨rfl, HK1.out⟩
  · by_cases h2 : (300 : Int) < (m : Int)
    · go_enter Try.func7, Try.ntmps7
      go_wp2_with fail
      refine (HAW _).out.mono ?_
      rintro e w1 ⟨rfl, hk⟩
      have HK1 := Lib.hid (HK0.out.trans hk)
      clear hk
      go_wp2_with fail
      go_ret
      exact ⟨rfl, HK1.out⟩
    · have HB := Lib.hid ((Blk.new w #[.int .i64 N, .int .i64 S, .int .i64 T, .slice a n c] 24).alloc (.cells #[.int .i64 M, .int .i64 P, .int .i64 Q, .slice a' m c'] 24))
      have HO := Lib.hid (Blk.new (w.alloc (.cells #[.int .i64 N, .int .i64 S, .int .i64 T, .slice a n c] 24)) #[.int .i64 M, .int .i64 P, .int .i64 Q, .slice a' m c'] 24)
      have e1 : (w.alloc (.cells #[.int .i64 N, .int .i64 S, .int .i64 T, .slice a n c] 24)).heap.size = w.heap.size + 1 := by simp
      rw [e1] at HO
      clear e1
      have HT := Lib.hid (turn_is N S T (HX.out.kept HK0.out) HN.out (by omega) c)
      have hn3 : n ≤ 1000000 := by omega
      have hm3 : m ≤ 1000000 := by omega
      go_enter Try.func7, Try.ntmps7
      go_wp2_with fail
      refine HT.out.mono ?_
      rintro e w1 ⟨a2, c2, rfl, hA, hk⟩
      have HB1 := Lib.hid (HB.out.kept hk)
      have HO1 := Lib.hid (HO.out.kept hk)
      have HK1 := Lib.hid (HK0.out.trans hk)
      have HA1 := Lib.hid hA
      clear hA hk HB HO HT HK0
      go_upto_region 4 with (fail)
      have S2 : Hid (TW w w.heap.size (w.heap.size + 1) w1.heap.size N S T M P Q a a' a2 n c m c' c2 xs ys (w1.alloc (.cells #[.int .i64 N, .int .i64 T, .int .i64 S, .slice a2 n c2] 24))) := Lib.hid
        ⟨HK1.out.alloc _, HB1.out.alloc _, HO1.out.alloc _, Blk.new _ _ _, HX.out.kept (HK1.out.alloc _), HY.out.kept (HK1.out.alloc _), HA1.out.kept ((Upd.refl _ _).alloc _)⟩
      generalize (w1.alloc (.cells #[.int .i64 N, .int .i64 T, .int .i64 S, .slice a2 n c2] 24)) = W2 at S2 ⊢
      obtain ⟨ob, hob⟩ : ∃ ob, ob = w.heap.size + 1 := ⟨_, rfl⟩
      rw [← hob] at S2
      rw [← hob]
      generalize w.heap.size = nb at S2 hob ⊢
      generalize w1.heap.size = tb at S2 ⊢
      clear hob HB1 HO1 HK1 HA1
      obtain ⟨s0, hs0⟩ : ∃ s0, sumT xs = s0 := ⟨_, rfl⟩
      obtain ⟨ok, hok⟩ : ∃ ok, sumB xs = ok := ⟨_, rfl⟩
      obtain ⟨e0, he0⟩ : ∃ e0, chkOf N S T xs = e0 := ⟨_, rfl⟩
      obtain ⟨z, hz⟩ : ∃ z, decide (N = M ∧ S = P ∧ T = Q ∧ xs = ys) = z := ⟨_, rfl⟩
      have HS0 := Lib.hid hs0
      have HOK := Lib.hid hok
      have HE0 := Lib.hid he0
      have HZ := Lib.hid hz
      have HZ2 : Hid (decide (N = M ∧ T = Q ∧ S = P ∧ xs.map flip = ys.map flip) = z) := Lib.hid (by
        rw [← hz]
        congr 1
        rw [flip_inj]
        exact propext ⟨fun ⟨x1, x2, x3, x4⟩ => ⟨x1, x3, x2, x4⟩, fun ⟨x1, x2, x3, x4⟩ => ⟨x1, x3, x2, x4⟩⟩)
      have HFN : Hid ((xs.map flip).length = n) := Lib.hid (by rw [List.length_map]; exact HN.out)
      have HFM : Hid ((ys.map flip).length = m) := Lib.hid (by rw [List.length_map]; exact HM.out)
      clear hs0 hok he0 hz
      obtain ⟨cn, co, ct⟩ := S2.out.cells
      have HS := Lib.hid (sum_at S2.out.an HN.out hn3 HS0.out HOK.out)
      go_wp2_with fail
      refine (HS.out N S T c).mono ?_
      rintro e w3 ⟨rfl, hk⟩
      have S3 := Lib.hid (S2.out.kept hk)
      clear hk S2 HS cn co ct
      obtain ⟨cn, co, ct⟩ := S3.out.cells
      have HS := Lib.hid (sum_at S3.out.at_ HFN.out hn3 ((sumT_flip xs).trans HS0.out) ((sumB_flip xs).trans HOK.out))
      go_upto_region 5 with (fail)
      go_wp2_with fail
      refine (HS.out N T S c2).mono ?_
      rintro e w4 ⟨rfl, hk⟩
      have S4 := Lib.hid (S3.out.kept hk)
      clear hk S3 HS cn co ct
      go_upto_region 6 with (fail)
      have X4 := Lib.hid (S4.out.kept ((Upd.refl _ _).drew))
      have C4 := X4.out.cells
      go_region_held3 (fun w' => (∀ i, w'.cell? ⟨nb, i, none⟩ = (#[.int .i64 N, .int .i64 S, .int .i64 T, .slice a n c] : Array Value)[i]?) ∧ (∀ i, w'.cell? ⟨ob, i, none⟩ = (#[.int .i64 M, .int .i64 P, .int .i64 Q, .slice a' m c'] : Array Value)[i]?) ∧ (∀ i, w'.cell? ⟨tb, i, none⟩ = (#[.int .i64 N, .int .i64 T, .int .i64 S, .slice a2 n c2] : Array Value)[i]?))
        (first | exact C4 | exact C5 | exact C6 | exact C7 | exact C8 | exact C9 | exact C10 | exact C11 | exact C12 | exact C13)
        ((first
          | (go_at_call 8; refine ((HAW _).out).mono ?_; rintro e w13 ⟨rfl, hk⟩; have X13 := Lib.hid (X12.out.kept hk); have C13 := X13.out.cells; clear hk)
          | (go_at_call 15; refine (same_at X11.out.an X11.out.an HN.out HN.out hn3 hn3 (z := true) (by simp) c c).mono ?_; rintro e w12 ⟨rfl, hk⟩; have X12 := Lib.hid (X11.out.kept hk); have C12 := X12.out.cells; clear hk)
          | (go_at_call 15; refine (same_at X10.out.at_ HA10.out HFN.out HFM.out hn3 hm3 HZ2.out c2 c10).mono ?_; rintro e w11 ⟨rfl, hk⟩; have X11 := Lib.hid (X10.out.kept hk); have C11 := X11.out.cells; clear hk)
          | (go_at_call 16; refine (turn_is M P Q X9.out.ao HM.out hm3 c').mono ?_; rintro e w10 ⟨a10, c10, rfl, hA, hk⟩; have X10 := Lib.hid (X9.out.kept hk); have C10 := X10.out.cells; have HA10 := Lib.hid hA; clear hA; clear hk)
          | (go_at_call 15; refine (same_at X8.out.an X8.out.ao HN.out HM.out hn3 hm3 HZ.out c c').mono ?_; rintro e w9 ⟨rfl, hk⟩; have X9 := Lib.hid (X8.out.kept hk); have C9 := X9.out.cells; clear hk)
          | (go_at_call 10; refine (check_at X7.out.an HN.out hn3 HE0.out c).mono ?_; rintro e w8 ⟨rfl, hk⟩; have X8 := Lib.hid (X7.out.kept hk); have C8 := X8.out.cells; clear hk)
          | (go_at_call 10; refine (check_at X6.out.at_ HFN.out hn3 ((chk_flip N S T xs).trans HE0.out) c2).mono ?_; rintro e w7 ⟨rfl, hk⟩; have X7 := Lib.hid (X6.out.kept hk); have C7 := X7.out.cells; clear hk)
          | (go_at_call 14; refine (samenet_at HA5.out X5.out.an HN.out hn3 N S T c5 c).mono ?_; rintro e w6 ⟨rfl, hk⟩; have X6 := Lib.hid (X5.out.kept hk); have C6 := X6.out.cells; clear hk)
          | (go_at_call 16; refine (turn_is N T S X4.out.at_ HFN.out hn3 c2).mono ?_; rintro e w5 ⟨a5, c5, rfl, hA, hk⟩; have X5 := Lib.hid (X4.out.kept hk); have C5 := X5.out.cells; have HA5 := Lib.hid (show Ars w5 a5 xs by rw [flip_flip] at hA; exact hA); clear hA; clear hk)        ))
      go_wp2_with fail
      go_ret
      exact ⟨rfl, X13.out.kp⟩
theorem netTurns_walk (N S T : Int) (a : Option Addr) (cap : Nat) (els : List (List Value)) (M P Q : Int) (a' : Option Addr) (cap' : Nat) (els' : List (List Value)) (w : World) (_wN : (Lit.int .i64 N).wf = true) (_wS : (Lit.int .i64 S).wf = true) (_wT : (Lit.int .i64 T).wf = true) (hrow : FlatRow [some .i64, some .i64, some .i64] w a cap els) (_hf : ∀ x ∈ els, fits [some .i64, some .i64, some .i64] x)
    (_wM : (Lit.int .i64 M).wf = true) (_wP : (Lit.int .i64 P).wf = true) (_wQ : (Lit.int .i64 Q).wf = true) (hrow' : FlatRow [some .i64, some .i64, some .i64] w a' cap' els') (_hf' : ∀ x ∈ els', fits [some .i64, some .i64, some .i64] x) :
    Calls Try.prog 7 #[.agg #[.int .i64 N, .int .i64 S, .int .i64 T, .slice a els.length cap], .agg #[.int .i64 M, .int .i64 P, .int .i64 Q, .slice a' els'.length cap']] w fun e w' => e = .returned (.bool true) ∧ Kept w w' := by
  obtain ⟨xs, hl, hA, _⟩ := ars_of_flat hrow
  obtain ⟨ys, hl', hA', _⟩ := ars_of_flat hrow'
  have hle := hrow.le
  have hmo := hrow.most
  have hle' := hrow'.le
  have hmo' := hrow'.most
  unfold maxLen at hmo hmo'
  exact netTurns_core N S T M P Q a a' els.length cap els'.length cap' xs ys w hA hA' hl hl' (by omega) (by omega)
end Go.Proofs.Ytafabeehbifgaaa
