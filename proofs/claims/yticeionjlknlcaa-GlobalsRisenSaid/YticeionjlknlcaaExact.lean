/- globals.Exact. (printed by gen_exact.py) -/
import Derived.Test.YticeionjlknlcaaGloNext
import Derived.Test.YticeionjlknlcaaRepeat
import Derived.Deep.RegionHeld3
import Derived.StillTailTactics
namespace Go.Proofs.Yticeionjlknlcaa
set_option linter.unusedVariables false
set_option linter.unusedSimpArgs false
open Go.RowKit

/-- Exact heights are handed back, in a row of their own. -/
def ExactEnd (w : World) (N S T : Int) (n m : Nat) (ys : List Ar) (rs : List Int) (e : Ending) (w' : World) : Prop :=
  ∃ g X, e = .returned (.slice (some ⟨g, 0, none⟩) n n) ∧ IsLow S n m ys rs (allN n N T) X ∧ Blk w' g (lv X).toArray 3 ∧ w.heap.size ≤ g ∧ Kept w w'
set_option maxRecDepth 100000 in
set_option maxHeartbeats 8000000 in
theorem exact_ok (N S T : Int) (n m : Nat) (a3 a4 a5 a6 a7 a8 : Option Addr) (c3 c4 c5 c6 c7 c8 : Nat) (ys : List Ar) (ra : Option Addr) (rc : Nat) (rs : List Int) (wk : Nat) (w : World) (hg : Gr N S T n m ys) (hrm : rs.length = m) (hcr : CsrR w n ys a3 a4 a5 a6 a7 a8) (hr : Rd w ra (lv rs)) (hw1 : 1 ≤ wk) (hw2 : wk ≤ 64) :
    Calls Try.prog 25 #[.agg #[.int .i64 N, .int .i64 S, .int .i64 T, .slice a3 (n + 1) c3, .slice a4 m c4, .slice a5 m c5, .slice a6 m c6, .slice a7 m c7, .slice a8 m c8], .slice ra m rc, .int .i64 (wk : Int)] w (ExactEnd w N S T n m ys rs) := by
  have HG := Lib.hid hg
  have HRM := Lib.hid hrm
  have hlen := hg.len
  have hN0 : (N == 0) = false := by simp; omega
  have hmm : ((m : Int) != (m : Int)) = false := by simp
  have hk1 : decide ((wk : Int) < 1) = false := decide_eq_false (by omega)
  have hk2 : decide ((64 : Int) < (wk : Int)) = false := decide_eq_false (by omega)
  have HLN := fun w' => Lib.hid (len_any N S T n m a3 a4 a5 a6 a7 a8 c3 c4 c5 c6 c7 c8 w')
  have hA := (Upd.refl (fun _ => False) w).alloc (.cells #[.int .i64 N, .int .i64 S, .int .i64 T, .slice a3 (n + 1) c3, .slice a4 m c4, .slice a5 m c5, .slice a6 m c6, .slice a7 m c7, .slice a8 m c8] 29)
  have HK1 : Hid (Kept w (w.alloc (.cells #[.int .i64 N, .int .i64 S, .int .i64 T, .slice a3 (n + 1) c3, .slice a4 m c4, .slice a5 m c5, .slice a6 m c6, .slice a7 m c7, .slice a8 m c8] 29))) := Lib.hid hA
  have HCR := Lib.hid (hcr.kept hA)
  have HCR0 := Lib.hid hcr
  have HRS0 := Lib.hid hr
  have HRS := Lib.hid (hr.kept hA)
  have HCB : Hid (Blk (w.alloc (.cells #[.int .i64 N, .int .i64 S, .int .i64 T, .slice a3 (n + 1) c3, .slice a4 m c4, .slice a5 m c5, .slice a6 m c6, .slice a7 m c7, .slice a8 m c8] 29)) w.heap.size #[.int .i64 N, .int .i64 S, .int .i64 T, .slice a3 (n + 1) c3, .slice a4 m c4, .slice a5 m c5, .slice a6 m c6, .slice a7 m c7, .slice a8 m c8] 29) := Lib.hid (Blk.new _ _ _)
  have HREP : ∀ xb w', Blk w' xb #[.int .i64 N] 3 → Hid (Calls Try.prog 51 #[.slice (some ⟨xb, 0, none⟩) 1 1, .int .i64 N] w' fun e w'' => ∃ g, e = .returned (.slice (some ⟨g, 0, none⟩) n n) ∧ Blk w'' g (lv (List.replicate n N)).toArray 3 ∧ w'.heap.size ≤ g ∧ Kept w' w'') := fun xb w' h => Lib.hid (by
    have h1 := Repeat_any xb N n w' h (by omega) (by omega)
    rwa [hlen.1] at h1)
  have hn16 : 2 ≤ n ∧ n ≤ 16 := by omega
  have hT0 : 0 ≤ T := by omega
  have hT1 : T < (n : Int) := by omega
  clear hg hrm hcr hr hA hlen
  go_enter Try.func25, Try.ntmps25
  go_wp2_with fail
  change Calls _ _ _ (w.alloc (.cells #[.int .i64 N, .int .i64 S, .int .i64 T, .slice a3 (n + 1) c3, .slice a4 m c4, .slice a5 m c5, .slice a6 m c6, .slice a7 m c7, .slice a8 m c8] 29)) _
  refine (HLN _).out.mono ?_
  rintro e w1 ⟨rfl, hk⟩
  have HK2 := Lib.hid (HK1.out.trans hk)
  have HCR2 := Lib.hid (HCR.out.kept hk)
  have HRS2 := Lib.hid (HRS.out.kept hk)
  have HCB2 := Lib.hid (HCB.out.kept hk)
  clear hk HK1 HCR HRS HCB HLN
  have bx := HCB2.out.cell
  generalize w.heap.size = cb at HCB2 bx ⊢
  go_upto_region 3 with (fail)
  clear bx hmm hN0 hk1 hk2
  have C0 : (∀ i, w1.drew.cell? ⟨cb, i, none⟩ = (#[.int .i64 N, .int .i64 S, .int .i64 T, .slice a3 (n + 1) c3, .slice a4 m c4, .slice a5 m c5, .slice a6 m c6, .slice a7 m c7, .slice a8 m c8] : Array Value)[i]?) := HCB2.out.drew.cell
  have C1 : (∀ i, (w1.drew.alloc (.cells #[.int .i64 N] 3)).cell? ⟨cb, i, none⟩ = (#[.int .i64 N, .int .i64 S, .int .i64 T, .slice a3 (n + 1) c3, .slice a4 m c4, .slice a5 m c5, .slice a6 m c6, .slice a7 m c7, .slice a8 m c8] : Array Value)[i]?) := (HCB2.out.drew.alloc _).cell
  have HX := HREP w1.drew.heap.size (w1.drew.alloc (.cells #[.int .i64 N] 3)) (Blk.new _ _ _)
  have hal := (Upd.refl (fun _ => False) w1).drew.alloc (.cells #[.int .i64 N] 3)
  go_region_held3 (fun w' => (∀ i, w'.cell? ⟨cb, i, none⟩ = (#[.int .i64 N, .int .i64 S, .int .i64 T, .slice a3 (n + 1) c3, .slice a4 m c4, .slice a5 m c5, .slice a6 m c6, .slice a7 m c7, .slice a8 m c8] : Array Value)[i]?))
    (first | exact C0 | exact C1 | exact C2 | exact C3 _ _)
    ((go_at_call 51; refine HX.out.mono ?_; rintro e w2 ⟨hb, rfl, hhb, hlo, hk⟩; have HK3 := Lib.hid ((HK2.out.trans hal).trans hk); have HCR3 := Lib.hid ((HCR2.out.kept hal).kept hk); have HRS3 := Lib.hid ((HRS2.out.kept hal).kept hk); have HCB3 := Lib.hid ((HCB2.out.kept hal).kept hk); have HHB3 := Lib.hid hhb; have HLO := Lib.hid hlo; have C2 : (∀ i, w2.cell? ⟨cb, i, none⟩ = (#[.int .i64 N, .int .i64 S, .int .i64 T, .slice a3 (n + 1) c3, .slice a4 m c4, .slice a5 m c5, .slice a6 m c6, .slice a7 m c7, .slice a8 m c8] : Array Value)[i]?) := HCB3.out.cell; have C3 : ∀ arr TY, (∀ i, (w2.alloc (.cells arr TY)).cell? ⟨cb, i, none⟩ = (#[.int .i64 N, .int .i64 S, .int .i64 T, .slice a3 (n + 1) c3, .slice a4 m c4, .slice a5 m c5, .slice a6 m c6, .slice a7 m c7, .slice a8 m c8] : Array Value)[i]?) := fun arr TY => (HCB3.out.alloc _).cell; clear hhb hlo hk))
  rename_i hHeld
  clear hHeld C0 C1 C2 C3 HX HREP HCR2 HRS2 HCB2 HCR3 HRS3
  have HLB : Hid (w.heap.size ≤ hb) := Lib.hid (by have h1 := HLO.out; have h2 := HK2.out.size; have h3 := hal.size; omega)
  clear hal HLO
  have HS : Hid (SR N S T n m a3 a4 a5 a6 a7 a8 c3 c4 c5 c6 c7 c8 w ys ra rc rs w2.heap.size hb (List.replicate n N) (w2.alloc (.cells #[.int .i64 N, .int .i64 S, .int .i64 T, .slice a3 (n + 1) c3, .slice a4 m c4, .slice a5 m c5, .slice a6 m c6, .slice a7 m c7, .slice a8 m c8, .slice ra m rc, .slice (some ⟨hb, 0, none⟩) n n] 87))) := Lib.hid ⟨HK3.out.alloc _, Blk.new _ _ _, HCR0.out, HRS0.out, HHB3.out.alloc _, HLB.out⟩
  have HCB4 := Lib.hid (HCB3.out.alloc (.cells #[.int .i64 N, .int .i64 S, .int .i64 T, .slice a3 (n + 1) c3, .slice a4 m c4, .slice a5 m c5, .slice a6 m c6, .slice a7 m c7, .slice a8 m c8, .slice ra m rc, .slice (some ⟨hb, 0, none⟩) n n] 87))
  clear HHB3 HK3 HCB3 HCR0 HRS0 HK2
  go_upto_region 4 with (fail)
  generalize (w2.alloc (.cells #[.int .i64 N, .int .i64 S, .int .i64 T, .slice a3 (n + 1) c3, .slice a4 m c4, .slice a5 m c5, .slice a6 m c6, .slice a7 m c7, .slice a8 m c8, .slice ra m rc, .slice (some ⟨hb, 0, none⟩) n n] 87)) = W3 at HS HCB4 ⊢
  generalize w2.heap.size = sb at HS ⊢
  have HSd := Lib.hid (HS.out.kept (Upd.refl _ _).drew)
  have HCBd := Lib.hid HCB4.out.drew
  have hTn : T.toNat < n := by omega
  have bx := HCB4.out.cell
  have bs := HS.out.box.cell
  go_still_tail 7, (by kernel_rfl)
  change wpList _ _ _ _ _ W3.drew
  clear HS HCB4 bx bs
  generalize W3.drew = W4 at HSd HCBd ⊢
  have bx := HCBd.out.cell
  have bs := HSd.out.box.cell
  have hc : W4.cell? ⟨hb, T.toNat, none⟩ = some (.int .i64 N) := by
    rw [HSd.out.h.cell]
    simp only [List.getElem?_toArray]
    rw [lv_get (by simpa using hTn)]
    simp [hTn]
  have hf := HSd.out.h.free T.toNat
  have HS5 : Hid (SR N S T n m a3 a4 a5 a6 a7 a8 c3 c4 c5 c6 c7 c8 w ys ra rc rs sb hb (allN n N T) (W4.setCell ⟨hb, T.toNat, none⟩ (.int .i64 0))) := Lib.hid (HSd.out.put T.toNat 0)
  have HCB5 : Hid (Blk (W4.setCell ⟨hb, T.toNat, none⟩ (.int .i64 0)) cb #[.int .i64 N, .int .i64 S, .int .i64 T, .slice a3 (n + 1) c3, .slice a4 m c4, .slice a5 m c5, .slice a6 m c6, .slice a7 m c7, .slice a8 m c8] 29) := Lib.hid (HCBd.out.other (fun e => by
    have e : cb = hb := e
    subst e
    have := (HCBd.out.same HSd.out.h).2
    revert this
    decide) _)
  clear HSd HCBd
  go_upto_region 5 with (fail)
  generalize (W4.setCell ⟨hb, T.toNat, none⟩ (.int .i64 0)) = W5 at HS5 HCB5 ⊢
  clear bx bs hc hf
  have bx := HCB5.out.cell
  have eT : T = ((T.toNat : Nat) : Int) := by omega
  have HS6 := Lib.hid (HS5.out.kept ((Upd.refl _ _).alloc (.cells #[.int .i64 T] 3)))
  have HR6 : Hid (Rd (W5.alloc (.cells #[.int .i64 T] 3)) (some ⟨W5.heap.size, 0, none⟩) (nv [T.toNat])) := Lib.hid (by
    have h1 := Rd.blk (Blk.new W5 (nv [T.toNat]).toArray 3)
    rwa [show (nv [T.toNat]).toArray = #[.int .i64 T] by simp [nv, ← eT]] at h1)
  have HL6 : Hid (Lvl N S T n m ys rs 1 (allN n N T) [T.toNat]) := Lib.hid (Lvl.start HG.out)
  clear HS5 HCB5 eT hTn
  go_upto_region 7 with (fail)
  go_loopw [8, 9] (fun y z wr => ∃ (d k c : Nat) (a : Option Addr) (row : List Nat) (h : List Int), y = .slice a k c ∧ z = .int .i64 d ∧ Hid (row.length = k) ∧ Hid (Lvl N S T n m ys rs d h row) ∧ Hid (SR N S T n m a3 a4 a5 a6 a7 a8 c3 c4 c5 c6 c7 c8 w ys ra rc rs sb hb h wr) ∧ Hid (Rd wr a (nv row)) ∧ Hid (k ≤ c)) (fun _ z _ => n + 1 - (intOf z).toNat)
  case atStart => exact ⟨1, 1, 1, _, [T.toNat], allN n N T, rfl, rfl, Lib.hid rfl, HL6, HS6, HR6, Lib.hid (Nat.le_refl _)⟩
  case round =>
    clear HS6 HR6 HL6 bx
    obtain ⟨d, k, c, a, row, h, rfl, rfl, HRL, HL, HS, HR, HKC⟩ := hrel
    by_cases hk : k = 0
    · subst hk
      have HIL : Hid (IsLow S n m ys rs (allN n N T) h) := Lib.hid (by
        have e : row = [] := List.eq_nil_of_length_eq_zero HRL.out
        have := HL.out
        rw [e] at this
        exact this.done HG.out)
      have bs := HS.out.box.cell
      go_wp2_with fail
      go_ret
      exact ⟨hb, h, rfl, HIL.out, HS.out.h, HS.out.lo, HS.out.kp⟩
    · have hne : row ≠ [] := fun e => hk (by rw [← HRL.out, e]; rfl)
      have hdn := HL.out.small HG.out hne
      have hk16 : k ≤ 16 := by have := HL.out.room; have := HRL.out; omega
      have hd1 := HL.out.one
      have HNX := Lib.hid (next_any N S T n m a3 a4 a5 a6 a7 a8 c3 c4 c5 c6 c7 c8 w ys ra rc rs sb hb h row a k c wk d wr HG.out HRM.out HL.out.len HS.out HR.out HRL (by omega) hk16 HKC.out (fun v hv => ((HL.out.rowm v).1 hv).1) hw1 hw2 (by omega) (Upd.refl _ _))
      have HNE := Lib.hid hne
      have hk0 : (0 : Int) < (k : Int) := by omega
      clear hne
      go_wp2_with fail
      refine HNX.out.mono ?_
      rintro e W' ⟨a', k', c', F', h', rfl, hkc, hFl, hFm, hFn, hl', hv', hS', hR', hU'⟩
      have HL2 : Hid (Lvl N S T n m ys rs (d + 1) h' F') := Lib.hid (HL.out.step HG.out HNE.out hFm hFn hl' hv')
      have HFL := Lib.hid hFl
      have HS2 := Lib.hid hS'
      have HR2 := Lib.hid hR'
      have HKC2 := Lib.hid hkc
      clear hkc hFl hFm hFn hl' hv' hS' hR' hU' HL HS HR HNX HRL
      go_wp2_with fail
      go_roundw
      case rel => exact ⟨d + 1, k', c', a', F', h', rfl, by go_num, HFL, HL2, HS2, HR2, HKC2⟩
      case measure => simp [intOf]; omega
end Go.Proofs.Yticeionjlknlcaa
