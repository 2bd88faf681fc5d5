/- acequialaw05.Left of a right net (printed by gen_left.py). -/
import Derived.Test.YticeionjlknlcaaRefRes
import Derived.Deep.RegionHeld3
namespace Go.Proofs.Yticeionjlknlcaa
set_option linter.unusedVariables false
open Go.RowKit

/-- What Left hands back. -/
def LeftIs (N S T : Int) (ys : List Ar) (ls : List Int) (w : World) (e : Ending) (w' : World) : Prop := ∃ B n m a3 c3 a4 c4 a5 c5 a6 c6 a7 c7 a8 c8 a9 c9,
  e = .returned (.tuple #[.agg #[.int .i64 N, .int .i64 S, .int .i64 T, .slice a3 (n + 1) c3, .slice a4 m c4, .slice a5 m c5, .slice a6 m c6, .slice a7 m c7, .slice a8 m c8], .slice a9 m c9]) ∧ N.toNat = n ∧ (enAll n ys).length = m ∧ CsrR w' n ys a3 a4 a5 a6 a7 a8 ∧ CsrL w.heap.size B a3 a4 a5 a6 a7 a8 ∧ Kept w w' ∧ w.heap.size ≤ B ∧ w'.ownsRow B 2 1 (.slice a9 m c9) m (lv (resAll (wths ls ys) n ys))
theorem res_at (N S T : Int) (n m : Nat) (ys : List Ar) (a3 a4 a5 a6 a7 a8 : Option Addr) (c3 c4 c5 c6 c7 c8 : Nat) (fa : Option Addr) (fl fc : Nat) (fs : List Int) (w : World) (hc : CsrR w n ys a3 a4 a5 a6 a7 a8) (hm : (enAll n ys).length = m) (hm2 : m ≤ 1280) (hy : ∀ x ∈ ys, ArcOk n x) (hf : FsOk fs ys) (hr : Rd w fa (lv fs)) (hfl : fs.length = fl) :
    Calls Try.prog 36 #[.agg #[.int .i64 N, .int .i64 S, .int .i64 T, .slice a3 (n + 1) c3, .slice a4 m c4, .slice a5 m c5, .slice a6 m c6, .slice a7 m c7, .slice a8 m c8], .slice fa fl fc] w fun e w' => ∃ a9 c9, e = .returned (.tuple #[.slice a9 m c9, .int .i64 0]) ∧ w'.ownsRow w.heap.size 2 1 (.slice a9 m c9) m (lv (resAll fs n ys)) ∧ Kept w w' := by
  subst hfl
  refine (Res_ok N S T n m ys a3 a4 a5 a6 a7 a8 c3 c4 c5 c6 c7 c8 fa fc fs w hc hm hm2 hy hf hr).mono ?_
  rintro e w' ⟨v9, rfl, ho, hk⟩
  obtain ⟨a9, c9, rfl⟩ := row_form ho
  exact ⟨a9, c9, rfl, ho, hk⟩
structure LW (w w1 : World) (nb rb cb : Nat) (N S T : Int) (n m : Nat) (ys : List Ar) (a : Option Addr) (cap : Nat) (la : Option Addr) (ls : List Int) (a3 a4 a5 a6 a7 a8 : Option Addr) (c3 c4 c5 c6 c7 c8 : Nat) (wr : World) : Prop where
  kp : Kept w1 wr
  nn : Blk wr nb #[.int .i64 N, .int .i64 S, .int .i64 T, .slice a ys.length cap] 24
  rr : Blk wr rb #[.int .i64 0, .int .i64 0, .int .i64 0, .slice none 0 0, .slice none 0 0, .slice none 0 0, .slice none 0 0, .slice none 0 0, .slice none 0 0] 29
  cc : Blk wr cb #[.int .i64 N, .int .i64 S, .int .i64 T, .slice a3 (n + 1) c3, .slice a4 m c4, .slice a5 m c5, .slice a6 m c6, .slice a7 m c7, .slice a8 m c8] 29
  an : Ars wr a ys
  al : Rd wr la (ls.map (Value.int .i64))
  cr : CsrR wr n ys a3 a4 a5 a6 a7 a8
theorem LW.kept {w w1 : World} {nb rb cb : Nat} {N S T : Int} {n m : Nat} {ys : List Ar} {a : Option Addr} {cap : Nat} {la : Option Addr} {ls : List Int} {a3 a4 a5 a6 a7 a8 : Option Addr} {c3 c4 c5 c6 c7 c8 : Nat} {wr w' : World} (h : LW w w1 nb rb cb N S T n m ys a cap la ls a3 a4 a5 a6 a7 a8 c3 c4 c5 c6 c7 c8 wr) (hk : Kept wr w') : LW w w1 nb rb cb N S T n m ys a cap la ls a3 a4 a5 a6 a7 a8 c3 c4 c5 c6 c7 c8 w' :=
  ⟨h.kp.trans hk, h.nn.kept hk, h.rr.kept hk, h.cc.kept hk, h.an.kept hk, h.al.kept hk, h.cr.kept hk⟩

set_option maxHeartbeats 4000000 in
theorem Left_ok (N S T : Int) (a : Option Addr) (cap : Nat) (ys : List Ar) (la : Option Addr) (lc : Nat) (ls : List Int) (w : World) (h : Ars w a ys) (hok : NetOk N S T ys)
    (hl : Rd w la (ls.map (Value.int .i64))) (hi : ∀ x ∈ ls, -9223372036854775808 ≤ x ∧ x ≤ 9223372036854775807) (hll : ls.length ≤ 9223372036854775807) :
    Calls Try.prog 12 #[.agg #[.int .i64 N, .int .i64 S, .int .i64 T, .slice a ys.length cap], .slice la ls.length lc] w (LeftIs N S T ys ls w) := by
  have HB := Lib.hid ((Blk.new w #[.int .i64 N, .int .i64 S, .int .i64 T, .slice a ys.length cap] 24).alloc (.cells #[.int .i64 0, .int .i64 0, .int .i64 0, .slice none 0 0, .slice none 0 0, .slice none 0 0, .slice none 0 0, .slice none 0 0, .slice none 0 0] 29))
  have HR := Lib.hid (Blk.new (w.alloc (.cells #[.int .i64 N, .int .i64 S, .int .i64 T, .slice a ys.length cap] 24)) #[.int .i64 0, .int .i64 0, .int .i64 0, .slice none 0 0, .slice none 0 0, .slice none 0 0, .slice none 0 0, .slice none 0 0, .slice none 0 0] 29)
  have e1 : (w.alloc (.cells #[.int .i64 N, .int .i64 S, .int .i64 T, .slice a ys.length cap] 24)).heap.size = w.heap.size + 1 := by simp
  rw [e1] at HR
  have HK := Lib.hid (((Upd.refl (fun _ => False) w).alloc (.cells #[.int .i64 N, .int .i64 S, .int .i64 T, .slice a ys.length cap] 24)).alloc (.cells #[.int .i64 0, .int .i64 0, .int .i64 0, .slice none 0 0, .slice none 0 0, .slice none 0 0, .slice none 0 0, .slice none 0 0, .slice none 0 0] 29))
  have HS := Lib.hid (show w.heap.size + 2 ≤ ((w.alloc (.cells #[.int .i64 N, .int .i64 S, .int .i64 T, .slice a ys.length cap] 24)).alloc (.cells #[.int .i64 0, .int .i64 0, .int .i64 0, .slice none 0 0, .slice none 0 0, .slice none 0 0, .slice none 0 0, .slice none 0 0, .slice none 0 0] 29)).heap.size by simp)
  have HX := Lib.hid h
  have HO := Lib.hid hok
  have HL := Lib.hid hl
  have HI := Lib.hid hi
  clear h hok hl hi e1
  go_enter Try.func12, Try.ntmps12
  go_upto_region 1 with (fail)
  generalize ((w.alloc (.cells #[.int .i64 N, .int .i64 S, .int .i64 T, .slice a ys.length cap] 24)).alloc (.cells #[.int .i64 0, .int .i64 0, .int .i64 0, .slice none 0 0, .slice none 0 0, .slice none 0 0, .slice none 0 0, .slice none 0 0, .slice none 0 0] 29)) = W0 at HB HR HK HS ⊢
  have cp := HB.out.cell
  go_wp2_with fail
  refine (Make_ok N S T a cap ys _ (HX.out.kept HK.out) HO.out).mono ?_
  rintro e w1 ⟨v3, v4, v5, v6, v7, v8, rfl, hcv, hk1⟩
  clear cp
  obtain ⟨a3, c3, a4, c4, a5, c5, a6, c6, a7, c7, a8, c8, rfl, rfl, rfl, rfl, rfl, rfl, hcr, hcl⟩ := hcv.rd
  clear hcv
  obtain ⟨n, hn⟩ : ∃ n, N.toNat = n := ⟨_, rfl⟩
  rw [hn] at hcr ⊢
  obtain ⟨m, hm⟩ : ∃ m, (enAll n ys).length = m := ⟨_, rfl⟩
  rw [hm]
  have HM := Lib.hid hm
  have HN := Lib.hid hn
  have HM2 : Hid (m ≤ 1280) := Lib.hid (by
    have h2 := enAll_len n ys
    have h4 : n * ys.length ≤ 16 * 40 := Nat.mul_le_mul (by have := HO.out.n16; omega) HO.out.len
    omega)
  have HKK := Lib.hid (HK.out.trans hk1)
  have S1 : Hid (LW w w1 w.heap.size (w.heap.size + 1) w1.heap.size N S T n m ys a cap la ls a3 a4 a5 a6 a7 a8 c3 c4 c5 c6 c7 c8 (w1.alloc (.cells #[.int .i64 N, .int .i64 S, .int .i64 T, .slice a3 (n + 1) c3, .slice a4 m c4, .slice a5 m c5, .slice a6 m c6, .slice a7 m c7, .slice a8 m c8] 29))) := Lib.hid (by
    have hA := (Upd.refl (fun _ => False) w1).alloc (.cells #[.int .i64 N, .int .i64 S, .int .i64 T, .slice a3 (n + 1) c3, .slice a4 m c4, .slice a5 m c5, .slice a6 m c6, .slice a7 m c7, .slice a8 m c8] 29)
    exact ⟨hA, (HB.out.kept hk1).kept hA, (HR.out.kept hk1).kept hA, Blk.new _ _ _, (HX.out.kept HKK.out).kept hA, (HL.out.kept HKK.out).kept hA, hcr.kept hA⟩)
  have HSZ := Lib.hid (show w.heap.size + 1 < w1.heap.size by have := hk1.size; have := HS.out; omega)
  have HCL := Lib.hid hcl
  have HS0 := Lib.hid (show w.heap.size + 2 ≤ W0.heap.size from HS.out)
  clear hcl
  clear hn hm HB HR HK HS HX HL hk1 hcr
  go_upto_region 2 with (fail)
  generalize (w1.alloc (.cells #[.int .i64 N, .int .i64 S, .int .i64 T, .slice a3 (n + 1) c3, .slice a4 m c4, .slice a5 m c5, .slice a6 m c6, .slice a7 m c7, .slice a8 m c8] 29)) = W2 at S1 ⊢
  obtain ⟨cb, hcb⟩ : ∃ cb, cb = w1.heap.size := ⟨_, rfl⟩
  obtain ⟨rb, hrb⟩ : ∃ rb, rb = w.heap.size + 1 := ⟨_, rfl⟩
  obtain ⟨nb, hnb⟩ : ∃ nb, nb = w.heap.size := ⟨_, rfl⟩
  rw [← hcb, ← hrb, ← hnb] at S1
  rw [← hcb, ← hrb, ← hnb]
  have HLT := Lib.hid (show rb < w1.heap.size ∧ w.heap.size + 1 = rb ∧ cb = w1.heap.size by have := HSZ.out; omega)
  clear hcb hrb hnb HSZ
  have HFS := Lib.hid (wths_ok ls ys HO.out.arcs)
  have HY2 : Hid (∀ x ∈ ys, ArcOk (n : Int) x) := Lib.hid (by
    have := HO.out.n2
    have := HN.out
    rw [show (n : Int) = N by omega]; exact HO.out.arcs)
  have X1 := Lib.hid (S1.out.kept ((Upd.refl _ _).drew))
  have C1 : (∀ i, W2.drew.cell? ⟨cb, i, none⟩ = (#[.int .i64 N, .int .i64 S, .int .i64 T, .slice a3 (n + 1) c3, .slice a4 m c4, .slice a5 m c5, .slice a6 m c6, .slice a7 m c7, .slice a8 m c8] : Array Value)[i]?) ∧ (∀ i, W2.drew.cell? ⟨nb, i, none⟩ = (#[.int .i64 N, .int .i64 S, .int .i64 T, .slice a ys.length cap] : Array Value)[i]?) := ⟨X1.out.cc.cell, X1.out.nn.cell⟩
  clear S1
  go_region_held3 (fun w' => (∀ i, w'.cell? ⟨cb, i, none⟩ = (#[.int .i64 N, .int .i64 S, .int .i64 T, .slice a3 (n + 1) c3, .slice a4 m c4, .slice a5 m c5, .slice a6 m c6, .slice a7 m c7, .slice a8 m c8] : Array Value)[i]?) ∧ (∀ i, w'.cell? ⟨nb, i, none⟩ = (#[.int .i64 N, .int .i64 S, .int .i64 T, .slice a ys.length cap] : Array Value)[i]?))
    (first | exact C1 | exact C2 | exact C3)
    ((first
      | (go_at_call 36; refine (res_at N S T n m ys _ _ _ _ _ _ _ _ _ _ _ _ _ ys.length _ (wths ls ys) _ X2.out.cr HM.out HM2.out HY2.out HFS.out HRF.out (wths_len ls ys)).mono ?_; rintro e w4 ⟨a9, c9, rfl, ho9, hk⟩; have X3 := Lib.hid (X2.out.kept hk); have C3 : (∀ i, w4.cell? ⟨cb, i, none⟩ = (#[.int .i64 N, .int .i64 S, .int .i64 T, .slice a3 (n + 1) c3, .slice a4 m c4, .slice a5 m c5, .slice a6 m c6, .slice a7 m c7, .slice a8 m c8] : Array Value)[i]?) ∧ (∀ i, w4.cell? ⟨nb, i, none⟩ = (#[.int .i64 N, .int .i64 S, .int .i64 T, .slice a ys.length cap] : Array Value)[i]?) := ⟨X3.out.cc.cell, X3.out.nn.cell⟩; have HO9 := Lib.hid (ownsRow_base ho9 X2.out.kp.size); clear ho9 hk)
      | (go_at_call 37; refine (Within_ok N S T a cap ys la lc ls _ X1.out.an HO.out.arcs HO.out.len X1.out.al HI.out hll).mono ?_; rintro e w3 ⟨g, rfl, hbg, hg9, hk⟩; have X2 := Lib.hid (X1.out.kept hk); have C2 : (∀ i, w3.cell? ⟨cb, i, none⟩ = (#[.int .i64 N, .int .i64 S, .int .i64 T, .slice a3 (n + 1) c3, .slice a4 m c4, .slice a5 m c5, .slice a6 m c6, .slice a7 m c7, .slice a8 m c8] : Array Value)[i]?) ∧ (∀ i, w3.cell? ⟨nb, i, none⟩ = (#[.int .i64 N, .int .i64 S, .int .i64 T, .slice a ys.length cap] : Array Value)[i]?) := ⟨X2.out.cc.cell, X2.out.nn.cell⟩; have HRF := Lib.hid (Rd.blk hbg); clear hbg hg9 hk)))
  clear C1 C2 C3 X1 X2 HRF
  have cx := X3.out.cc.cell
  have cr := X3.out.rr.cell
  have fr := X3.out.rr.free
  obtain ⟨w9, hw9, hB9, hU9⟩ := X3.out.rr.put9 (.int .i64 N) (.int .i64 S) (.int .i64 T) (.slice a3 (n + 1) c3) (.slice a4 m c4) (.slice a5 m c5) (.slice a6 m c6) (.slice a7 m c7) (.slice a8 m c8)
  have hra : w4.rangeAt cb 0 [.int .i64 N, .int .i64 S, .int .i64 T, .slice a3 (n + 1) c3, .slice a4 m c4, .slice a5 m c5, .slice a6 m c6, .slice a7 m c7, .slice a8 m c8] := by
    intro j v hv
    rw [Nat.zero_add, cx j]
    simpa using hv
  have hth : w4.there rb 0 9 := by
    intro j hj
    rw [Nat.zero_add, cr j]
    exact ⟨by rw [Array.getElem?_eq_getElem (by simpa using hj)]; rfl, fr j⟩
  have hw9' : w4.setCells rb 0 [.int .i64 N, .int .i64 S, .int .i64 T, .slice a3 (n + 1) c3, .slice a4 m c4, .slice a5 m c5, .slice a6 m c6, .slice a7 m c7, .slice a8 m c8] = w9 := hw9.symm
  have hc3 := hB9.cell
  have hz9 : (Try.prog.info? 29).map (·.size) = some 9 := by kernel_rfl
  clear cr fr hw9
  go_upto_region 3 with (fail)
  clear cx
  go_wp2_with (first | (refine wpList_load_mid rfl _ _ rfl cb 0 rfl [.int .i64 N, .int .i64 S, .int .i64 T, .slice a3 (n + 1) c3, .slice a4 m c4, .slice a5 m c5, .slice a6 m c6, .slice a7 m c7, .slice a8 m c8] _ hra Try.underlying29 rfl hz9 ?_) | (refine wpList_store_mid rfl _ _ _ rfl rb 0 #[.int .i64 N, .int .i64 S, .int .i64 T, .slice a3 (n + 1) c3, .slice a4 m c4, .slice a5 m c5, .slice a6 m c6, .slice a7 m c7, .slice a8 m c8] rfl rfl hth hz9 (all_oneCell_toArray (cs := [.int .i64 N, .int .i64 S, .int .i64 T, .slice a3 (n + 1) c3, .slice a4 m c4, .slice a5 m c5, .slice a6 m c6, .slice a7 m c7, .slice a8 m c8]) (by simp [Value.oneCell'])) ?_; simp only [hw9']) | fail)
  refine bodyPost_ret (v := .tuple #[.agg #[.int .i64 N, .int .i64 S, .int .i64 T, .slice a3 (n + 1) c3, .slice a4 m c4, .slice a5 m c5, .slice a6 m c6, .slice a7 m c7, .slice a8 m c8], .slice a9 m c9]) ?_ rfl ?_
  · simp [results, go_sem, hc3]
  · have hl := HLT.out
    have hs0 := HS0.out
    have hl2 := HCL.out
    have hcl2 : CsrL w.heap.size w1.heap.size a3 a4 a5 a6 a7 a8 := ⟨fun x e => ⟨by have := (hl2.l3 x e).1; omega, (hl2.l3 x e).2⟩, fun x e => ⟨by have := (hl2.l4 x e).1; omega, (hl2.l4 x e).2⟩, fun x e => ⟨by have := (hl2.l5 x e).1; omega, (hl2.l5 x e).2⟩, fun x e => ⟨by have := (hl2.l6 x e).1; omega, (hl2.l6 x e).2⟩, fun x e => ⟨by have := (hl2.l7 x e).1; omega, (hl2.l7 x e).2⟩, fun x e => ⟨by have := (hl2.l8 x e).1; omega, (hl2.l8 x e).2⟩⟩
    exact ⟨w1.heap.size, n, m, _, _, _, _, _, _, _, _, _, _, _, _, _, _, rfl, HN.out, HM.out, X3.out.cr.upd HCL.out hU9 (fun k h1 h2 e => by omega), hcl2, (HKK.out.trans X3.out.kp).then hU9 (fun k hk e => by omega), by omega, ownsRow_upd HO9.out hU9 (fun k hk e => by omega)⟩
end Go.Proofs.Yticeionjlknlcaa
