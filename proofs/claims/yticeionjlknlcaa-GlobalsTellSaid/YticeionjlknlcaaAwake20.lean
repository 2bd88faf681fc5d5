/- The chapter's examples. (printed by gen_awake20.py) -/
import Derived.Test.YticeionjlknlcaaCsrRd
import Derived.Laws.CopyRow
import Derived.Laws.Bits64b
import Derived.Deep.RegionHeld3
import Derived.Test.YticeionjlknlcaaBase2
import Derived.Test.YticeionjlknlcaaRd
import Derived.Test.YticeionjlknlcaaProg
import Derived.Deep.CutRange
import Derived.Test.YticeionjlknlcaaGloNext
import Derived.StillTailTactics
import Derived.Test.YticeionjlknlcaaInts06
import Derived.Test.YticeionjlknlcaaLeft
namespace Go.Proofs.Yticeionjlknlcaa
set_option linter.unusedVariables false
set_option linter.unusedSimpArgs false
open Go.RowKit

theorem mask32 (a : Nat) (ha : a < 4294967296) : bits .and .u64 (a : Int) 4294967295 = (a : Int) := by
  have h := bits_and_u64_nat a 4294967295 (by omega) (by omega)
  have e : a &&& 4294967295 = a % 4294967296 := Nat.and_two_pow_sub_one_eq_mod a 32
  rw [e] at h
  rw [show (4294967295 : Int) = ((4294967295 : Nat) : Int) from rfl, h]
  omega
theorem mul64_one (n : Nat) (hn : n ≤ 1000) (w : World) : Calls Try.prog 78 #[.int .u64 1, .int .u64 n] w fun e w' => e = .returned (.tuple #[.int .u64 0, .int .u64 n]) ∧ w' = w := by
  have h1 : bits .and .u64 1 4294967295 = 1 := mask32 1 (by omega)
  have h2 := mask32 n (by omega)
  have h3 : (n : Int) / 4294967296 = 0 := by omega
  have h0 : bits .and .u64 0 4294967295 = 0 := mask32 0 (by omega)
  have hw : IntKind.u64.wrap (n : Int) = (n : Int) := by rw [IntKind.wrap_u64]; omega
  go_enter Try.func78, Try.ntmps78
  go_wp2
  go_ret2
  exact ⟨rfl, rfl⟩
theorem mul_one (n : Nat) (hn : n ≤ 1000) (w : World) : Calls Try.prog 66 #[.int .u64 1, .int .u64 n] w fun e w' => e = .returned (.tuple #[.int .u64 0, .int .u64 n]) ∧ w' = w := by
  go_enter Try.func66, Try.ntmps66
  go_wp2_with fail
  refine (mul64_one n hn _).mono ?_
  rintro e w' ⟨rfl, rfl⟩
  go_wp2_with fail
  go_ret2
  exact ⟨rfl, rfl⟩
theorem run_from' {P : Program} {t e : TypeId} (ht : P.underlying t = some (.slice e)) (hs : (P.info? e).map (fun i => i.size) = some 1) (b len cap m : Nat) (h0 : ¬ m = 0) (hm : m < len) (hc : len ≤ cap) (w : World) :
    (Instr.slice t (.slice (some ⟨b, 0, none⟩) len cap) (some (.int .i64 (m : Int))) none none).run P w = .ok (.slice (some ⟨b, m, none⟩) (len - m) (cap - m)) w := by
  obtain ⟨i, hi, hsz⟩ := Option.map_eq_some_iff.1 hs
  have h : ¬ cap = m := by omega
  have hm2 : m ≤ len := by omega
  simp [Instr.slice, run_underlying ht, Instr.sliceBounds, Instr.sliceBound, asIntOf, sizeOf, typeInfo, hi, Result.andThen, Addr.add, hm2, hsz, h, h0]
theorem copy_fill (w : World) (g n k c sLen sCap : Nat) (v : Int) (a : Addr) (hg : Blk w g (lv (filled (List.replicate n v) 0 k)).toArray 3) (hsrc : ∀ j, j < c → w.cell? (a.add j) = some (.int .i64 v)) (hc : c = Nat.min sLen (n - k)) (hk : k ≤ n) :
    ∃ w2, (∀ ty, (Builtin.copy_ #[26, 26] ty #[.slice (some ⟨g, k, none⟩) (n - k) (n - k), .slice (some a) sLen sCap]).run Try.prog w = .ok (goInt c) w2) ∧ Blk w2 g (lv (filled (List.replicate n v) 0 (k + c))).toArray 3 ∧ Upd (fun i => i = g) w w2 := by
  have hcn : c ≤ n - k := by rw [hc]; exact Nat.min_le_right _ _
  have hl : ((lv (filled (List.replicate n v) 0 k)).toArray).size = n := by simp [lv, filled]; omega
  have e := fun ty => run_copy_row Try.prog w 26 26 ty 3 g k (n - k) (n - k) a sLen sCap (lv (filled (List.replicate n v) 0 k)).toArray 3 (List.replicate c (Value.int .i64 v)) Try.underlying26 (by kernel_rfl) hg (by rw [List.length_replicate]; exact hc)
    (fun j u hu => by
      rw [List.getElem?_replicate] at hu
      split at hu
      · cases hu; exact hsrc j (by assumption)
      · cases hu) (by rw [List.length_replicate, hl]; omega) (fun u hu => by rw [List.eq_of_mem_replicate hu]; rfl)
  rw [List.length_replicate] at e
  refine ⟨_, e, ?_, ?_⟩
  · have h2 := setRow_heap w g _ ((lv (filled (List.replicate n v) 0 k)).take k ++ List.replicate c (Value.int .i64 v) ++ (lv (filled (List.replicate n v) 0 k)).drop (k + c)).toArray 3 (0, 0) hg
    unfold Blk
    rw [show (lv (filled (List.replicate n v) 0 (k + c))).toArray = ((lv (filled (List.replicate n v) 0 k)).take k ++ List.replicate c (Value.int .i64 v) ++ (lv (filled (List.replicate n v) 0 k)).drop (k + c)).toArray from ?_]
    · exact h2
    · congr 1
      have m1 : min k n = k := by omega
      have m2 : min (k + c) n = k + c := by omega
      simp only [lv, filled, List.map_append, List.map_take, List.map_replicate, List.length_replicate, List.take_replicate, List.take_append, List.drop_append, List.drop_replicate, m1, m2, Nat.sub_self, List.take_zero, List.append_nil, Nat.min_self]
      have d1 : k - (k + c) = 0 := by omega
      have d2 : k + c - k = c := by omega
      have d3 : n - k - c = n - (k + c) := by omega
      simp only [d1, d2, d3, List.replicate_zero, List.nil_append, ← List.replicate_append_replicate, List.append_assoc]
      simp
  · exact ⟨rfl, rfl, rfl, by simp, fun i hi hn => setRow_other w g i _ hn⟩
set_option maxHeartbeats 2000000 in
theorem Repeat_any (xb : Nat) (v : Int) (n : Nat) (w : World) (hx : Blk w xb #[.int .i64 v] 3) (h1 : 1 ≤ n) (hn : n ≤ 1000) :
    Calls Try.prog 51 #[.slice (some ⟨xb, 0, none⟩) 1 1, .int .i64 n] w fun e w' => ∃ g, e = .returned (.slice (some ⟨g, 0, none⟩) n n) ∧ Blk w' g (lv (List.replicate n v)).toArray 3 ∧ w.heap.size ≤ g ∧ Kept w w' := by
  have hmk := fun w => make_one (P := Try.prog) (t := 26) (e := 3) (z := .int .i64 0) (v := .int .i64 0) (bytes := 8) Try.underlying26 (by kernel_rfl) rfl .i64 n (by omega) (by omega) w
  have hw : IntKind.u64.wrap (n : Int) = (n : Int) := by rw [IntKind.wrap_u64]; omega
  have hw2 : IntKind.i64.wrap (n : Int) = (n : Int) := by rw [IntKind.wrap_i64]; omega
  have j0 : ¬ (n : Int) < 0 := by omega
  have j1 : ¬ (9223372036854775807 : Int) < (n : Int) := by omega
  have HK := Lib.hid ((Upd.refl (fun _ => False) w).alloc (.cells (zeros n (.int .i64 0)) 3))
  have HB := Lib.hid (Blk.new w (zeros n (.int .i64 0)) 3)
  have HX := Lib.hid (hx.alloc (.cells (zeros n (.int .i64 0)) 3))
  have HXL := Lib.hid hx.lt
  clear hx
  go_enter Try.func51, Try.ntmps51
  go_wp2_with fail
  refine (mul_one n hn _).mono ?_
  rintro e w' ⟨rfl, rfl⟩
  go_upto_region 7 with (fail)
  generalize (w'.alloc (.cells (zeros n (.int .i64 0)) 3)) = W0 at HK HB HX ⊢
  have HGX : Hid (¬ xb = w'.heap.size) := Lib.hid (by have := HXL.out; omega)
  have HGL : Hid (w'.heap.size ≤ w'.heap.size) := Lib.hid (Nat.le_refl _)
  obtain ⟨g, hg⟩ : ∃ g, g = w'.heap.size := ⟨_, rfl⟩
  rw [← hg] at HB HGX ⊢
  have HGL : Hid (w'.heap.size ≤ g) := Lib.hid (by omega)
  clear hg
  have HB0 : Hid (Blk W0 g (lv (filled (List.replicate n v) 0 0)).toArray 3) := Lib.hid (by
    have := HB.out
    rw [zeros_ints] at this
    simpa [filled, lv] using this)
  obtain ⟨W1, hcp, HB1, HU1⟩ := copy_fill W0 g n 0 1 1 1 v ⟨xb, 0, none⟩ HB0.out (fun j hj => by
    obtain rfl : j = 0 := by omega
    exact HX.out.cell 0) (by rw [Nat.sub_zero]; exact (Nat.min_eq_left h1).symm) (by omega)
  have HB1 := Lib.hid HB1
  have HK1 : Hid (Kept w' W1) := Lib.hid (HK.out.then HU1 (fun i hi e => by have := HGL.out; omega))
  have hcp : ∀ ty, (Builtin.copy_ #[26, 26] ty #[.slice (some ⟨g, 0, none⟩) n n, .slice (some ⟨xb, 0, none⟩) 1 1]).run Try.prog W0 = .ok (goInt 1) W1 := hcp
  clear HU1 HB HB0 HX HK HXL HGX
  go_wp2_with fail
  clear hcp
  go_loopw [8] (fun ix wr => ∃ (k : Nat), ix = .int .i64 k ∧ 1 ≤ k ∧ k ≤ n ∧ Hid (Kept w' wr) ∧ Hid (Blk wr g (lv (filled (List.replicate n v) 0 k)).toArray 3)) (fun ix _ => n - (intOf ix).toNat)
  case atStart => exact ⟨1, rfl, by omega, h1, HK1, HB1⟩
  case round =>
    clear HK1 HB1
    obtain ⟨k, rfl, hk1, hk, HK1, HB1⟩ := hrel
    by_cases hlt : k < n
    · obtain ⟨c, hc⟩ : ∃ c, c = Nat.min k (n - k) := ⟨_, rfl⟩
      have hc1 : c ≤ k ∧ c ≤ n - k ∧ 1 ≤ c := by rw [hc]; simp only [Nat.min_def]; split <;> omega
      obtain ⟨W2, hcp, HB2, HU2⟩ := copy_fill wr.drew g n k c k n v ⟨g, 0, none⟩ HB1.out.drew (fun j hj => by
        have := HB1.out.drew.cell j
        unfold Addr.add
        simp only [Nat.zero_add]
        rw [show (if j = 0 then (⟨g, 0, none⟩ : Addr) else ⟨g, j, none⟩) = ⟨g, j, none⟩ by split <;> simp_all]
        rw [this]
        simp [lv, filled, List.getElem?_append, show j < min k n by omega]) hc (by omega)
      have HB2 := Lib.hid HB2
      have HK2 : Hid (Kept w' W2) := Lib.hid (HK1.out.drew.then HU2 (fun i hi e => by have := HGL.out; omega))
      have ha := fun w => run_from' (P := Try.prog) Try.underlying26 (by kernel_rfl) g n n k (by omega) hlt (by omega) w
      have hb := fun w => run_take (P := Try.prog) Try.underlying26 (size := 1) (by kernel_rfl) (some ⟨g, 0, none⟩) n n k (by omega) w
      have hq : IntKind.i64.wrap ((k : Int) + (c : Int)) = ((k + c : Nat) : Int) := by rw [IntKind.wrap_i64]; omega
      have hq' : wrap64 ((k : Int) + (c : Int)) = ((k + c : Nat) : Int) := by unfold wrap64; omega
      obtain ⟨hc1, hc2, hc3⟩ := hc1
      clear HU2 hc
      go_upto_region 9 with (fail)
      go_region_held3 (fun w' => True) (trivial) (fail)
      go_wp2_with fail
      go_roundw
      case rel => exact ⟨k + c, by go_num, by omega, by omega, HK2, HB2⟩
      case measure => simp [intOf]; omega
    · obtain rfl : k = n := by omega
      go_wp2_with fail
      go_ret
      refine ⟨g, rfl, ?_, HGL.out, HK1.out⟩
      have := HB1.out
      rwa [show filled (List.replicate k v) 0 k = List.replicate k v by simp [filled]] at this
end Go.Proofs.Yticeionjlknlcaa
namespace Go.Proofs.Yticeionjlknlcaa
set_option linter.unusedVariables false
set_option linter.unusedSimpArgs false
open Go.RowKit

def cmpI (x y : Int) : Int := if x < y then -1 else if y < x then 1 else 0
theorem cmp64_any (x y : Int) (w : World) : Calls Try.prog 54 #[.int .i64 x, .int .i64 y] w fun e w' => e = .returned (.int .i64 (cmpI x y)) ∧ w = w' := by
  unfold cmpI
  by_cases h1 : x < y
  · rw [if_pos h1]
    go_enter Try.func54, Try.ntmps54
    go_wp2
    go_ret
    exact ⟨rfl, rfl⟩
  · rw [if_neg h1]
    by_cases h2 : y < x
    · rw [if_pos h2]
      go_enter Try.func54, Try.ntmps54
      go_wp2
      go_ret
      exact ⟨rfl, rfl⟩
    · rw [if_neg h2]
      go_enter Try.func54, Try.ntmps54
      go_wp2
      go_ret
      exact ⟨rfl, rfl⟩
theorem cmpint_any (x y : Int) (w : World) : Calls Try.prog 55 #[.int .i64 x, .int .i64 y] w fun e w' => e = .returned (.int .i64 (cmpI x y)) ∧ w = w' := by
  unfold cmpI
  by_cases h1 : x < y
  · rw [if_pos h1]
    go_enter Try.func55, Try.ntmps55
    go_wp2
    go_ret
    exact ⟨rfl, rfl⟩
  · rw [if_neg h1]
    by_cases h2 : y < x
    · rw [if_pos h2]
      go_enter Try.func55, Try.ntmps55
      go_wp2
      go_ret
      exact ⟨rfl, rfl⟩
    · rw [if_neg h2]
      go_enter Try.func55, Try.ntmps55
      go_wp2
      go_ret
      exact ⟨rfl, rfl⟩
theorem or2_any (a b : Int) (g : Nat) (w : World) (hg : Blk w g #[.int .i64 a, .int .i64 b] 3) : Calls Try.prog 53 #[.slice (some ⟨g, 0, none⟩) 2 2] w fun e w' => e = .returned (.int .i64 (if a = 0 then b else a)) ∧ w = w' := by
  have hc := hg.cell
  have HG := Lib.hid hg
  clear hg
  go_enter Try.func53, Try.ntmps53
  go_wp2_with fail
  go_loopw [8] (fun i wr => ∃ k : Nat, i = .int .i64 k ∧ k ≤ 2 ∧ Hid (1 ≤ k → a = 0) ∧ Hid (2 ≤ k → b = 0) ∧ Hid (w = wr)) (fun i _ => 2 - (intOf i).toNat)
  case atStart => exact ⟨0, rfl, by omega, Lib.hid (fun h => by omega), Lib.hid (fun h => by omega), Lib.hid rfl⟩
  case round =>
    obtain ⟨k, rfl, hk, HA, HB, HW⟩ := hrel
    have hw := HW.out
    subst hw
    obtain rfl | rfl | rfl : k = 0 ∨ k = 1 ∨ k = 2 := by omega
    · by_cases h0 : a = 0
      · have hb0 : (a != 0) = false := by simp [h0]
        have HA0 := Lib.hid h0
        clear h0
        go_wp2_with fail
        go_roundw
        case rel => exact ⟨1, by go_num, by omega, Lib.hid (fun _ => HA0.out), Lib.hid (fun h => by omega), by first | exact Lib.hid rfl | exact Lib.hid trivial⟩
        case measure => simp [intOf]
      · have hb0 : (a != 0) = true := by simp [h0]
        have HA0 := Lib.hid h0
        clear h0
        go_wp2_with fail
        go_ret
        exact ⟨rfl, rfl⟩
    · have ha0 : a = 0 := HA.out (by omega)
      subst ha0
      by_cases h0 : b = 0
      · have hb0 : (b != 0) = false := by simp [h0]
        have HA0 := Lib.hid h0
        clear h0
        go_wp2_with fail
        go_roundw
        case rel => exact ⟨2, by go_num, by omega, (by first | exact Lib.hid (fun _ => rfl) | exact Lib.hid (fun _ => trivial)), Lib.hid (fun _ => HA0.out), by first | exact Lib.hid rfl | exact Lib.hid trivial⟩
        case measure => simp [intOf]
      · have hb0 : (b != 0) = true := by simp [h0]
        have HA0 := Lib.hid h0
        clear h0
        go_wp2_with fail
        go_ret
        exact ⟨rfl, rfl⟩
    · have ha0 : a = 0 := HA.out (by omega)
      have hb0 : b = 0 := HB.out (by omega)
      subst ha0 hb0
      go_wp2_with fail
      go_ret
      exact ⟨rfl, rfl⟩
/-- Has it risen? -/
def riB (g1 s1 g2 s2 : Int) : Bool := decide (g1 < g2 ∨ (g1 = g2 ∧ s1 < s2))
theorem ri_cmp (g1 s1 g2 s2 : Int) : decide ((if cmpI g1 g2 = 0 then cmpI s1 s2 else cmpI g1 g2) < 0) = riB g1 s1 g2 s2 := by
  unfold riB cmpI
  by_cases a : g1 < g2
  · simp [a]
  · by_cases b : g2 < g1
    · have : ¬ g1 = g2 := by omega
      simp [a, b, this]
    · have e : g1 = g2 := by omega
      subst e
      by_cases c : s1 < s2
      · simp [c]
      · by_cases d : s2 < s1 <;> simp [c, d]
theorem risen_any (g1 s1 g2 s2 : Int) (w : World) : Calls Try.prog 27 #[.agg #[.int .i64 g1, .int .i64 s1], .agg #[.int .i64 g2, .int .i64 s2]] w fun e w' => e = .returned (.bool (riB g1 s1 g2 s2)) ∧ Kept w w' := by
  have HK := Lib.hid (((Upd.refl (fun _ => False) w).alloc (.cells #[.int .i64 g1, .int .i64 s1] 48)).alloc (.cells #[.int .i64 g2, .int .i64 s2] 48))
  have HA := Lib.hid ((Blk.new w #[.int .i64 g1, .int .i64 s1] 48).alloc (.cells #[.int .i64 g2, .int .i64 s2] 48))
  have HB := Lib.hid (Blk.new (w.alloc (.cells #[.int .i64 g1, .int .i64 s1] 48)) #[.int .i64 g2, .int .i64 s2] 48)
  obtain ⟨c1, hc1⟩ : ∃ c, cmpI g1 g2 = c := ⟨_, rfl⟩
  obtain ⟨c2, hc2⟩ : ∃ c, cmpI s1 s2 = c := ⟨_, rfl⟩
  have H1 := fun w => Lib.hid (hc1 ▸ cmp64_any g1 g2 w)
  have H2 := fun w => Lib.hid (hc2 ▸ cmpint_any s1 s2 w)
  have HRI : Hid (decide ((if c1 = 0 then c2 else c1) < 0) = riB g1 s1 g2 s2) := Lib.hid (by rw [← hc1, ← hc2]; exact ri_cmp _ _ _ _)
  clear hc1 hc2
  go_enter Try.func27, Try.ntmps27
  go_upto_region 1 with (fail)
  rw [show (w.alloc (.cells #[.int .i64 g1, .int .i64 s1] 48)).heap.size = w.heap.size + 1 by simp] at HB
  generalize ((w.alloc (.cells #[.int .i64 g1, .int .i64 s1] 48)).alloc (.cells #[.int .i64 g2, .int .i64 s2] 48)) = W at HA HB HK ⊢
  generalize w.heap.size + 1 = b3 at HB ⊢
  generalize w.heap.size = b2 at HA ⊢
  have C0 : (∀ i, W.drew.cell? ⟨b2, i, none⟩ = (#[.int .i64 g1, .int .i64 s1] : Array Value)[i]?) ∧ (∀ i, W.drew.cell? ⟨b3, i, none⟩ = (#[.int .i64 g2, .int .i64 s2] : Array Value)[i]?) := ⟨HA.out.drew.cell, HB.out.drew.cell⟩
  have C1 : (∀ i, (W.drew.alloc (.cells #[.int .i64 c1, .int .i64 c2] 3)).cell? ⟨b2, i, none⟩ = (#[.int .i64 g1, .int .i64 s1] : Array Value)[i]?) ∧ (∀ i, (W.drew.alloc (.cells #[.int .i64 c1, .int .i64 c2] 3)).cell? ⟨b3, i, none⟩ = (#[.int .i64 g2, .int .i64 s2] : Array Value)[i]?) := ⟨(HA.out.drew.alloc _).cell, (HB.out.drew.alloc _).cell⟩
  have HKZ := Lib.hid (HK.out.trans ((Upd.refl (fun _ => False) W).drew.alloc (.cells #[.int .i64 c1, .int .i64 c2] 3)))
  obtain ⟨r, hr⟩ : ∃ r, (if c1 = 0 then c2 else c1) = r := ⟨_, rfl⟩
  rw [hr] at HRI
  have HO := Lib.hid (hr ▸ or2_any c1 c2 _ _ (Blk.new W.drew #[.int .i64 c1, .int .i64 c2] 3))
  clear hr
  go_region_held3 (fun w' => (∀ i, w'.cell? ⟨b2, i, none⟩ = (#[.int .i64 g1, .int .i64 s1] : Array Value)[i]?) ∧ (∀ i, w'.cell? ⟨b3, i, none⟩ = (#[.int .i64 g2, .int .i64 s2] : Array Value)[i]?))
    (first | exact C0 | exact C1)
    ((first
      | (go_at_call 53; refine HO.out.mono ?_; rintro e w' ⟨rfl, rfl⟩)
      | (go_at_call 55; refine (H2 _).out.mono ?_; rintro e w' ⟨rfl, rfl⟩)
      | (go_at_call 54; refine (H1 _).out.mono ?_; rintro e w' ⟨rfl, rfl⟩)))
  go_wp2_with fail
  go_ret
  exact ⟨congrArg (fun z : Bool => Ending.returned (Value.bool z)) HRI.out, HKZ.out⟩
end Go.Proofs.Yticeionjlknlcaa
namespace Go.Proofs.Yticeionjlknlcaa
set_option linter.unusedVariables false
set_option linter.unusedSimpArgs false
open Go.RowKit

/-- Exact heights are handed back, in a row of their own. -/
def ExactEnd (w : World) (N S T : Int) (n m : Nat) (ys : List Ar) (rs : List Int) (e : Ending) (w' : World) : Prop :=
  ∃ g X, e = .returned (.slice (some ⟨g, 0, none⟩) n n) ∧ IsLow S n m ys rs (allN n N T) X ∧ Blk w' g (lv X).toArray 3 ∧ w.heap.size ≤ g ∧ Kept w w'
set_option maxRecDepth 100000 in
set_option maxHeartbeats 8000000 in
theorem exact_ok (N S T : Int) (n m : Nat) (a3 a4 a5 a6 a7 a8 : Option Addr) (c3 c4 c5 c6 c7 c8 : Nat) (ys : List Ar) (ra : Option Addr) (rc : Nat) (rs : List Int) (wk : Nat) (w : World) (hg : Gr N S T n m ys) (hrm : rs.length = m) (hcr : CsrR w n ys a3 a4 a5 a6 a7 a8) (hr : Rd w ra (lv rs)) (hw1 : 1 ≤ wk) (hw2 : wk ≤ 64) :
    Calls Try.prog 25 #[.agg #[.int .i64 N, .int .i64 S, .int .i64 T, .slice a3 (n + 1) c3, .slice a4 m c4, .slice a5 m c5, .slice a6 m c6, .slice a7 m c7, .slice a8 m c8], .slice ra m rc, .int .i64 (wk : Int)] w (ExactEnd w N S T n m ys rs) := by
  have HG := Lib.hid hg
  have HRM := Lib.hid hrm
  have hlen := hg.len
  have hN0 : (N == 0) = false := by simp; omega
  have hmm : ((m : Int) != (m : Int)) = false := by simp
  have hk1 : decide ((wk : Int) < 1) = false := decide_eq_false (by omega)
  have hk2 : decide ((64 : Int) < (wk : Int)) = false := decide_eq_false (by omega)
  have HLN := fun w' => Lib.hid (len_any N S T n m a3 a4 a5 a6 a7 a8 c3 c4 c5 c6 c7 c8 w')
  have hA := (Upd.refl (fun _ => False) w).alloc (.cells #[.int .i64 N, .int .i64 S, .int .i64 T, .slice a3 (n + 1) c3, .slice a4 m c4, .slice a5 m c5, .slice a6 m c6, .slice a7 m c7, .slice a8 m c8] 29)
  have HK1 : Hid (Kept w (w.alloc (.cells #[.int .i64 N, .int .i64 S, .int .i64 T, .slice a3 (n + 1) c3, .slice a4 m c4, .slice a5 m c5, .slice a6 m c6, .slice a7 m c7, .slice a8 m c8] 29))) := Lib.hid hA
  have HCR := Lib.hid (hcr.kept hA)
  have HCR0 := Lib.hid hcr
  have HRS0 := Lib.hid hr
  have HRS := Lib.hid (hr.kept hA)
  have HCB : Hid (Blk (w.alloc (.cells #[.int .i64 N, .int .i64 S, .int .i64 T, .slice a3 (n + 1) c3, .slice a4 m c4, .slice a5 m c5, .slice a6 m c6, .slice a7 m c7, .slice a8 m c8] 29)) w.heap.size #[.int .i64 N, .int .i64 S, .int .i64 T, .slice a3 (n + 1) c3, .slice a4 m c4, .slice a5 m c5, .slice a6 m c6, .slice a7 m c7, .slice a8 m c8] 29) := Lib.hid (Blk.new _ _ _)
  have HREP : ∀ xb w', Blk w' xb #[.int .i64 N] 3 → Hid (Calls Try.prog 51 #[.slice (some ⟨xb, 0, none⟩) 1 1, .int .i64 N] w' fun e w'' => ∃ g, e = .returned (.slice (some ⟨g, 0, none⟩) n n) ∧ Blk w'' g (lv (List.replicate n N)).toArray 3 ∧ w'.heap.size ≤ g ∧ Kept w' w'') := fun xb w' h => Lib.hid (by
    have h1 := Repeat_any xb N n w' h (by omega) (by omega)
    rwa [hlen.1] at h1)
  have hn16 : 2 ≤ n ∧ n ≤ 16 := by omega
  have hT0 : 0 ≤ T := by omega
  have hT1 : T < (n : Int) := by omega
  clear hg hrm hcr hr hA hlen
  go_enter Try.func25, Try.ntmps25
  go_wp2_with fail
  change Calls _ _ _ (w.alloc (.cells #[.int .i64 N, .int .i64 S, .int .i64 T, .slice a3 (n + 1) c3, .slice a4 m c4, .slice a5 m c5, .slice a6 m c6, .slice a7 m c7, .slice a8 m c8] 29)) _
  refine (HLN _).out.mono ?_
  rintro e w1 ⟨rfl, hk⟩
  have HK2 := Lib.hid (HK1.out.trans hk)
  have HCR2 := Lib.hid (HCR.out.kept hk)
  have HRS2 := Lib.hid (HRS.out.kept hk)
  have HCB2 := Lib.hid (HCB.out.kept hk)
  clear hk HK1 HCR HRS HCB HLN
  have bx := HCB2.out.cell
  generalize w.heap.size = cb at HCB2 bx ⊢
  go_upto_region 3 with (fail)
  clear bx hmm hN0 hk1 hk2
  have C0 : (∀ i, w1.drew.cell? ⟨cb, i, none⟩ = (#[.int .i64 N, .int .i64 S, .int .i64 T, .slice a3 (n + 1) c3, .slice a4 m c4, .slice a5 m c5, .slice a6 m c6, .slice a7 m c7, .slice a8 m c8] : Array Value)[i]?) := HCB2.out.drew.cell
  have C1 : (∀ i, (w1.drew.alloc (.cells #[.int .i64 N] 3)).cell? ⟨cb, i, none⟩ = (#[.int .i64 N, .int .i64 S, .int .i64 T, .slice a3 (n + 1) c3, .slice a4 m c4, .slice a5 m c5, .slice a6 m c6, .slice a7 m c7, .slice a8 m c8] : Array Value)[i]?) := (HCB2.out.drew.alloc _).cell
  have HX := HREP w1.drew.heap.size (w1.drew.alloc (.cells #[.int .i64 N] 3)) (Blk.new _ _ _)
  have hal := (Upd.refl (fun _ => False) w1).drew.alloc (.cells #[.int .i64 N] 3)
  go_region_held3 (fun w' => (∀ i, w'.cell? ⟨cb, i, none⟩ = (#[.int .i64 N, .int .i64 S, .int .i64 T, .slice a3 (n + 1) c3, .slice a4 m c4, .slice a5 m c5, .slice a6 m c6, .slice a7 m c7, .slice a8 m c8] : Array Value)[i]?))
    (first | exact C0 | exact C1 | exact C2 | exact C3 _ _)
    ((go_at_call 51; refine HX.out.mono ?_; rintro e w2 ⟨hb, rfl, hhb, hlo, hk⟩; have HK3 := Lib.hid ((HK2.out.trans hal).trans hk); have HCR3 := Lib.hid ((HCR2.out.kept hal).kept hk); have HRS3 := Lib.hid ((HRS2.out.kept hal).kept hk); have HCB3 := Lib.hid ((HCB2.out.kept hal).kept hk); have HHB3 := Lib.hid hhb; have HLO := Lib.hid hlo; have C2 : (∀ i, w2.cell? ⟨cb, i, none⟩ = (#[.int .i64 N, .int .i64 S, .int .i64 T, .slice a3 (n + 1) c3, .slice a4 m c4, .slice a5 m c5, .slice a6 m c6, .slice a7 m c7, .slice a8 m c8] : Array Value)[i]?) := HCB3.out.cell; have C3 : ∀ arr TY, (∀ i, (w2.alloc (.cells arr TY)).cell? ⟨cb, i, none⟩ = (#[.int .i64 N, .int .i64 S, .int .i64 T, .slice a3 (n + 1) c3, .slice a4 m c4, .slice a5 m c5, .slice a6 m c6, .slice a7 m c7, .slice a8 m c8] : Array Value)[i]?) := fun arr TY => (HCB3.out.alloc _).cell; clear hhb hlo hk))
  rename_i hHeld
  clear hHeld C0 C1 C2 C3 HX HREP HCR2 HRS2 HCB2 HCR3 HRS3
  have HLB : Hid (w.heap.size ≤ hb) := Lib.hid (by have h1 := HLO.out; have h2 := HK2.out.size; have h3 := hal.size; omega)
  clear hal HLO
  have HS : Hid (SR N S T n m a3 a4 a5 a6 a7 a8 c3 c4 c5 c6 c7 c8 w ys ra rc rs w2.heap.size hb (List.replicate n N) (w2.alloc (.cells #[.int .i64 N, .int .i64 S, .int .i64 T, .slice a3 (n + 1) c3, .slice a4 m c4, .slice a5 m c5, .slice a6 m c6, .slice a7 m c7, .slice a8 m c8, .slice ra m rc, .slice (some ⟨hb, 0, none⟩) n n] 87))) := Lib.hid ⟨HK3.out.alloc _, Blk.new _ _ _, HCR0.out, HRS0.out, HHB3.out.alloc _, HLB.out⟩
  have HCB4 := Lib.hid (HCB3.out.alloc (.cells #[.int .i64 N, .int .i64 S, .int .i64 T, .slice a3 (n + 1) c3, .slice a4 m c4, .slice a5 m c5, .slice a6 m c6, .slice a7 m c7, .slice a8 m c8, .slice ra m rc, .slice (some ⟨hb, 0, none⟩) n n] 87))
  clear HHB3 HK3 HCB3 HCR0 HRS0 HK2
  go_upto_region 4 with (fail)
  generalize (w2.alloc (.cells #[.int .i64 N, .int .i64 S, .int .i64 T, .slice a3 (n + 1) c3, .slice a4 m c4, .slice a5 m c5, .slice a6 m c6, .slice a7 m c7, .slice a8 m c8, .slice ra m rc, .slice (some ⟨hb, 0, none⟩) n n] 87)) = W3 at HS HCB4 ⊢
  generalize w2.heap.size = sb at HS ⊢
  have HSd := Lib.hid (HS.out.kept (Upd.refl _ _).drew)
  have HCBd := Lib.hid HCB4.out.drew
  have hTn : T.toNat < n := by omega
  have bx := HCB4.out.cell
  have bs := HS.out.box.cell
  go_still_tail 7, (by kernel_rfl)
  change wpList _ _ _ _ _ W3.drew
  clear HS HCB4 bx bs
  generalize W3.drew = W4 at HSd HCBd ⊢
  have bx := HCBd.out.cell
  have bs := HSd.out.box.cell
  have hc : W4.cell? ⟨hb, T.toNat, none⟩ = some (.int .i64 N) := by
    rw [HSd.out.h.cell]
    simp only [List.getElem?_toArray]
    rw [lv_get (by simpa using hTn)]
    simp [hTn]
  have hf := HSd.out.h.free T.toNat
  have HS5 : Hid (SR N S T n m a3 a4 a5 a6 a7 a8 c3 c4 c5 c6 c7 c8 w ys ra rc rs sb hb (allN n N T) (W4.setCell ⟨hb, T.toNat, none⟩ (.int .i64 0))) := Lib.hid (HSd.out.put T.toNat 0)
  have HCB5 : Hid (Blk (W4.setCell ⟨hb, T.toNat, none⟩ (.int .i64 0)) cb #[.int .i64 N, .int .i64 S, .int .i64 T, .slice a3 (n + 1) c3, .slice a4 m c4, .slice a5 m c5, .slice a6 m c6, .slice a7 m c7, .slice a8 m c8] 29) := Lib.hid (HCBd.out.other (fun e => by
    have e : cb = hb := e
    subst e
    have := (HCBd.out.same HSd.out.h).2
    revert this
    decide) _)
  clear HSd HCBd
  go_upto_region 5 with (fail)
  generalize (W4.setCell ⟨hb, T.toNat, none⟩ (.int .i64 0)) = W5 at HS5 HCB5 ⊢
  clear bx bs hc hf
  have bx := HCB5.out.cell
  have eT : T = ((T.toNat : Nat) : Int) := by omega
  have HS6 := Lib.hid (HS5.out.kept ((Upd.refl _ _).alloc (.cells #[.int .i64 T] 3)))
  have HR6 : Hid (Rd (W5.alloc (.cells #[.int .i64 T] 3)) (some ⟨W5.heap.size, 0, none⟩) (nv [T.toNat])) := Lib.hid (by
    have h1 := Rd.blk (Blk.new W5 (nv [T.toNat]).toArray 3)
    rwa [show (nv [T.toNat]).toArray = #[.int .i64 T] by simp [nv, ← eT]] at h1)
  have HL6 : Hid (Lvl N S T n m ys rs 1 (allN n N T) [T.toNat]) := Lib.hid (Lvl.start HG.out)
  clear HS5 HCB5 eT hTn
  go_upto_region 7 with (fail)
  go_loopw [8, 9] (fun y z wr => ∃ (d k c : Nat) (a : Option Addr) (row : List Nat) (h : List Int), y = .slice a k c ∧ z = .int .i64 d ∧ Hid (row.length = k) ∧ Hid (Lvl N S T n m ys rs d h row) ∧ Hid (SR N S T n m a3 a4 a5 a6 a7 a8 c3 c4 c5 c6 c7 c8 w ys ra rc rs sb hb h wr) ∧ Hid (Rd wr a (nv row)) ∧ Hid (k ≤ c)) (fun _ z _ => n + 1 - (intOf z).toNat)
  case atStart => exact ⟨1, 1, 1, _, [T.toNat], allN n N T, rfl, rfl, Lib.hid rfl, HL6, HS6, HR6, Lib.hid (Nat.le_refl _)⟩
  case round =>
    clear HS6 HR6 HL6 bx
    obtain ⟨d, k, c, a, row, h, rfl, rfl, HRL, HL, HS, HR, HKC⟩ := hrel
    by_cases hk : k = 0
    · subst hk
      have HIL : Hid (IsLow S n m ys rs (allN n N T) h) := Lib.hid (by
        have e : row = [] := List.eq_nil_of_length_eq_zero HRL.out
        have := HL.out
        rw [e] at this
        exact this.done HG.out)
      have bs := HS.out.box.cell
      go_wp2_with fail
      go_ret
      exact ⟨hb, h, rfl, HIL.out, HS.out.h, HS.out.lo, HS.out.kp⟩
    · have hne : row ≠ [] := fun e => hk (by rw [← HRL.out, e]; rfl)
      have hdn := HL.out.small HG.out hne
      have hk16 : k ≤ 16 := by have := HL.out.room; have := HRL.out; omega
      have hd1 := HL.out.one
      have HNX := Lib.hid (next_any N S T n m a3 a4 a5 a6 a7 a8 c3 c4 c5 c6 c7 c8 w ys ra rc rs sb hb h row a k c wk d wr HG.out HRM.out HL.out.len HS.out HR.out HRL (by omega) hk16 HKC.out (fun v hv => ((HL.out.rowm v).1 hv).1) hw1 hw2 (by omega) (Upd.refl _ _))
      have HNE := Lib.hid hne
      have hk0 : (0 : Int) < (k : Int) := by omega
      clear hne
      go_wp2_with fail
      refine HNX.out.mono ?_
      rintro e W' ⟨a', k', c', F', h', rfl, hkc, hFl, hFm, hFn, hl', hv', hS', hR', hU'⟩
      have HL2 : Hid (Lvl N S T n m ys rs (d + 1) h' F') := Lib.hid (HL.out.step HG.out HNE.out hFm hFn hl' hv')
      have HFL := Lib.hid hFl
      have HS2 := Lib.hid hS'
      have HR2 := Lib.hid hR'
      have HKC2 := Lib.hid hkc
      clear hkc hFl hFm hFn hl' hv' hS' hR' hU' HL HS HR HNX HRL
      go_wp2_with fail
      go_roundw
      case rel => exact ⟨d + 1, k', c', a', F', h', rfl, by go_num, HFL, HL2, HS2, HR2, HKC2⟩
      case measure => simp [intOf]; omega
end Go.Proofs.Yticeionjlknlcaa
namespace Go.Proofs.Yticeionjlknlcaa
set_option linter.unusedVariables false
set_option linter.unusedSimpArgs false
open Go.RowKit

def exG : List Ar := [⟨0, 1, 1⟩, ⟨1, 2, 1⟩, ⟨2, 3, 1⟩, ⟨1, 3, 0⟩]
theorem exGOk : NetOk 4 0 3 exG := ⟨by omega, by omega, by omega, by omega, by omega, by decide, by simp [exG, ArcOk]⟩
theorem exGGr : Gr 4 0 3 4 8 exG := ⟨exGOk, by decide, by decide +kernel⟩
theorem exGLow : IsLow 0 4 8 exG [1, 0, 1, 0, 0, 1, 0, 0] (allN 4 4 3) [4, 2, 1, 0] := by
  refine ⟨rfl, ?_, ?_, fun gs hv hl v hv5 => ?_⟩
  · unfold Vld; decide +kernel
  · unfold LeV; decide +kernel
  · have g1 := hv 2 (by omega) (by decide +kernel) (by decide)
    have g2 := hv 5 (by omega) (by decide +kernel) (by decide)
    rw [show tl exG 4 2 = 1 by decide +kernel, show hd 4 exG 2 = 2 by decide +kernel] at g1
    rw [show tl exG 4 5 = 2 by decide +kernel, show hd 4 exG 5 = 3 by decide +kernel] at g2
    have l0 := hl 0 (by omega)
    have l3 := hl 3 (by omega)
    have hc : v = 0 ∨ v = 1 ∨ v = 2 ∨ v = 3 := by omega
    rw [show (allN 4 4 3).getD 0 0 = 4 from rfl] at l0
    rw [show (allN 4 4 3).getD 3 0 = 0 from rfl] at l3
    rcases hc with rfl | rfl | rfl | rfl
    · show gs.getD 0 0 ≤ 4; omega
    · show gs.getD 1 0 ≤ 2; omega
    · show gs.getD 2 0 ≤ 1; omega
    · show gs.getD 3 0 ≤ 0; omega
theorem arsNewG (W : World) (ys : List Ar) : Ars (W.alloc (.cells (acells ys).toArray 67)) (some ⟨W.heap.size, 0, none⟩) ys :=
  .inr ⟨W.heap.size, 0, rfl, fun i u hu => by rw [Nat.zero_add, (Blk.new W _ _).cell]; simpa using hu⟩
theorem rdNewG (W : World) (l : List Int) (T : TypeId) : Rd (W.alloc (.cells (lv l).toArray T)) (some ⟨W.heap.size, 0, none⟩) (lv l) := Rd.blk (Blk.new _ _ _)
def LeftExG (w : World) (e : Ending) (w' : World) : Prop := ∃ a3 c3 a4 c4 a5 c5 a6 c6 a7 c7 a8 c8 a9 c9, e = .returned (.tuple #[.agg #[.int .i64 4, .int .i64 0, .int .i64 3, .slice a3 5 c3, .slice a4 8 c4, .slice a5 8 c5, .slice a6 8 c6, .slice a7 8 c7, .slice a8 8 c8], .slice a9 8 c9]) ∧ CsrR w' 4 exG a3 a4 a5 a6 a7 a8 ∧ Rd w' a9 (lv [1, 0, 1, 0, 0, 1, 0, 0]) ∧ Kept w w'
theorem left_exG (g : Nat) (w : World) (h : Ars w (some ⟨g, 0, none⟩) exG) : Calls Try.prog 12 #[.agg #[.int .i64 4, .int .i64 0, .int .i64 3, .slice (some ⟨g, 0, none⟩) 4 4], .slice none 0 0] w (LeftExG w) := by
  refine (Left_ok 4 0 3 (some ⟨g, 0, none⟩) 4 exG none 0 [] w h exGOk (.inl rfl) (by simp) (by simp)).mono ?_
  rintro e w' ⟨B, n, m, a3, c3, a4, c4, a5, c5, a6, c6, a7, c7, a8, c8, a9, c9, rfl, hn, hm, hcr, -, hk, -, ho⟩
  have hn3 : n = 4 := by rw [← hn]; rfl
  subst hn3
  have hm4 : m = 8 := by rw [← hm]; exact exGGr.hm
  subst hm4
  obtain ⟨b, c, e1, hr⟩ := Rd.owns ho
  cases e1
  rw [show resAll (wths [] exG) 4 exG = [1, 0, 1, 0, 0, 1, 0, 0] by decide +kernel] at hr
  exact ⟨a3, c3, a4, c4, a5, c5, a6, c6, a7, c7, a8, c8, a9, c9, rfl, hcr, hr, hk⟩
def ExEndG (w : World) (e : Ending) (w' : World) : Prop := ∃ g, e = .returned (.slice (some ⟨g, 0, none⟩) 4 4) ∧ Rd w' (some ⟨g, 0, none⟩) (lv [4, 2, 1, 0]) ∧ Kept w w'
theorem exact_exG {a3 a4 a5 a6 a7 a8 a9 : Option Addr} {c3 c4 c5 c6 c7 c8 c9 : Nat} (w : World) (hcr : CsrR w 4 exG a3 a4 a5 a6 a7 a8) (hr : Rd w a9 (lv [1, 0, 1, 0, 0, 1, 0, 0])) :
    Calls Try.prog 25 #[.agg #[.int .i64 4, .int .i64 0, .int .i64 3, .slice a3 5 c3, .slice a4 8 c4, .slice a5 8 c5, .slice a6 8 c6, .slice a7 8 c7, .slice a8 8 c8], .slice a9 8 c9, .int .i64 2] w (ExEndG w) := by
  refine (exact_ok 4 0 3 4 8 a3 a4 a5 a6 a7 a8 c3 c4 c5 c6 c7 c8 exG a9 c9 [1, 0, 1, 0, 0, 1, 0, 0] 2 w exGGr rfl hcr hr (by omega) (by omega)).mono ?_
  rintro e w' ⟨g, X, rfl, hX, hB, -, hk⟩
  obtain rfl := hX.unique exGLow
  exact ⟨g, rfl, Rd.blk hB, hk⟩
theorem ints_exG (a a' : Option Addr) (c c' : Nat) (xs : List Int) (n : Nat) (w : World) (hn : xs.length = n) (hm : n ≤ 1000000) (hx : Rd w a (lv xs)) (hy : Rd w a' (lv xs)) :
    Calls Try.prog 15 #[.slice a n c, .slice a' n c'] w fun e w' => e = .returned (.bool true) ∧ Kept w w' := by
  subst hn
  have h1 := ints_same a a' c c' xs xs w hx hy (by omega) (by omega)
  simpa using h1
set_option maxRecDepth 100000 in
set_option maxHeartbeats 4000000 in
theorem awake20_any (w : World) : Calls Try.prog 28 #[] w fun e w' => e = .returned (.bool true) ∧ Kept w w' := by
  have HA := Lib.hid ((arsNewG w exG).kept ((Upd.refl (fun _ => False) _).alloc (.cells #[.int .i64 4, .int .i64 0, .int .i64 3, .slice (some ⟨w.heap.size, 0, none⟩) 4 4] 24)))
  have HK := Lib.hid (((Upd.refl (fun _ => False) w).alloc (.cells (acells exG).toArray 67)).alloc (.cells #[.int .i64 4, .int .i64 0, .int .i64 3, .slice (some ⟨w.heap.size, 0, none⟩) 4 4] 24))
  have HL := fun (w : World) (g : Nat) (h : Ars w (some ⟨g, 0, none⟩) exG) => Lib.hid (left_exG g w h)
  have HR1 := fun w => Lib.hid (show riB 3 6 3 7 = true by decide) |>.out ▸ risen_any 3 6 3 7 w
  have HR2 := fun w => Lib.hid (show riB 2 9 3 7 = true by decide) |>.out ▸ risen_any 2 9 3 7 w
  have HR3 := fun w => Lib.hid (show riB 3 7 3 7 = false by decide) |>.out ▸ risen_any 3 7 3 7 w
  go_enter Try.func28, Try.ntmps28
  go_wp2_with fail
  change Calls _ _ _ ((w.alloc (.cells (acells exG).toArray 67)).alloc (.cells #[.int .i64 4, .int .i64 0, .int .i64 3, .slice (some ⟨w.heap.size, 0, none⟩) 4 4] 24)) _
  refine (HL _ _ HA.out).out.mono ?_
  rintro e w1 ⟨a3, c3, a4, c4, a5, c5, a6, c6, a7, c7, a8, c8, a9, c9, rfl, hcr, hrs, hk1⟩
  have hA := ((Upd.refl (fun _ => False) w1).alloc (.cells #[.int .i64 4, .int .i64 0, .int .i64 3, .slice a3 5 c3, .slice a4 8 c4, .slice a5 8 c5, .slice a6 8 c6, .slice a7 8 c7, .slice a8 8 c8] 29)).alloc (.cells #[.int .i64 3, .int .i64 7] 48)
  have KW := Lib.hid ((HK.out.trans hk1).trans hA)
  have CR := Lib.hid (hcr.kept hA)
  have RR := Lib.hid (hrs.kept hA)
  have BC : Hid (Blk ((w1.alloc (.cells #[.int .i64 4, .int .i64 0, .int .i64 3, .slice a3 5 c3, .slice a4 8 c4, .slice a5 8 c5, .slice a6 8 c6, .slice a7 8 c7, .slice a8 8 c8] 29)).alloc (.cells #[.int .i64 3, .int .i64 7] 48)) w1.heap.size #[.int .i64 4, .int .i64 0, .int .i64 3, .slice a3 5 c3, .slice a4 8 c4, .slice a5 8 c5, .slice a6 8 c6, .slice a7 8 c7, .slice a8 8 c8] 29) := Lib.hid ((Blk.new _ _ _).alloc _)
  have BM : Hid (Blk ((w1.alloc (.cells #[.int .i64 4, .int .i64 0, .int .i64 3, .slice a3 5 c3, .slice a4 8 c4, .slice a5 8 c5, .slice a6 8 c6, .slice a7 8 c7, .slice a8 8 c8] 29)).alloc (.cells #[.int .i64 3, .int .i64 7] 48)) (w1.heap.size + 1) #[.int .i64 3, .int .i64 7] 48) := Lib.hid (by
    have := Blk.new (w1.alloc (.cells #[.int .i64 4, .int .i64 0, .int .i64 3, .slice a3 5 c3, .slice a4 8 c4, .slice a5 8 c5, .slice a6 8 c6, .slice a7 8 c7, .slice a8 8 c8] 29)) #[.int .i64 3, .int .i64 7] 48
    rwa [show (w1.alloc (.cells #[.int .i64 4, .int .i64 0, .int .i64 3, .slice a3 5 c3, .slice a4 8 c4, .slice a5 8 c5, .slice a6 8 c6, .slice a7 8 c7, .slice a8 8 c8] 29)).heap.size = w1.heap.size + 1 by simp] at this)
  clear hcr hrs hk1 hA HA HK HL
  go_upto_region 4 with (fail)
  generalize ((w1.alloc (.cells #[.int .i64 4, .int .i64 0, .int .i64 3, .slice a3 5 c3, .slice a4 8 c4, .slice a5 8 c5, .slice a6 8 c6, .slice a7 8 c7, .slice a8 8 c8] 29)).alloc (.cells #[.int .i64 3, .int .i64 7] 48)) = W1 at KW CR RR BC BM ⊢
  generalize w1.heap.size + 1 = mb at BM ⊢
  generalize w1.heap.size = cb at BC ⊢
  have bx := BC.out.cell
  have bm := BM.out.cell
  have HE := Lib.hid (exact_exG (c3 := c3) (c4 := c4) (c5 := c5) (c6 := c6) (c7 := c7) (c8 := c8) (c9 := c9) W1 CR.out RR.out)
  go_wp2_with fail
  refine HE.out.mono ?_
  rintro e W2 ⟨g, rfl, hx, hk⟩
  have KW2 := Lib.hid (KW.out.trans hk)
  have BM2 := Lib.hid (BM.out.kept hk)
  have HX := Lib.hid hx
  clear hk hx HE BC BM KW CR RR bx bm
  have hal := (Upd.refl (fun _ => False) W2).alloc (.cells (lv [4, 2, 1, 0]).toArray 3)
  have KW3 := Lib.hid (KW2.out.trans hal)
  have BM3 := Lib.hid (BM2.out.kept hal)
  have bm := BM2.out.cell
  have bm3 := BM3.out.cell
  have HI := Lib.hid (ints_exG (some ⟨g, 0, none⟩) (some ⟨W2.heap.size, 0, none⟩) 4 4 [4, 2, 1, 0] 4 _ rfl (by decide) (HX.out.kept hal) (rdNewG W2 [4, 2, 1, 0] 3))
  clear hal KW2 BM2 HX
  go_wp2_with fail
  refine HI.out.mono ?_
  rintro e W4 ⟨rfl, hk⟩
  have KW4 := Lib.hid (KW3.out.trans hk)
  have BM4 := Lib.hid (BM3.out.kept hk)
  clear hk KW3 BM3 HI bm bm3
  have bm := BM4.out.cell
  go_wp2_with fail
  refine (HR1 _).mono ?_
  rintro e W5 ⟨rfl, hk⟩
  have KW5 := Lib.hid (KW4.out.trans hk)
  have BM5 := Lib.hid (BM4.out.kept hk)
  clear hk KW4 BM4 bm
  have bm := BM5.out.cell
  go_wp2_with fail
  refine (HR2 _).mono ?_
  rintro e W6 ⟨rfl, hk⟩
  have KW6 := Lib.hid (KW5.out.trans hk)
  have BM6 := Lib.hid (BM5.out.kept hk)
  clear hk KW5 BM5 bm
  have bm := BM6.out.cell
  go_wp2_with fail
  refine (HR3 _).mono ?_
  rintro e W7 ⟨rfl, hk⟩
  have KW7 := Lib.hid (KW6.out.trans hk)
  clear hk KW6 BM6 bm
  go_wp2_with fail
  go_ret
  exact ⟨rfl, KW7.out⟩
end Go.Proofs.Yticeionjlknlcaa
