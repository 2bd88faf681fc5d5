/- slices.Repeat of one number, a few times. -/
import Derived.Test.YticeionjlknlcaaCsrRd
import Derived.Laws.CopyRow
import Derived.Laws.Bits64b
import Derived.Deep.RegionHeld3
namespace Go.Proofs.Yticeionjlknlcaa
set_option linter.unusedVariables false
set_option linter.unusedSimpArgs false
open Go.RowKit

theorem mask32 (a : Nat) (ha : a < 4294967296) : bits .and .u64 (a : Int) 4294967295 = (a : Int) := by
  have h := bits_and_u64_nat a 4294967295 (by omega) (by omega)
  have e : a &&& 4294967295 = a % 4294967296 := Nat.and_two_pow_sub_one_eq_mod a 32
  rw [e] at h
  rw [show (4294967295 : Int) = ((4294967295 : Nat) : Int) from rfl, h]
  omega
theorem mul64_one (n : Nat) (hn : n ≤ 1000) (w : World) : Calls Try.prog 78 #[.int .u64 1, .int .u64 n] w fun e w' => e = .returned (.tuple #[.int .u64 0, .int .u64 n]) ∧ w' = w := by
  have h1 : bits .and .u64 1 4294967295 = 1 := mask32 1 (by omega)
  have h2 := mask32 n (by omega)
  have h3 : (n : Int) / 4294967296 = 0 := by omega
  have h0 : bits .and .u64 0 4294967295 = 0 := mask32 0 (by omega)
  have hw : IntKind.u64.wrap (n : Int) = (n : Int) := by rw [IntKind.wrap_u64]; omega
  go_enter Try.func78, Try.ntmps78
  go_wp2
  go_ret2
  exact ⟨rfl, rfl⟩
theorem mul_one (n : Nat) (hn : n ≤ 1000) (w : World) : Calls Try.prog 66 #[.int .u64 1, .int .u64 n] w fun e w' => e = .returned (.tuple #[.int .u64 0, .int .u64 n]) ∧ w' = w := by
  go_enter Try.func66, Try.ntmps66
  go_wp2_with fail
  refine (mul64_one n hn _).mono ?_
  rintro e w' ⟨rfl, rfl⟩
  go_wp2_with fail
  go_ret2
  exact ⟨rfl, rfl⟩
theorem run_from' {P : Program} {t e : TypeId} (ht : P.underlying t = some (.slice e)) (hs : (P.info? e).map (fun i => i.size) = some 1) (b len cap m : Nat) (h0 : ¬ m = 0) (hm : m < len) (hc : len ≤ cap) (w : World) :
    (Instr.slice t (.slice (some ⟨b, 0, none⟩) len cap) (some (.int .i64 (m : Int))) none none).run P w = .ok (.slice (some ⟨b, m, none⟩) (len - m) (cap - m)) w := by
  obtain ⟨i, hi, hsz⟩ := Option.map_eq_some_iff.1 hs
  have h : ¬ cap = m := by omega
  have hm2 : m ≤ len := by omega
  simp [Instr.slice, run_underlying ht, Instr.sliceBounds, Instr.sliceBound, asIntOf, sizeOf, typeInfo, hi, Result.andThen, Addr.add, hm2, hsz, h, h0]
theorem copy_fill (w : World) (g n k c sLen sCap : Nat) (v : Int) (a : Addr) (hg : Blk w g (lv (filled (List.replicate n v) 0 k)).toArray 3) (hsrc : ∀ j, j < c → w.cell? (a.add j) = some (.int .i64 v)) (hc : c = Nat.min sLen (n - k)) (hk : k ≤ n) :
    ∃ w2, (∀ ty, (Builtin.copy_ #[26, 26] ty #[.slice (some ⟨g, k, none⟩) (n - k) (n - k), .slice (some a) sLen sCap]).run Try.prog w = .ok (goInt c) w2) ∧ Blk w2 g (lv (filled (List.replicate n v) 0 (k + c))).toArray 3 ∧ Upd (fun i => i = g) w w2 := by
  have hcn : c ≤ n - k := by rw [hc]; exact Nat.min_le_right _ _
  have hl : ((lv (filled (List.replicate n v) 0 k)).toArray).size = n := by simp [lv, filled]; omega
  have e := fun ty => run_copy_row Try.prog w 26 26 ty 3 g k (n - k) (n - k) a sLen sCap (lv (filled (List.replicate n v) 0 k)).toArray 3 (List.replicate c (Value.int .i64 v)) Try.underlying26 (by kernel_rfl) hg (by rw [List.length_replicate]; exact hc)
    (fun j u hu => by
      rw [List.getElem?_replicate] at hu
      split at hu
      · cases hu; exact hsrc j (by assumption)
      · cases hu) (by rw [List.length_replicate, hl]; omega) (fun u hu => by rw [List.eq_of_mem_replicate hu]; rfl)
  rw [List.length_replicate] at e
  refine ⟨_, e, ?_, ?_⟩
  · have h2 := setRow_heap w g _ ((lv (filled (List.replicate n v) 0 k)).take k ++ List.replicate c (Value.int .i64 v) ++ (lv (filled (List.replicate n v) 0 k)).drop (k + c)).toArray 3 (0, 0) hg
    unfold Blk
    rw [show (lv (filled (List.replicate n v) 0 (k + c))).toArray = ((lv (filled (List.replicate n v) 0 k)).take k ++ List.replicate c (Value.int .i64 v) ++ (lv (filled (List.replicate n v) 0 k)).drop (k + c)).toArray from ?_]
    · exact h2
    · congr 1
      have m1 : min k n = k := by omega
      have m2 : min (k + c) n = k + c := by omega
      simp only [lv, filled, List.map_append, List.map_take, List.map_replicate, List.length_replicate, List.take_replicate, List.take_append, List.drop_append, List.drop_replicate, m1, m2, Nat.sub_self, List.take_zero, List.append_nil, Nat.min_self]
      have d1 : k - (k + c) = 0 := by omega
      have d2 : k + c - k = c := by omega
      have d3 : n - k - c = n - (k + c) := by omega
      simp only [d1, d2, d3, List.replicate_zero, List.nil_append, ← List.replicate_append_replicate, List.append_assoc]
      simp
  · exact ⟨rfl, rfl, rfl, by simp, fun i hi hn => setRow_other w g i _ hn⟩
set_option maxHeartbeats 2000000 in
theorem Repeat_any (xb : Nat) (v : Int) (n : Nat) (w : World) (hx : Blk w xb #[.int .i64 v] 3) (h1 : 1 ≤ n) (hn : n ≤ 1000) :
    Calls Try.prog 51 #[.slice (some ⟨xb, 0, none⟩) 1 1, .int .i64 n] w fun e w' => ∃ g, e = .returned (.slice (some ⟨g, 0, none⟩) n n) ∧ Blk w' g (lv (List.replicate n v)).toArray 3 ∧ w.heap.size ≤ g ∧ Kept w w' := by
  have hmk := fun w => make_one (P := Try.prog) (t := 26) (e := 3) (z := .int .i64 0) (v := .int .i64 0) (bytes := 8) Try.underlying26 (by kernel_rfl) rfl .i64 n (by omega) (by omega) w
  have hw : IntKind.u64.wrap (n : Int) = (n : Int) := by rw [IntKind.wrap_u64]; omega
  have hw2 : IntKind.i64.wrap (n : Int) = (n : Int) := by rw [IntKind.wrap_i64]; omega
  have j0 : ¬ (n : Int) < 0 := by omega
  have j1 : ¬ (9223372036854775807 : Int) < (n : Int) := by omega
  have HK := Lib.hid ((Upd.refl (fun _ => False) w).alloc (.cells (zeros n (.int .i64 0)) 3))
  have HB := Lib.hid (Blk.new w (zeros n (.int .i64 0)) 3)
  have HX := Lib.hid (hx.alloc (.cells (zeros n (.int .i64 0)) 3))
  have HXL := Lib.hid hx.lt
  clear hx
  go_enter Try.func51, Try.ntmps51
  go_wp2_with fail
  refine (mul_one n hn _).mono ?_
  rintro e w' ⟨rfl, rfl⟩
  go_upto_region 7 with (fail)
  generalize (w'.alloc (.cells (zeros n (.int .i64 0)) 3)) = W0 at HK HB HX ⊢
  have HGX : Hid (¬ xb = w'.heap.size) := Lib.hid (by have := HXL.out; omega)
  have HGL : Hid (w'.heap.size ≤ w'.heap.size) := Lib.hid (Nat.le_refl _)
  obtain ⟨g, hg⟩ : ∃ g, g = w'.heap.size := ⟨_, rfl⟩
  rw [← hg] at HB HGX ⊢
  have HGL : Hid (w'.heap.size ≤ g) := Lib.hid (by omega)
  clear hg
  have HB0 : Hid (Blk W0 g (lv (filled (List.replicate n v) 0 0)).toArray 3) := Lib.hid (by
    have := HB.out
    rw [zeros_ints] at this
    simpa [filled, lv] using this)
  obtain ⟨W1, hcp, HB1, HU1⟩ := copy_fill W0 g n 0 1 1 1 v ⟨xb, 0, none⟩ HB0.out (fun j hj => by
    obtain rfl : j = 0 := by omega
    exact HX.out.cell 0) (by rw [Nat.sub_zero]; exact (Nat.min_eq_left h1).symm) (by omega)
  have HB1 := Lib.hid HB1
  have HK1 : Hid (Kept w' W1) := Lib.hid (HK.out.then HU1 (fun i hi e => by have := HGL.out; omega))
  have hcp : ∀ ty, (Builtin.copy_ #[26, 26] ty #[.slice (some ⟨g, 0, none⟩) n n, .slice (some ⟨xb, 0, none⟩) 1 1]).run Try.prog W0 = .ok (goInt 1) W1 := hcp
  clear HU1 HB HB0 HX HK HXL HGX
  go_wp2_with fail
  clear hcp
  go_loopw [8] (fun ix wr => ∃ (k : Nat), ix = .int .i64 k ∧ 1 ≤ k ∧ k ≤ n ∧ Hid (Kept w' wr) ∧ Hid (Blk wr g (lv (filled (List.replicate n v) 0 k)).toArray 3)) (fun ix _ => n - (intOf ix).toNat)
  case atStart => exact ⟨1, rfl, by omega, h1, HK1, HB1⟩
  case round =>
    clear HK1 HB1
    obtain ⟨k, rfl, hk1, hk, HK1, HB1⟩ := hrel
    by_cases hlt : k < n
    · obtain ⟨c, hc⟩ : ∃ c, c = Nat.min k (n - k) := ⟨_, rfl⟩
      have hc1 : c ≤ k ∧ c ≤ n - k ∧ 1 ≤ c := by rw [hc]; simp only [Nat.min_def]; split <;> omega
      obtain ⟨W2, hcp, HB2, HU2⟩ := copy_fill wr.drew g n k c k n v ⟨g, 0, none⟩ HB1.out.drew (fun j hj => by
        have := HB1.out.drew.cell j
        unfold Addr.add
        simp only [Nat.zero_add]
        rw [show (if j = 0 then (⟨g, 0, none⟩ : Addr) else ⟨g, j, none⟩) = ⟨g, j, none⟩ by split <;> simp_all]
        rw [this]
        simp [lv, filled, List.getElem?_append, show j < min k n by omega]) hc (by omega)
      have HB2 := Lib.hid HB2
      have HK2 : Hid (Kept w' W2) := Lib.hid (HK1.out.drew.then HU2 (fun i hi e => by have := HGL.out; omega))
      have ha := fun w => run_from' (P := Try.prog) Try.underlying26 (by kernel_rfl) g n n k (by omega) hlt (by omega) w
      have hb := fun w => run_take (P := Try.prog) Try.underlying26 (size := 1) (by kernel_rfl) (some ⟨g, 0, none⟩) n n k (by omega) w
      have hq : IntKind.i64.wrap ((k : Int) + (c : Int)) = ((k + c : Nat) : Int) := by rw [IntKind.wrap_i64]; omega
      have hq' : wrap64 ((k : Int) + (c : Int)) = ((k + c : Nat) : Int) := by unfold wrap64; omega
      obtain ⟨hc1, hc2, hc3⟩ := hc1
      clear HU2 hc
      go_upto_region 9 with (fail)
      go_region_held3 (fun w' => True) (trivial) (fail)
      go_wp2_with fail
      go_roundw
      case rel => exact ⟨k + c, by go_num, by omega, by omega, HK2, HB2⟩
      case measure => simp [intOf]; omega
    · obtain rfl : k = n := by omega
      go_wp2_with fail
      go_ret
      refine ⟨g, rfl, ?_, HGL.out, HK1.out⟩
      have := HB1.out
      rwa [show filled (List.replicate k v) 0 k = List.replicate k v by simp [filled]] at this
end Go.Proofs.Yticeionjlknlcaa
