/- The law SchedFair. -/
import Derived.Test.YtacacnjpfflbnaaFair
import Derived.Deep.CutRange
namespace Go.Proofs.Ytacacnjpfflbnaa
set_option linter.unusedVariables false
open Go.RowKit

theorem getD_le_sum : ∀ (l : List Nat) (i : Nat), l.getD i 0 ≤ l.sum
  | [], i => by simp
  | x :: xs, 0 => by simp
  | x :: xs, i + 1 => by have := getD_le_sum xs i; simp at this ⊢; omega
theorem sum_zero_inv : ∀ (l : List Nat), l.sum = 0 → ∀ i, l.getD i 0 = 0
  | [], _, i => by simp
  | x :: xs, h, 0 => by simp at h; simp [h.1]
  | x :: xs, h, i + 1 => by simp at h; simpa using sum_zero_inv xs h.2 i
theorem Next_somF {w : World} {bd : Nat → Prop} {sb tb : Nat} {s : SS} (hS : Sc w bd sb tb s) (hbd : ∀ k, bd k → k < w.heap.size) (a : Option Addr) (c m : Nat) (dl : List Bool) (hm : dl.length = m) (hd : Rd w a (dl.map Value.bool))
    (hda : ∀ b off, a = some ⟨b, off, none⟩ → dl.map Value.bool ≠ [] → ¬ (b = sb ∨ b = tb)) (he : s.ended < 4611686018427387904) (v : Nat) (hv : s.who dl = some v) (t : SS) (ht : s.step dl = t) :
    Calls Try.prog 10 #[.pointer (some ⟨sb, 0, none⟩), .slice a m c] w fun e w' => e = .returned (.tuple #[.int .i64 (v : Int), .bool true]) ∧ Sc w' bd sb tb t ∧ Upd (fun k => k = sb ∨ k = tb) w w' := by subst hm; exact Next_some hS hbd a c dl hd hda he v hv t ht
/-- Numbers, as cells. -/
def nats (l : List Nat) : Array Value := (l.map fun x : Nat => Value.int .i64 (x : Int)).toArray
def flags (l : List Nat) : Array Value := (l.map fun x : Nat => Value.bool ((x : Int) == 0)).toArray
theorem nats_at (l : List Nat) (i : Nat) (h : i < l.length) : (nats l)[i]? = some (.int .i64 ((l.getD i 0 : Nat) : Int)) := by simp [nats, h]
theorem nats_set (l : List Nat) (i x : Nat) : (nats l).setIfInBounds i (.int .i64 (x : Int)) = nats (l.set i x) := by simp [nats, List.map_set]
theorem flags_set (l : List Nat) (i x : Nat) (z : Bool) (h : ((x : Int) == 0) = z) : (flags l).setIfInBounds i (.bool z) = flags (l.set i x) := by simp [flags, List.map_set, h]
theorem flags_at (l : List Nat) (i : Nat) (h : i < l.length) : ∃ z, (flags l)[i]? = some (.bool z) := by simp [flags, h]
theorem nats_zeros (n : Nat) : zeros n (.int .i64 0) = nats (List.replicate n 0) := by simp [zeros, nats]
theorem flags_ones (n : Nat) : zeros n (.bool false) = flags (List.replicate n 1) := by simp [zeros, flags]
theorem flags_done (l : List Nat) : flags l = ((doneOf l).map Value.bool).toArray := by simp [flags, doneOf]
theorem pre_set (pre : List Nat) (m x : Nat) : (pre ++ List.replicate (m + 1) 0).set pre.length x = (pre ++ [x]) ++ List.replicate m 0 := by
  rw [List.set_append_right _ _ (Nat.le_refl _)]; simp [List.replicate_succ]
theorem pre_set2 (pre : List Nat) (m x y : Nat) : ((pre ++ [x]) ++ List.replicate m 0).set pre.length y = (pre ++ [y]) ++ List.replicate m 0 := by
  rw [List.append_assoc, List.set_append_right _ _ (Nat.le_refl _)]; simp
theorem Blk.nat {w : World} {b : Nat} {l : List Nat} {T : TypeId} (h : Blk w b (nats l) T) (i : Nat) (hi : i < l.length) : w.cell? ⟨b, i, none⟩ = some (.int .i64 ((l.getD i 0 : Nat) : Int)) := by rw [h.cell]; exact nats_at l i hi
theorem Blk.natset {w : World} {b : Nat} {l : List Nat} {T : TypeId} (h : Blk w b (nats l) T) (i x : Nat) : Blk (w.setCell ⟨b, i, none⟩ (.int .i64 (x : Int))) b (nats (l.set i x)) T := by have := h.set i (.int .i64 (x : Int)); rwa [nats_set] at this

/-- What the law's third loop holds: the script, what is left (block a), who is done (block b), when each was told (block c). -/
structure FW (w : World) (D : Nat → Prop) (sa ta a b c : Nat) (wr : World) (s : SS) (left since : List Nat) : Prop where
  sc : Sc wr D sa ta s
  lf : Blk wr a (nats left) 3
  dn : Blk wr b (flags left) 4
  si : Blk wr c (nats since) 3
  kp : Kept w wr
section
variable {w : World} {D : Nat → Prop} {sa ta a b c : Nat} {wr w1 : World} {s s' : SS} {left left' since since' : List Nat}
theorem FW.kept (h : FW w D sa ta a b c wr s left since) (hk : Kept wr w1) : FW w D sa ta a b c w1 s left since :=
  ⟨h.sc.kept hk, h.lf.kept hk, h.dn.kept hk, h.si.kept hk, h.kp.trans hk⟩
theorem FW.step (h : FW w D sa ta a b c wr s left since) (hU : Upd (fun k => k = sa ∨ k = ta) wr w1) (hs : Sc w1 D sa ta s') (h1 : sa < a ∧ ta < a) (h2 : a < b ∧ b < c) (h3 : w.heap.size ≤ sa ∧ w.heap.size ≤ ta) : FW w D sa ta a b c w1 s' left since :=
  ⟨hs, h.lf.upd hU (fun e => by omega), h.dn.upd hU (fun e => by omega), h.si.upd hU (fun e => by omega), h.kp.then hU (fun i hi e => by omega)⟩
theorem FW.told (h : FW w D sa ta a b c wr s left since) (i x : Nat) (h1 : sa < a ∧ ta < a) (h2 : a < b ∧ b < c) (h3 : w.heap.size ≤ c) (hD : ∀ k, D k → k < a) : FW w D sa ta a b c (wr.setCell ⟨c, i, none⟩ (.int .i64 (x : Int))) s left (since.set i x) :=
  have hU := updCell wr c i (.int .i64 (x : Int))
  ⟨h.sc.upd hU (fun e => by omega) (fun e => by omega) (fun k hk e => by have := hD k hk; omega), h.lf.upd hU (fun e => by omega), h.dn.upd hU (fun e => by omega), h.si.natset i x, h.kp.then hU (fun i hi e => by omega)⟩
theorem FW.one (h : FW w D sa ta a b c wr s left since) (i x : Nat) (hx : 0 < x) (hi : 0 < left.getD i 0) (hl : i < left.length) (h1 : sa < a ∧ ta < a) (h2 : a < b ∧ b < c) (h3 : w.heap.size ≤ a) (hD : ∀ k, D k → k < a) : FW w D sa ta a b c (wr.setCell ⟨a, i, none⟩ (.int .i64 (x : Int))) s (left.set i x) since := by
  have hU := updCell wr a i (.int .i64 (x : Int))
  refine ⟨h.sc.upd hU (fun e => by omega) (fun e => by omega) (fun k hk e => by have := hD k hk; omega), h.lf.natset i x, ?_, h.si.upd hU (fun e => by omega), h.kp.then hU (fun i hi e => by omega)⟩
  have e : flags (left.set i x) = flags left := by
    unfold flags
    congr 1
    rw [List.map_set]
    apply List.ext_getElem?
    intro j
    rw [List.getElem?_set]
    split
    · rename_i e; subst e
      have h1 : left.getD i 0 = left[i] := by simp [hl]
      have h2 : ¬ left[i] = 0 := by omega
      have h3 : ¬ x = 0 := by omega
      have e2 : ((x : Int) == 0) = false := by simp; omega
      have e3 : ((left[i] : Int) == 0) = false := by simp; omega
      simp [hl, e2, e3]
    · rfl
  rw [e]
  exact h.dn.upd hU (fun e => by omega)
theorem FW.last (h : FW w D sa ta a b c wr s left since) (i : Nat) (h1 : sa < a ∧ ta < a) (h2 : a < b ∧ b < c) (h3 : w.heap.size ≤ a) (hD : ∀ k, D k → k < a) : FW w D sa ta a b c ((wr.setCell ⟨a, i, none⟩ (.int .i64 0)).setCell ⟨b, i, none⟩ (.bool true)) s (left.set i 0) since := by
  have hU := updCell wr a i (.int .i64 0)
  have hV := updCell (wr.setCell ⟨a, i, none⟩ (.int .i64 0)) b i (.bool true)
  refine ⟨(h.sc.upd hU (fun e => by omega) (fun e => by omega) (fun k hk e => by have := hD k hk; omega)).upd hV (fun e => by omega) (fun e => by omega) (fun k hk e => by have := hD k hk; omega), (h.lf.natset i 0).upd hV (fun e => by omega), ?_, (h.si.upd hU (fun e => by omega)).upd hV (fun e => by omega), (h.kp.then hU (fun i hi e => by omega)).then hV (fun i hi e => by omega)⟩
  have := (h.dn.upd hU (fun e => by omega)).set i (.bool true)
  rw [flags_set left i 0 true rfl] at this
  exact this
end

set_option maxRecDepth 100000 in
set_option maxHeartbeats 4000000 in
theorem schedFair_walk (a0 : Int) (s1 : Option Addr) (cap1 : Nat) (z1 : List Int) (s2 : Option Addr) (cap2 : Nat) (z2 : List Int) (w : World) (w0 : (Lit.int .u8 a0).wf = true) (w1 : IntRow .i64 w s1 cap1 z1) (_m1 : ∀ n ∈ z1, (Lit.int .i64 n).wf = true) (w2 : IntRow .u8 w s2 cap2 z2) (m2 : ∀ n ∈ z2, (Lit.int .u8 n).wf = true) :
    Calls Try.prog 3 #[.int .u8 a0, .slice s1 z1.length cap1, .slice s2 z2.length cap2] w fun e w' => e = .returned (.bool true) ∧ Kept w w' := by
  have b0 := bounds_u8 w0
  obtain ⟨N, hN⟩ := Int.eq_ofNat_of_zero_le (show 0 ≤ 1 + a0 % 20 by omega)
  have hN1 : 1 ≤ N := by omega
  have hN2 : N ≤ 20 := by omega
  obtain ⟨K, hK⟩ : ∃ K, K = min z1.length 60 := ⟨_, rfl⟩
  have hK1 : K ≤ z1.length := by omega
  have hK2 : K ≤ 60 := by omega
  have hle := w1.le
  have hmost := w1.most
  have hsl := fun w => run_take (P := Try.prog) Try.underlying22 (size := 1) (by kernel_rfl) s1 z1.length cap1 K (by omega) w
  have hif1 : (if (60 : Int) < (z1.length : Int) then (60 : Int) else (z1.length : Int)) = (K : Int) := by split <;> omega
  have hif2 : (if 60 < z1.length then (60 : Int) else (z1.length : Int)) = (K : Int) := by split <;> omega
  have hmb := fun w => make_one (P := Try.prog) (t := 28) (e := 4) (z := .bool false) (v := .bool false) (bytes := 1) Try.underlying28 (by kernel_rfl) rfl .i64 N (by omega) (by omega) w
  have hmi := fun w => make_one (P := Try.prog) (t := 22) (e := 3) (z := .int .i64 0) (v := .int .i64 0) (bytes := 8) Try.underlying22 (by kernel_rfl) rfl .i64 N (by omega) (by omega) w
  unfold maxLen at hmost
  obtain ⟨P, hP⟩ : ∃ P, z1.take K = P := ⟨_, rfl⟩
  have hPl : P.length = K := by rw [← hP]; simp; omega
  have hrp : Rd w s1 (P.map (Value.int .i64)) := by
    rcases w1.rd with h0 | ⟨b, off, e, hc⟩
    · refine .inl ?_; rw [← hP, List.map_take, h0]; simp
    · refine .inr ⟨b, off, e, fun i u hu => ?_⟩
      rw [← hP, List.map_take, List.getElem?_take] at hu
      split at hu
      · exact hc i u hu
      · cases hu
  have HRP := Lib.hid hrp
  have HPL := Lib.hid hPl
  have HR2 := Lib.hid w2.rd
  have HB2 : Hid (∀ i, i < z2.length → 0 ≤ z2.getD i 0 ∧ z2.getD i 0 ≤ 255) := Lib.hid fun i hi => by
    have := bounds_u8 (m2 (z2.getD i 0) (by simp [hi]))
    omega
  clear w0 w1 w2 _m1 m2 hrp hP hPl hK
  go_enter Try.func3, Try.ntmps3
  go_wp2_with fail
  refine (New_okN N s1 cap1 K P _ HPL.out hN1 (by omega) HRP.out (by omega)).mono ?_
  rintro e w2 ⟨sa, ta, rfl, hS, ha, hta, hk2⟩
  have HA2 := Lib.hid hS
  have HK2 := Lib.hid hk2
  have hs2 := hk2.size
  have l1 := HA2.out.lt
  clear hS hk2 hN
  go_wp2_with fail
  go_loopw [11, 43] (fun t i wr => ∃ (k : Nat) (pre : List Nat), i = .int .i64 k ∧ k ≤ N ∧ t = .int .i64 (pre.sum : Int) ∧ pre.length = k ∧ pre.sum ≤ 11 * k ∧ Hid (Blk wr w2.heap.size (nats (pre ++ List.replicate (N - k) 0)) 3) ∧ Hid (Kept w2 wr)) (fun _ i _ => N - (intOf i).toNat)
  case atStart =>
    refine ⟨0, [], rfl, by omega, rfl, rfl, by simp, Lib.hid ?_, Lib.hid ((Upd.refl _ _).alloc _)⟩
    rw [List.nil_append, Nat.sub_zero, ← nats_zeros]; exact Blk.new _ _ _
  case round =>
    obtain ⟨k, pre, rfl, hk, rfl, hpl, hps, HL, HK⟩ := hrel
    by_cases hlt : k < N
    · obtain ⟨m, hm⟩ : ∃ m, N - k = m + 1 := ⟨N - k - 1, by omega⟩
      have hm2 : N - (k + 1) = m := by omega
      have hL := HL.out
      rw [hm] at hL
      have q1 : wr.cell? ⟨w2.heap.size, k, none⟩ = some (.int .i64 0) := by
        have := hL.nat k (by simp; omega)
        rw [this]; subst hpl; simp
      have f1 := hL.free k
      have h1 := hL.natset k 3
      rw [← hpl, pre_set, hpl] at h1
      have H1 := Lib.hid h1
      have HKa := Lib.hid (HK.out.setCell (p := ⟨w2.heap.size, k, none⟩) (.inr (Nat.le_refl _)) (.int .i64 3))
      have HP := Lib.hid hpl
      have hsum3 : (pre ++ [3]).sum = pre.sum + 3 := by simp
      have HS3 := Lib.hid hsum3
      clear hm hL h1 HL hpl hsum3
      by_cases hby : k < z2.length
      · obtain ⟨b', off', rfl, hc2⟩ := HR2.out.at k (by simpa using hby)
        have hbb := HB2.out k hby
        have c2 : w.cell? ⟨b', off' + k, none⟩ = some (.int .u8 (z2.getD k 0)) := by rw [hc2]; simp [hby]
        have c2' : wr.cell? ⟨b', off' + k, none⟩ = some (.int .u8 (z2.getD k 0)) := (keptCells (HK2.out.trans HK.out) _ (by rw [c2]; rfl)).trans c2
        have hbl := World.block_lt_of_cell? w _ c2
        simp only at hbl
        have hbne : ¬ b' = w2.heap.size := by omega
        obtain ⟨y, hy⟩ : ∃ y, z2.getD k 0 = y := ⟨_, rfl⟩
        rw [hy] at hbb c2'
        obtain ⟨y1, y2⟩ := hbb
        obtain ⟨Y, hY⟩ := Int.eq_ofNat_of_zero_le (show 0 ≤ y % 12 by omega)
        have hY1 : Y ≤ 11 := by omega
        have HF : Hid (Blk ((wr.setCell ⟨w2.heap.size, k, none⟩ (.int .i64 3)).setCell ⟨w2.heap.size, k, none⟩ (.int .i64 (Y : Int))) w2.heap.size (nats ((pre ++ [Y]) ++ List.replicate m 0)) 3) := by
          have := H1.out.natset k Y
          rw [← HP.out, pre_set2, HP.out] at this
          exact Lib.hid this
        have HKb := Lib.hid (HKa.out.setCell (p := ⟨w2.heap.size, k, none⟩) (.inr (Nat.le_refl _)) (.int .i64 (Y : Int)))
        have HS : Hid ((pre ++ [Y]).sum = pre.sum + Y) := Lib.hid (by simp)
        clear hc2 c2 hy HKa H1
        go_wp2_with fail
        go_roundw
        case rel => exact ⟨k + 1, pre ++ [Y], by go_num, by omega, by rw [HS.out]; go_num, by have := HP.out; simp; omega, by rw [HS.out]; omega, Lib.hid (by rw [hm2]; exact HF.out), HKb⟩
        case measure => simp [intOf]; omega
      · have hz2 : ¬ k < z2.length := hby
        have q3 : (wr.setCell ⟨w2.heap.size, k, none⟩ (.int .i64 3)).cell? ⟨w2.heap.size, k, none⟩ = some (.int .i64 3) := by
          refine Eq.trans (H1.out.nat k (by have := HP.out; simp; omega)) ?_
          have := HP.out; subst this; simp
        go_wp2_with fail
        go_roundw
        case rel => exact ⟨k + 1, pre ++ [3], by go_num, by omega, by rw [HS3.out]; go_num, by have := HP.out; simp; omega, by rw [HS3.out]; omega, Lib.hid (by rw [hm2]; exact H1.out), HKa⟩
        case measure => simp [intOf]; omega
    · obtain rfl : k = N := by omega
      have hl0 := HL.out
      rw [Nat.sub_self, List.replicate_zero, List.append_nil] at hl0
      have HL1 := Lib.hid hl0
      obtain ⟨wl, rfl⟩ : ∃ wl : World, wl = wr := ⟨_, rfl⟩
      have hs3 := HK.out.size
      have hlb := hl0.lt
      clear HL hl0
      go_wp2_with fail
      go_loopw [73] (fun i wr => ∃ j : Nat, i = .int .i64 j ∧ j ≤ k ∧ Hid (Blk wr wl.heap.size (((filled pre 1 j).map fun x : Nat => Value.bool ((x : Int) == 0))).toArray 4) ∧ Hid (Kept wl wr)) (fun i _ => k - (intOf i).toNat)
      case atStart =>
        refine ⟨0, rfl, by omega, Lib.hid ?_, Lib.hid ((Upd.refl _ _).alloc _)⟩
        rw [filled_zero, hpl]
        show Blk _ _ (flags (List.replicate k 1)) _
        rw [← flags_ones]
        exact Blk.new _ _ _
      case round =>
        obtain ⟨j, rfl, hj, HF, HKj⟩ := hrel
        by_cases hlt2 : j < k
        · have q1 := (HL1.out.kept HKj.out).nat j (by omega)
          have hfx := HF.out.fill (f := fun x : Nat => Value.bool ((x : Int) == 0)) (k := j) (by omega)
          have q2 := HF.out.filling (f := fun x : Nat => Value.bool ((x : Int) == 0)) (k := j) (by omega)
          have f2 := HF.out.free j
          have e1 : pre[j]'(by omega) = pre.getD j 0 := by simp [show j < pre.length by omega]
          rw [e1] at hfx
          obtain ⟨x, hx⟩ : ∃ x, pre.getD j 0 = x := ⟨_, rfl⟩
          rw [hx] at q1 hfx
          have HX := Lib.hid hfx
          have HKz := fun z : Bool => Lib.hid (HKj.out.setCell (p := ⟨wl.heap.size, j, none⟩) (.inr (Nat.le_refl _)) (.bool z))
          obtain ⟨z, hz⟩ : ∃ z, ((x : Int) == 0) = z := ⟨_, rfl⟩
          simp only [hz] at HX
          clear hfx e1 hx HF HKj
          go_wp2_with fail
          go_roundw
          case rel => exact ⟨j + 1, by go_num, by omega, HX, HKz _⟩
          case measure => simp [intOf]; omega
        · obtain rfl : j = k := by omega
          have hfl := HF.out
          rw [show filled pre 1 j = pre by have := filled_all pre 1; rwa [hpl] at this] at hfl
          have HF1 : Hid (Blk wr wl.heap.size (flags pre) 4) := Lib.hid hfl
          obtain ⟨wd, rfl⟩ : ∃ wd : World, wd = wr := ⟨_, rfl⟩
          have HL2 := Lib.hid (HL1.out.kept HKj.out)
          have HA3 := Lib.hid ((HA2.out.kept HK.out).kept HKj.out)
          have HK3 := Lib.hid ((HK2.out.trans HK.out).trans HKj.out)
          have hs4 := HKj.out.size
          have hdb := hfl.lt
          obtain ⟨al, hal⟩ : ∃ al, pre.sum = al := ⟨_, rfl⟩
          have hal2 : al ≤ 220 := by omega
          have HAl := Lib.hid hal
          rw [hal]
          rw [hal] at hps
          clear hal
          have hpl2 := Lib.hid hpl
          clear hfl HF HL1 HKj HA2 HK2 HK
          go_wp2_with fail
          go_loopw [16] (fun i wr => ∃ (x : Nat) (s : SS) (left since : List Nat), i = .int .i64 ((x : Int) + 1) ∧ x ≤ al ∧ Hid (Fair j s left since x al) ∧ Hid (FW w (fun k => w.heap.size ≤ k ∧ k < w2.heap.size) sa ta w2.heap.size wl.heap.size wd.heap.size wr s left since) ∧ Hid (wd.heap.size < wr.heap.size)) (fun i _ => al + 1 - (intOf i).toNat)
          case atStart =>
            refine ⟨0, ⟨P, j - 1, List.replicate j false, 0⟩, pre, List.replicate j 0, rfl, by omega, Lib.hid ⟨hpl2.out, by simp, by simp, by simp, fun i => by simp [List.getD_eq_getElem?_getD, List.getElem?_replicate]; split <;> rfl, fun _ i => by simp [List.getD_eq_getElem?_getD, List.getElem?_replicate]; split <;> rfl, fun _ a b _ _ _ _ => by simp [List.getD_eq_getElem?_getD, List.getElem?_replicate]; split <;> simp, by rw [HAl.out]; rfl⟩, Lib.hid ⟨HA3.out.kept ((Upd.refl _ _).alloc _), HL2.out.alloc _, HF1.out.alloc _, ?_, HK3.out.alloc _⟩, Lib.hid (by simp)⟩
            rw [← nats_zeros]; exact Blk.new _ _ _
          case round =>
            obtain ⟨x, s, left, since, rfl, hx, HFa, S0, HW⟩ := hrel
            clear HA3 HL2 HF1 HK3 hpl2 HAl
            have hww := HW.out
            have hgeo1 : sa < w2.heap.size ∧ ta < w2.heap.size := l1
            have hgeo2 : w2.heap.size < wl.heap.size ∧ wl.heap.size < wd.heap.size := ⟨hlb, by omega⟩
            have hgeo3 : w.heap.size ≤ sa ∧ w.heap.size ≤ ta := ⟨by omega, by omega⟩
            have hll := HFa.out.ll
            have hsl' := HFa.out.sl
            have hen := HFa.out.ended
            by_cases hlt3 : x < al
            · obtain ⟨v, hw1, hvn, hpos, hord, hnext⟩ := HFa.out.who (by omega) hlt3
              have HWho := Lib.hid hw1
              have HOrd := Lib.hid hord
              have HNx := Lib.hid hnext
              have HLf := Lib.hid (Left_sc S0.out.sc _ rfl)
              have HNe := Lib.hid (Next_somF S0.out.sc (fun z hz => by omega) (some ⟨wl.heap.size, 0, none⟩) j j (doneOf left) (by simp [doneOf, hll]) (by have := S0.out.dn; rw [flags_done] at this; exact Rd.blk this) (fun b off e _ f => by cases e; omega) (by omega) v hw1 _ rfl)
              have hvl : (v : Int) < (j : Int) := by omega
              clear hw1 hord hnext
              have hx1 : (x : Int) + 1 ≤ (al : Int) := by omega
              obtain ⟨p, hp⟩ : ∃ p, s.picks.length = p := ⟨_, rfl⟩
              rw [hp] at HLf
              have HPl := Lib.hid hp
              clear hp
              by_cases hp0 : p = 0
              · subst hp0
                have hpe : s.picks = [] := List.eq_nil_of_length_eq_zero HPl.out
                have hnx := HNx.out
                rw [if_pos hpe] at hnx
                have HNx := Lib.hid hnx
                have HOr := Lib.hid (HOrd.out hpe)
                clear hpe hnx HOrd HPl
                go_wp2_with fail
                refine HLf.out.mono ?_
                rintro e w' ⟨rfl, rfl⟩
                go_wp2_with fail
                refine HNe.out.mono ?_
                rintro e w5 ⟨rfl, hsc, hU5⟩
                have S5 := Lib.hid (S0.out.step hU5 hsc hgeo1 hgeo2 hgeo3)
                have hs5 := hU5.size
                have q1 := S5.out.lf.nat v (by omega)
                obtain ⟨y, hy⟩ : ∃ y, left.getD v 0 = y + 1 := ⟨left.getD v 0 - 1, by omega⟩
                rw [hy, show ((y + 1 : Nat) : Int) = (y : Int) + 1 by omega] at q1
                have hyz : (((y : Int) + 1) == 0) = false := by simp; omega
                have HY : Hid (left.getD v 0 - 1 = y) := Lib.hid (by omega)
                have hy9 : y ≤ 220 := by have h1 := getD_le_sum left v; have h2 := HFa.out.sum; omega
                have hv0 : ¬ (v : Int) < 0 := by omega
                have hvj : ¬ j ≤ v := by omega
                have HY1 := Lib.hid hy
                clear hU5 hsc S0 HLf HNe HFa hy hpos HWho
                obtain ⟨z, hz⟩ : ∃ z, since.getD v 0 = z := ⟨_, rfl⟩
                have q6 := S5.out.si.nat v (by omega)
                rw [hz] at q6
                have HZ := Lib.hid hz
                clear hz
                go_upto_if 127 with (fail)
                go_cut [] from 128 to 153 (fun wx => Hid (Kept w5 wx))
                case first =>
                  by_cases hz0 : z = 0
                  · subst hz0
                    go_wp2_with fail
                    go_meet
                    case rel => exact Lib.hid (Upd.refl _ _)
                  · have hz1 : 0 < z := by omega
                    have hz2 : (0 : Int) < (z : Int) := by omega
                    go_wp2_with fail
                    go_loopw [129] (fun i wr => ∃ c : Nat, i = .int .i64 (c : Int) ∧ c ≤ j ∧ Hid (Kept w5 wr)) (fun i _ => j - (intOf i).toNat)
                    case atStart => exact ⟨0, rfl, by omega, Lib.hid (Upd.refl _ _)⟩
                    case round =>
                      obtain ⟨c, rfl, hc, HKc⟩ := hrel
                      by_cases hlt5 : c < j
                      · have c0 : (0 : Int) ≤ (c : Int) := by omega
                        have c1 : (c : Int) < (j : Int) := by omega
                        have r1 := (S5.out.lf.kept HKc.out).nat c (by omega)
                        have r2 := (S5.out.si.kept HKc.out).nat c (by omega)
                        have r3 := (S5.out.si.kept HKc.out).nat v (by omega)
                        rw [HZ.out] at r3
                        have hoc := HOr.out c hlt5
                        rw [HZ.out] at hoc
                        obtain ⟨lc, hlc⟩ : ∃ lc, left.getD c 0 = lc := ⟨_, rfl⟩
                        obtain ⟨sc, hsc'⟩ : ∃ sc, since.getD c 0 = sc := ⟨_, rfl⟩
                        rw [hlc] at r1 hoc
                        rw [hsc'] at r2 hoc
                        have HK2 : ∀ nq, Hid (Kept w5 (wr.drewN nq)) := fun nq => Lib.hid (HKc.out.trans ⟨rfl, rfl, rfl, Nat.le_refl _, fun _ _ _ => rfl⟩)
                        have v0 : (0 : Int) ≤ (v : Int) := by omega
                        clear hlc hsc'
                        by_cases hcv : c = v
                        · subst hcv
                          go_wp2_with fail
                          go_quiet (fail)
                          have HK3 := HK2 nq
                          clear HK2 HKc
                          go_wp2_with fail
                          go_roundw
                          case rel => exact ⟨c + 1, by go_num, by omega, HK3⟩
                          case measure => simp [intOf]; omega
                        · have hne : ((c : Int) != (v : Int)) = true := by simp; omega
                          by_cases hlc0 : lc = 0
                          · subst hlc0
                            go_wp2_with fail
                            go_quiet (fail)
                            have HK3 := HK2 nq
                            clear HK2 HKc
                            go_wp2_with fail
                            go_roundw
                            case rel => exact ⟨c + 1, by go_num, by omega, HK3⟩
                            case measure => simp [intOf]; omega
                          · have hl1 : 0 < lc := by omega
                            have hzc : z ≤ sc := hoc hl1
                            have hl2 : decide ((0 : Int) < (lc : Int)) = true := by simp; omega
                            have hz3 : decide ((sc : Int) < (z : Int)) = false := by simp; omega
                            have hz4 : decide (sc < z) = false := by simp; omega
                            clear hoc
                            go_wp2_with fail
                            go_quiet (fail)
                            have HK3 := HK2 nq
                            clear HK2 HKc
                            go_wp2_with fail
                            go_roundw
                            case rel => exact ⟨c + 1, by go_num, by omega, HK3⟩
                            case measure => simp [intOf]; omega
                      · go_wp2_with fail
                        go_meet
                        case rel => exact HKc
                case rest =>
                  have S6 := Lib.hid (S5.out.kept hcut.out)
                  have hs6 := hcut.out.size
                  have h7 := S6.out.told v (x + 1) hgeo1 hgeo2 (by omega) (fun k hk => hk.2)
                  rw [show ((x + 1 : Nat) : Int) = (x : Int) + 1 by omega] at h7
                  have S7 := Lib.hid h7
                  have q6 := S6.out.si.nat v (by omega)
                  have g6 := S6.out.si.free v
                  have hca : ¬ wd.heap.size = w2.heap.size := by omega
                  have hac : ¬ w2.heap.size = wd.heap.size := by omega
                  have hcb : ¬ wd.heap.size = wl.heap.size := by omega
                  have hbc : ¬ wl.heap.size = wd.heap.size := by omega
                  clear h7 S5 hcut
                  have q1 := S6.out.lf.nat v (by omega)
                  rw [HY1.out, show ((y + 1 : Nat) : Int) = (y : Int) + 1 by omega] at q1
                  have g1 := S6.out.lf.free v
                  have hab : ¬ wl.heap.size = w2.heap.size := by omega
                  have hba : ¬ w2.heap.size = wl.heap.size := by omega
                  by_cases hy0 : y = 0
                  · subst hy0
                    have q1 : _ = some (Value.int .i64 1) := q1
                    have S9 := Lib.hid (S7.out.last v hgeo1 hgeo2 (by omega) (fun k hk => hk.2))
                    have hdl : v < left.length := by omega
                    obtain ⟨z2, q2⟩ := flags_at left v hdl
                    have q3 : wc.cell? ⟨wl.heap.size, v, none⟩ = some (.bool z2) := by rw [S6.out.dn.cell]; exact q2
                    have f3 := S6.out.dn.free v
                    have HNx2 : Hid (Fair j (s.step (doneOf left)) (left.set v 0) (since.set v (x + 1)) (x + 1) al) := Lib.hid (by have := HNx.out; rw [HY.out] at this; exact this)
                    clear S6 S7 HNx q2
                    go_wp2_with fail
                    go_roundw
                    case rel => exact ⟨x + 1, _, _, _, by go_num, by omega, HNx2, S9, Lib.hid (by simp; omega)⟩
                    case measure => simp [intOf]; omega
                  · have S9 := Lib.hid (S7.out.one v y (by omega) (by have := HY1.out; omega) (by omega) hgeo1 hgeo2 (by omega) (fun k hk => hk.2))
                    have hy1 : ((y : Int) == 0) = false := by simp; omega
                    have HNx2 : Hid (Fair j (s.step (doneOf left)) (left.set v y) (since.set v (x + 1)) (x + 1) al) := Lib.hid (by have := HNx.out; rw [HY.out] at this; exact this)
                    clear S6 S7 HNx
                    go_wp2_with fail
                    go_roundw
                    case rel => exact ⟨x + 1, _, _, _, by go_num, by omega, HNx2, S9, Lib.hid (by simp; omega)⟩
                    case measure => simp [intOf]; omega
              · have hp1 : 0 < p := by omega
                have hpe : ¬ s.picks = [] := fun e => by have := HPl.out; rw [e] at this; simp at this; omega
                have hnx := HNx.out
                rw [if_neg hpe] at hnx
                have HNx := Lib.hid hnx
                clear hpe hnx HOrd HPl
                go_wp2_with fail
                refine HLf.out.mono ?_
                rintro e w' ⟨rfl, rfl⟩
                go_wp2_with fail
                refine HNe.out.mono ?_
                rintro e w5 ⟨rfl, hsc, hU5⟩
                have S5 := Lib.hid (S0.out.step hU5 hsc hgeo1 hgeo2 hgeo3)
                have hs5 := hU5.size
                have q1 := S5.out.lf.nat v (by omega)
                obtain ⟨y, hy⟩ : ∃ y, left.getD v 0 = y + 1 := ⟨left.getD v 0 - 1, by omega⟩
                rw [hy, show ((y + 1 : Nat) : Int) = (y : Int) + 1 by omega] at q1
                have hyz : (((y : Int) + 1) == 0) = false := by simp; omega
                have HY : Hid (left.getD v 0 - 1 = y) := Lib.hid (by omega)
                have hy9 : y ≤ 220 := by have h1 := getD_le_sum left v; have h2 := HFa.out.sum; omega
                have hv0 : ¬ (v : Int) < 0 := by omega
                have hvj : ¬ j ≤ v := by omega
                have HY1 := Lib.hid hy
                clear hU5 hsc S0 HLf HNe HFa hy hpos HWho
                have q1 := S5.out.lf.nat v (by omega)
                rw [HY1.out, show ((y + 1 : Nat) : Int) = (y : Int) + 1 by omega] at q1
                have g1 := S5.out.lf.free v
                have hab : ¬ wl.heap.size = w2.heap.size := by omega
                have hba : ¬ w2.heap.size = wl.heap.size := by omega
                by_cases hy0 : y = 0
                · subst hy0
                  have q1 : _ = some (Value.int .i64 1) := q1
                  have S9 := Lib.hid (S5.out.last v hgeo1 hgeo2 (by omega) (fun k hk => hk.2))
                  have hdl : v < left.length := by omega
                  obtain ⟨z2, q2⟩ := flags_at left v hdl
                  have q3 : w5.cell? ⟨wl.heap.size, v, none⟩ = some (.bool z2) := by rw [S5.out.dn.cell]; exact q2
                  have f3 := S5.out.dn.free v
                  have HNx2 : Hid (Fair j (s.step (doneOf left)) (left.set v 0) since (x + 1) al) := Lib.hid (by have := HNx.out; rw [HY.out] at this; exact this)
                  clear S5 HNx q2
                  go_wp2_with fail
                  go_roundw
                  case rel => exact ⟨x + 1, _, _, _, by go_num, by omega, HNx2, S9, Lib.hid (by simp; omega)⟩
                  case measure => simp [intOf]; omega
                · have S9 := Lib.hid (S5.out.one v y (by omega) (by have := HY1.out; omega) (by omega) hgeo1 hgeo2 (by omega) (fun k hk => hk.2))
                  have hy1 : ((y : Int) == 0) = false := by simp; omega
                  have HNx2 : Hid (Fair j (s.step (doneOf left)) (left.set v y) since (x + 1) al) := Lib.hid (by have := HNx.out; rw [HY.out] at this; exact this)
                  clear S5 HNx
                  go_wp2_with fail
                  go_roundw
                  case rel => exact ⟨x + 1, _, _, _, by go_num, by omega, HNx2, S9, Lib.hid (by simp; omega)⟩
                  case measure => simp [intOf]; omega
            · have hx2 : ¬ (x : Int) + 1 ≤ (al : Int) := by omega
              have hw0 : s.who (doneOf left) = none := by
                have hs := HFa.out.sum
                have hz : left.sum = 0 := by omega
                unfold SS.who
                rw [HFa.out.tl]
                refine whoAt_none fun i hi => ?_
                have hlt := Nat.mod_lt (fromOf j s.last s.picks + i) (show 0 < j by omega)
                rw [doneOf_getD left _ (by omega)]
                exact sum_zero_inv left hz _
              have HNo := Lib.hid (Next_noneN S0.out.sc (fun z hz => by omega) (some ⟨wl.heap.size, 0, none⟩) j j (doneOf left) (by simp [doneOf, hll]) (by have := S0.out.dn; rw [flags_done] at this; exact Rd.blk this) (fun b off e _ f => by cases e; omega) (by omega) hw0)
              clear hw0
              go_wp2_with fail
              refine HNo.out.mono ?_
              rintro e w5 ⟨rfl, hk⟩
              have HKf := Lib.hid (S0.out.kp.trans hk)
              clear hk HNo S0
              go_wp2_with fail
              refine (awake_any _).mono ?_
              rintro e w6 ⟨rfl, hk6⟩
              go_wp2
              go_ret
              exact ⟨rfl, HKf.out.trans hk6⟩
end Go.Proofs.Ytacacnjpfflbnaa
