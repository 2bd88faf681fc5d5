/- The law SchedAgain. -/
import Derived.Test.YtacacnjpfflbnaaTwo
namespace Go.Proofs.Ytacacnjpfflbnaa
set_option linter.unusedVariables false
open Go.RowKit

theorem tell_told_length (s : SS) (v : Nat) (dl : List Bool) : (s.tell v dl).told.length = s.told.length := by unfold SS.tell; split <;> simp
theorem step_told_length (s : SS) (dl : List Bool) : (s.step dl).told.length = s.told.length := by unfold SS.step; split; exact tell_told_length _ _ _; rfl
theorem tell_picks (s : SS) (v : Nat) (dl : List Bool) : (s.tell v dl).picks = s.picks.tail := by unfold SS.tell; split <;> rfl
theorem who_nil (s : SS) (h : 0 < s.told.length) : s.who [] = some (fromOf s.told.length s.last s.picks) := by
  have h1 := whoAt_some (n := s.told.length) (fr := fromOf s.told.length s.last s.picks) (dl := []) 0 h (fun j hj => by omega) rfl
  unfold SS.who
  rw [h1, Nat.add_zero, Nat.mod_eq_of_lt (fromOf_lt _ _ _ h)]
theorem who_all (s : SS) : s.who (List.replicate s.told.length true) = none := by
  refine whoAt_none fun j hj => ?_
  have : (fromOf s.told.length s.last s.picks + j) % s.told.length < s.told.length := Nat.mod_lt _ (by omega)
  simp [this]

/-- Two scripts whose picks mean the same workers. -/
structure Sim (a b : SS) : Prop where
  last : a.last = b.last
  told : a.told = b.told
  ended : a.ended = b.ended
  len : a.picks.length = b.picks.length
  picks : ∀ i, a.picks.getD i 0 % (a.told.length : Int) = b.picks.getD i 0 % (a.told.length : Int)
theorem Sim.from {a b : SS} (h : Sim a b) : fromOf a.told.length a.last a.picks = fromOf b.told.length b.last b.picks := by
  have h0 := h.picks 0
  have hl := h.len
  rw [← h.told, ← h.last]
  cases ha : a.picks with
  | nil => rw [ha] at hl; rw [List.eq_nil_of_length_eq_zero hl.symm]
  | cons x xs =>
    cases hb : b.picks with
    | nil => rw [ha, hb] at hl; simp at hl
    | cons y ys =>
      rw [ha, hb] at h0
      simp at h0
      simp only [fromOf]
      rw [h0]
theorem Sim.step {a b : SS} (h : Sim a b) (hn : 0 < a.told.length) : Sim (a.step []) (b.step []) := by
  have hb : 0 < b.told.length := by rw [← h.told]; exact hn
  unfold SS.step
  rw [who_nil a hn, who_nil b hb]
  simp only
  rw [← h.from]
  generalize fromOf a.told.length a.last a.picks = v
  have hp : ∀ i, a.picks.tail.getD i 0 % (a.told.length : Int) = b.picks.tail.getD i 0 % (a.told.length : Int) := fun i => by
    have := h.picks (i + 1)
    simpa using this
  have hl : a.picks.tail.length = b.picks.tail.length := by simp [h.len]
  have hL := tell_told_length a v []
  refine ⟨?_, ?_, ?_, ?_, ?_⟩
  · unfold SS.tell; rw [← h.told]; split <;> rfl
  · unfold SS.tell; rw [← h.told]; split <;> rfl
  · unfold SS.tell; rw [← h.told, ← h.ended]; split <;> rfl
  · rw [tell_picks, tell_picks]; exact hl
  · rw [hL, tell_picks, tell_picks]; exact hp

/-- A pick, moved. -/
def two (bys : List Int) (n : Int) (i : Nat) (p : Int) : Int := if i < bys.length then p.tmod 1099511627776 + bys.getD i 0 * n else p.tmod 1099511627776
def ones (ps : List Int) : Nat → List Int
  | 0 => []
  | k + 1 => ones ps k ++ [(ps.getD k 0).tmod 1099511627776]
def twos (ps bys : List Int) (n : Int) : Nat → List Int
  | 0 => []
  | k + 1 => twos ps bys n k ++ [two bys n k (ps.getD k 0)]
theorem ones_length (ps : List Int) : ∀ k, (ones ps k).length = k
  | 0 => rfl
  | k + 1 => by simp [ones, ones_length ps k]
theorem twos_length (ps bys : List Int) (n : Int) : ∀ k, (twos ps bys n k).length = k
  | 0 => rfl
  | k + 1 => by simp [twos, twos_length ps bys n k]
theorem two_mod (bys : List Int) (n : Int) (i : Nat) (p : Int) : two bys n i p % n = p.tmod 1099511627776 % n := by
  unfold two
  split
  · rw [Int.add_mul_emod_self_right]
  · rfl
theorem ones_twos (ps bys : List Int) (n : Int) : ∀ k i, (ones ps k).getD i 0 % n = (twos ps bys n k).getD i 0 % n
  | 0, i => rfl
  | k + 1, i => by
    have h := ones_twos ps bys n k i
    simp only [ones, twos, List.getD_eq_getElem?_getD] at h ⊢
    by_cases h1 : i < k
    · rw [List.getElem?_append_left (by rw [ones_length]; exact h1), List.getElem?_append_left (by rw [twos_length]; exact h1)]
      exact h
    · rw [List.getElem?_append_right (by rw [ones_length]; omega), List.getElem?_append_right (by rw [twos_length]; omega), ones_length, twos_length]
      by_cases h2 : i = k
      · subst h2
        simp only [Nat.sub_self]
        exact (two_mod bys n i _).symm
      · rw [List.getElem?_eq_none (by simp; omega), List.getElem?_eq_none (by simp; omega)]

/-- The law's first loop. -/
structure SA1 (w wr : World) (v1 v2 : Value) (k : Nat) (ps bys : List Int) (n : Int) : Prop where
  two : Two w.heap.size wr v1 v2 k k ((ones ps k).map (Value.int .i64)) ((twos ps bys n k).map (Value.int .i64))
  kp : Kept w wr

set_option maxRecDepth 100000 in
set_option maxHeartbeats 8000000 in
theorem schedAgain_walk (a0 : Int) (s1 : Option Addr) (cap1 : Nat) (z1 : List Int) (s2 : Option Addr) (cap2 : Nat) (z2 : List Int) (a3 : Int) (w : World) (w0 : (Lit.int .u8 a0).wf = true) (w1 : IntRow .i64 w s1 cap1 z1) (_m1 : ∀ n ∈ z1, (Lit.int .i64 n).wf = true) (w2 : IntRow .i8 w s2 cap2 z2) (m2 : ∀ n ∈ z2, (Lit.int .i8 n).wf = true) (w3 : (Lit.int .u8 a3).wf = true) :
    Calls Try.prog 4 #[.int .u8 a0, .slice s1 z1.length cap1, .slice s2 z2.length cap2, .int .u8 a3] w fun e w' => e = .returned (.bool true) ∧ Kept w w' := by
  obtain ⟨i0, hi, hz0, hz1, hz2⟩ := info_parts infoInt
  have b0 := bounds_u8 w0
  have b3 := bounds_u8 w3
  obtain ⟨N, hN⟩ := Int.eq_ofNat_of_zero_le (show 0 ≤ 1 + a0 % 20 by omega)
  obtain ⟨M, hM⟩ := Int.eq_ofNat_of_zero_le (show 0 ≤ a3 % 151 by omega)
  have hN1 : 1 ≤ N := by omega
  have hN2 : N ≤ 20 := by omega
  have hM1 : M ≤ 150 := by omega
  obtain ⟨K, hK⟩ : ∃ K, K = min z1.length 60 := ⟨_, rfl⟩
  have hK1 : K ≤ z1.length := by omega
  have hK2 : K ≤ 60 := by omega
  have hle := w1.le
  have hmost := w1.most
  have hsl := fun w => run_take (P := Try.prog) Try.underlying22 (size := 1) (by kernel_rfl) s1 z1.length cap1 K (by omega) w
  have hif1 : (if (60 : Int) < (z1.length : Int) then (60 : Int) else (z1.length : Int)) = (K : Int) := by split <;> omega
  have hif2 : (if 60 < z1.length then (60 : Int) else (z1.length : Int)) = (K : Int) := by split <;> omega
  have hmk := fun w => make_one (P := Try.prog) (t := 28) (e := 4) (z := .bool false) (v := .bool false) (bytes := 1) Try.underlying28 (by kernel_rfl) rfl .i64 N (by omega) (by omega) w
  unfold maxLen at hmost
  have HR1 := Lib.hid w1.rd
  have HR2 := Lib.hid w2.rd
  have HB2 : Hid (∀ i, i < z2.length → -128 ≤ z2.getD i 0 ∧ z2.getD i 0 ≤ 127) := Lib.hid fun i hi => by
    have := m2 (z2.getD i 0) (by simp [hi])
    have := bounds_i8 this
    omega
  have HKm := Lib.hid hK
  clear w0 w1 w2 w3 _m1 m2 hK
  go_enter Try.func4, Try.ntmps4
  go_wp2_with fail
  go_loopw [10, 11, 39] (fun v1 v2 i wr => ∃ k : Nat, i = .int .i64 k ∧ k ≤ K ∧ Hid (SA1 w wr v1 v2 k z1 z2 (N : Int))) (fun _ _ i _ => K - (intOf i).toNat)
  case atStart => exact ⟨0, rfl, by omega, Lib.hid ⟨⟨World.ownsRow_nil _ _ _ _, World.ownsRow_nil _ _ _ _, fun j h => by cases h⟩, Upd.refl _ _⟩⟩
  case round =>
    obtain ⟨k, rfl, hk, S0⟩ := hrel
    by_cases hlt : k < K
    · obtain ⟨b, off, rfl, hc1⟩ := HR1.out.at k (by simp; omega)
      have c1 : wr.cell? ⟨b, off + k, none⟩ = some (.int .i64 (z1.getD k 0)) := (keptCells S0.out.kp _ (by rw [hc1]; simp; omega)).trans (by rw [hc1]; simp [show k < z1.length by omega])
      have hq1 := Int.lt_tmod_of_pos (z1.getD k 0) (show (0 : Int) < 1099511627776 by omega)
      have hq2 := Int.tmod_lt_of_pos (z1.getD k 0) (show (0 : Int) < 1099511627776 by omega)
      obtain ⟨p, hp⟩ : ∃ p, z1.getD k 0 = p := ⟨_, rfl⟩
      rw [hp] at c1 hq1 hq2
      have HP := Lib.hid hp
      have hsz := S0.out.kp.size
      have hkz : (k : Int) < (z1.length : Int) := by omega
      clear hp hc1
      by_cases hby : k < z2.length
      · obtain ⟨b', off', rfl, hc2⟩ := HR2.out.at k (by simpa using hby)
        have hbb := HB2.out k hby
        have c2 : w.cell? ⟨b', off' + k, none⟩ = some (.int .i8 (z2.getD k 0)) := by rw [hc2]; simp [hby]
        obtain ⟨y, hy⟩ : ∃ y, z2.getD k 0 = y := ⟨_, rfl⟩
        rw [hy] at hbb c2
        have hm1 : y * (N : Int) ≤ 127 * 20 := by
          have h1 : y * (N : Int) ≤ 127 * (N : Int) := Int.mul_le_mul_of_nonneg_right hbb.2 (by omega)
          omega
        have hm2 : -2560 ≤ y * (N : Int) := by
          have h1 : -128 * (N : Int) ≤ y * (N : Int) := Int.mul_le_mul_of_nonneg_right hbb.1 (by omega)
          omega
        have HT : Hid (two z2 (N : Int) k (z1.getD k 0) = p.tmod 1099511627776 + y * (N : Int)) := Lib.hid (by unfold two; rw [if_pos hby, HP.out, hy])
        obtain ⟨hb1, hb2⟩ := hbb
        have HC2 := Lib.hid c2
        clear hc2 hy c2
        go_wp2_with (at_builtin; refine wpList_append_own_at _ rfl _ _ 22 rfl w.heap.size 3 i0 (.int .i64 0) 1 8 Try.underlying22 hi hz0 hz1 hz2 rfl (by decide) _ _ _ rfl (S0.out.two.o1.alloc _) ⟨_, 0, none⟩ 1 1 [.int .i64 (p.tmod 1099511627776)] rfl rfl ?c1 ?c2 ?c3 ?c4 ?c5 ?_)
        case c1 => exact cell_one_new _ _ _
        case c2 => simp [Value.oneCell']
        case c3 => unfold maxLen; omega
        case c4 => omega
        case c5 => simp; omega
        intro v1 wA hown hgrow hnil hat
        have hT1 := (S0.out.two.alloc (.cells #[.int .i64 (p.tmod 1099511627776)] 3)).add1 hown hgrow (by simpa using hat)
        have hK1 : Kept w wA := (S0.out.kp.alloc (.cells #[.int .i64 (p.tmod 1099511627776)] 3)).grown hgrow (fun j hj => .inr (World.ownsRow.lt S0.out.two.o1 j hj).1)
        have e1 : (ones z1 k).map (Value.int .i64) ++ [.int .i64 (p.tmod 1099511627776)] = (ones z1 (k + 1)).map (Value.int .i64) := by simp only [ones, List.map_append, List.map_cons, List.map_nil, HP.out]
        have e2 : (twos z1 z2 (N : Int) k).map (Value.int .i64) ++ [.int .i64 ((p.tmod 1099511627776 + y * (N : Int)))] = (twos z1 z2 (N : Int) (k + 1)).map (Value.int .i64) := by simp only [twos, List.map_append, List.map_cons, List.map_nil, HT.out]
        rw [e1] at hT1
        have HT1 := Lib.hid hT1
        have HK1 := Lib.hid hK1
        have HE2 := Lib.hid e2
        have hsA := hK1.size
        have c2 := (keptCells hK1 _ (by rw [HC2.out]; rfl)).trans HC2.out
        clear hT1 hK1 e1 e2 hown hgrow hnil hat S0
        go_wp2_with (at_builtin; refine wpList_append_own_at _ rfl _ _ 22 rfl w.heap.size 3 i0 (.int .i64 0) 1 8 Try.underlying22 hi hz0 hz1 hz2 rfl (by decide) _ _ _ rfl (HT1.out.o2.alloc _) ⟨_, 0, none⟩ 1 1 [.int .i64 (p.tmod 1099511627776 + y * (N : Int))] rfl rfl ?c1 ?c2 ?c3 ?c4 ?c5 ?_)
        case c1 => exact cell_one_new _ _ _
        case c2 => simp [Value.oneCell']
        case c3 => unfold maxLen; omega
        case c4 => omega
        case c5 => simp; omega
        intro v2 wB hown hgrow hnil hat
        have HS2 : Hid (SA1 w wB v1 v2 (k + 1) z1 z2 (N : Int)) := by
          apply Lib.hid
          have hT2 := (HT1.out.alloc (.cells #[.int .i64 ((p.tmod 1099511627776 + y * (N : Int)))] 3)).add2 hown hgrow (by simpa using hat)
          rw [HE2.out] at hT2
          exact ⟨hT2, (HK1.out.alloc (.cells #[.int .i64 ((p.tmod 1099511627776 + y * (N : Int)))] 3)).grown hgrow (fun j hj => .inr (World.ownsRow.lt HT1.out.o2 j hj).1)⟩
        clear HT1 HK1 HE2 hown hgrow hnil hat HP HT
        go_wp2_with fail
        go_roundw
        case rel => exact ⟨k + 1, by go_num, by omega, HS2⟩
        case measure => simp [intOf]; omega
      · have HT : Hid (two z2 (N : Int) k (z1.getD k 0) = p.tmod 1099511627776) := Lib.hid (by unfold two; rw [if_neg hby, HP.out])
        have hkz2 : ¬ k < z2.length := hby
        go_wp2_with (at_builtin; refine wpList_append_own_at _ rfl _ _ 22 rfl w.heap.size 3 i0 (.int .i64 0) 1 8 Try.underlying22 hi hz0 hz1 hz2 rfl (by decide) _ _ _ rfl (S0.out.two.o1.alloc _) ⟨_, 0, none⟩ 1 1 [.int .i64 (p.tmod 1099511627776)] rfl rfl ?c1 ?c2 ?c3 ?c4 ?c5 ?_)
        case c1 => exact cell_one_new _ _ _
        case c2 => simp [Value.oneCell']
        case c3 => unfold maxLen; omega
        case c4 => omega
        case c5 => simp; omega
        intro v1 wA hown hgrow hnil hat
        have hT1 := (S0.out.two.alloc (.cells #[.int .i64 (p.tmod 1099511627776)] 3)).add1 hown hgrow (by simpa using hat)
        have hK1 : Kept w wA := (S0.out.kp.alloc (.cells #[.int .i64 (p.tmod 1099511627776)] 3)).grown hgrow (fun j hj => .inr (World.ownsRow.lt S0.out.two.o1 j hj).1)
        have e1 : (ones z1 k).map (Value.int .i64) ++ [.int .i64 (p.tmod 1099511627776)] = (ones z1 (k + 1)).map (Value.int .i64) := by simp only [ones, List.map_append, List.map_cons, List.map_nil, HP.out]
        have e2 : (twos z1 z2 (N : Int) k).map (Value.int .i64) ++ [.int .i64 ((p.tmod 1099511627776))] = (twos z1 z2 (N : Int) (k + 1)).map (Value.int .i64) := by simp only [twos, List.map_append, List.map_cons, List.map_nil, HT.out]
        rw [e1] at hT1
        have HT1 := Lib.hid hT1
        have HK1 := Lib.hid hK1
        have HE2 := Lib.hid e2
        have hsA := hK1.size
        clear hT1 hK1 e1 e2 hown hgrow hnil hat S0
        go_wp2_with (at_builtin; refine wpList_append_own_at _ rfl _ _ 22 rfl w.heap.size 3 i0 (.int .i64 0) 1 8 Try.underlying22 hi hz0 hz1 hz2 rfl (by decide) _ _ _ rfl (HT1.out.o2.alloc _) ⟨_, 0, none⟩ 1 1 [.int .i64 (p.tmod 1099511627776)] rfl rfl ?c1 ?c2 ?c3 ?c4 ?c5 ?_)
        case c1 => exact cell_one_new _ _ _
        case c2 => simp [Value.oneCell']
        case c3 => unfold maxLen; omega
        case c4 => omega
        case c5 => simp; omega
        intro v2 wB hown hgrow hnil hat
        have HS2 : Hid (SA1 w wB v1 v2 (k + 1) z1 z2 (N : Int)) := by
          apply Lib.hid
          have hT2 := (HT1.out.alloc (.cells #[.int .i64 ((p.tmod 1099511627776))] 3)).add2 hown hgrow (by simpa using hat)
          rw [HE2.out] at hT2
          exact ⟨hT2, (HK1.out.alloc (.cells #[.int .i64 ((p.tmod 1099511627776))] 3)).grown hgrow (fun j hj => .inr (World.ownsRow.lt HT1.out.o2 j hj).1)⟩
        clear HT1 HK1 HE2 hown hgrow hnil hat HP HT
        go_wp2_with fail
        go_roundw
        case rel => exact ⟨k + 1, by go_num, by omega, HS2⟩
        case measure => simp [intOf]; omega
    · obtain rfl : k = K := by omega
      obtain ⟨wl, rfl⟩ : ∃ wl : World, wl = wr := ⟨_, rfl⟩
      have hL := S0.out.kp.size
      obtain ⟨g1, c1, rfl, hs1⟩ := Sl.owns S0.out.two.o1
      obtain ⟨g2, c2, rfl, hs2⟩ := Sl.owns S0.out.two.o2
      have HL1 : Hid (∀ j, Value.ownBlock (.slice g1 k c1) = some j → w.heap.size ≤ j ∧ j < wl.heap.size) := Lib.hid fun j h => World.ownsRow.lt S0.out.two.o1 j h
      have HL2 : Hid (∀ j, Value.ownBlock (.slice g2 k c2) = some j → w.heap.size ≤ j ∧ j < wl.heap.size) := Lib.hid fun j h => World.ownsRow.lt S0.out.two.o2 j h
      have HS1 := Lib.hid hs1.rd
      have HS2 := Lib.hid hs2.rd
      obtain ⟨A0, hA0⟩ : ∃ A0 : SS, A0 = ⟨ones z1 k, N - 1, List.replicate N false, 0⟩ := ⟨_, rfl⟩
      obtain ⟨B0, hB0⟩ : ∃ B0 : SS, B0 = ⟨twos z1 z2 (N : Int) k, N - 1, List.replicate N false, 0⟩ := ⟨_, rfl⟩
      have HSim : Hid (Sim A0 B0 ∧ A0.told.length = N ∧ A0.picks.length = k ∧ A0.ended = 0) := by
        apply Lib.hid
        subst hA0 hB0
        exact ⟨⟨rfl, rfl, rfl, by simp only [ones_length, twos_length], fun i => by simp only [List.length_replicate]; exact ones_twos _ _ _ k i⟩, by simp, by simp only [ones_length], rfl⟩
      clear hs1 hs2
      go_wp2_with fail
      refine (New_okN N g1 c1 k (ones z1 k) wl (ones_length _ _) hN1 (by omega) HS1.out (by omega)).mono ?_
      rintro e w2 ⟨sa, ta, rfl, hS, ha, hta, hk2⟩
      rw [← hA0] at hS
      have HA2 := Lib.hid hS
      have HT2 := Lib.hid (S0.out.two.kept hk2)
      have HK2 := Lib.hid (S0.out.kp.trans hk2)
      have HS2b := Lib.hid (HS2.out.kept hk2)
      have hs2 := hk2.size
      have l1 := HA2.out.lt
      clear hS hk2 S0 HS1 HS2 hA0
      go_wp2_with fail
      refine (New_okN N g2 c2 k (twos z1 z2 (N : Int) k) w2 (twos_length _ _ _ _) hN1 (by omega) HS2b.out (by omega)).mono ?_
      rintro e w3 ⟨sb, tb, rfl, hS, hb, htb, hk3⟩
      rw [← hB0] at hS
      have HA3 := Lib.hid (HA2.out.kept hk3)
      have HB3 := Lib.hid hS
      have HT3 := Lib.hid (HT2.out.kept hk3)
      have HK3 := Lib.hid (HK2.out.trans hk3)
      have hs3 := hk3.size
      have l2 := HB3.out.lt
      clear hS hk3 HA2 HT2 HK2 HS2b hB0
      go_wp2_with fail
      go_loopw [88] (fun i wx => ∃ j : Nat, i = .int .i64 j ∧ j ≤ k ∧ Hid (∃ xs ys, Two w.heap.size wx (.slice g1 k c1) (.slice g2 k c2) k k xs ys) ∧ Hid (Sc wx (fun x => wl.heap.size ≤ x ∧ x < w2.heap.size) sa ta A0) ∧ Hid (Sc wx (fun x => w2.heap.size ≤ x ∧ x < w3.heap.size) sb tb B0) ∧ Hid (Upd (fun x => w.heap.size ≤ x) w wx) ∧ Hid (w3.heap.size ≤ wx.heap.size)) (fun i _ => k - (intOf i).toNat)
      case atStart => exact ⟨0, rfl, by omega, Lib.hid ⟨_, _, HT3.out⟩, HA3, HB3, Lib.hid (HK3.out.wide (fun _ _ f => f.elim)), Lib.hid (Nat.le_refl _)⟩
      case round =>
        obtain ⟨j, rfl, hj, HT, HA, HB, HU, HZ⟩ := hrel
        clear HA3 HB3 HT3 HK3
        by_cases hlt2 : j < k
        · obtain ⟨xs, ys, hT⟩ := HT.out
          obtain ⟨ga, rfl⟩ := own_addr hT.o1 (by omega)
          obtain ⟨gb, rfl⟩ := own_addr hT.o2 (by omega)
          have hla := HL1.out ga rfl
          have hlb := HL2.out gb rfl
          obtain ⟨q1, f1⟩ := own_cell hT.o1 j hlt2
          have hxl : xs.length = k := by simpa using hT.o1.1
          rw [List.getElem?_eq_getElem (by omega)] at q1
          have hT1 := hT.set1 j (.int .i64 7)
          obtain ⟨q2, f2⟩ := own_cell hT1.o2 j hlt2
          have hyl : ys.length = k := by simpa using hT.o2.1
          rw [List.getElem?_eq_getElem (by omega)] at q2
          have hT2 := hT1.set2 j (.int .i64 8)
          generalize xs[j]'(by omega) = y1 at q1
          generalize ys[j]'(by omega) = y2 at q2
          have hU2 : Upd (fun x => x = ga ∨ x = gb) wr ((wr.setCell ⟨ga, j, none⟩ (.int .i64 7)).setCell ⟨gb, j, none⟩ (.int .i64 8)) := ((updCell wr ga j (.int .i64 7)).wide (fun _ _ e => .inl e)).trans ((updCell _ gb j (.int .i64 8)).wide (fun _ _ e => .inr e))
          have HT2 : Hid (∃ xs ys, Two w.heap.size ((wr.setCell ⟨ga, j, none⟩ (.int .i64 7)).setCell ⟨gb, j, none⟩ (.int .i64 8)) (.slice (some ⟨ga, 0, none⟩) k c1) (.slice (some ⟨gb, 0, none⟩) k c2) k k xs ys) := Lib.hid ⟨_, _, hT2⟩
          have HA2 := Lib.hid (HA.out.upd hU2 (fun e => by omega) (fun e => by omega) (fun x hx e => by omega))
          have HB2 := Lib.hid (HB.out.upd hU2 (fun e => by omega) (fun e => by omega) (fun x hx e => by omega))
          have HU2 := Lib.hid (HU.out.then hU2 (fun i hi e => by omega))
          have HZ2 : Hid (w3.heap.size ≤ ((wr.setCell ⟨ga, j, none⟩ (.int .i64 7)).setCell ⟨gb, j, none⟩ (.int .i64 8)).heap.size) := Lib.hid (Nat.le_trans HZ.out hU2.size)
          clear hT hT1 hT2 hU2 HT HA HB HU HZ
          go_wp2_with fail
          go_roundw
          case rel => exact ⟨j + 1, by go_num, by omega, HT2, HA2, HB2, HU2, HZ2⟩
          case measure => simp [intOf]; omega
        · obtain rfl : j = k := by omega
          clear HT HL1 HL2
          have HK : Hid (Kept w wr) := Lib.hid (HU.out.wide (fun x hx e => by omega))
          have HZ3 := HZ.out
          have hab := HA.out.lt
          have hbb := HB.out.lt
          obtain ⟨wm, rfl⟩ : ∃ wm : World, wm = wr := ⟨_, rfl⟩
          go_wp2_with fail
          have HKZ : w.heap.size ≤ wm.heap.size := HU.out.size
          go_loopw [102] (fun i wx => ∃ x : Nat, i = .int .i64 x ∧ x ≤ N ∧ Hid (Blk wx wm.heap.size ((filled (List.replicate N true) false x).map Value.bool).toArray 4) ∧ Hid (Sc wx (fun x => wl.heap.size ≤ x ∧ x < w2.heap.size) sa ta A0) ∧ Hid (Sc wx (fun x => w2.heap.size ≤ x ∧ x < w3.heap.size) sb tb B0) ∧ Hid (Kept w wx)) (fun i _ => N - (intOf i).toNat)
          case atStart =>
            refine ⟨0, rfl, by omega, ?_, ?_, ?_, ?_⟩
            · apply Lib.hid; rw [filled_zero, List.length_replicate, ← zeros_bools]; exact Blk.new _ _ _
            · exact Lib.hid (HA.out.kept ((Upd.refl _ _).alloc _))
            · exact Lib.hid (HB.out.kept ((Upd.refl _ _).alloc _))
            · exact Lib.hid (HK.out.alloc _)
          case round =>
            obtain ⟨x, rfl, hx, HF, HA2, HB2, HK2⟩ := hrel
            clear HA HB HK HU HZ
            by_cases hlt3 : x < N
            · have q1 := HF.out.filling (k := x) (by simpa using hlt3)
              have f1 := HF.out.free x
              have HF2 := Lib.hid (HF.out.fillT hlt3)
              have hwm : ∀ y, y < wm.heap.size → ¬ y = wm.heap.size := fun y h e => by omega
              have HA3 := Lib.hid (HA2.out.upd (updCell wr wm.heap.size x (.bool true)) (hwm _ hab.1) (hwm _ hab.2) (fun y hy => hwm y (by omega)))
              have HB3 := Lib.hid (HB2.out.upd (updCell wr wm.heap.size x (.bool true)) (hwm _ hbb.1) (hwm _ hbb.2) (fun y hy => hwm y (by omega)))
              have hkz := HKZ
              have HK3 := Lib.hid (HK2.out.setCell (p := ⟨wm.heap.size, x, none⟩) (.inr hkz) (.bool true))
              clear HF HA2 HB2 HK2 hwm
              go_wp2_with fail
              go_roundw
              case rel => exact ⟨x + 1, by go_num, by omega, HF2, HA3, HB3, HK3⟩
              case measure => simp [intOf]; omega
            · obtain rfl : x = N := by omega
              have hfl := HF.out
              rw [show filled (List.replicate x true) false x = List.replicate x true by have := filled_all (List.replicate x true) false; rwa [List.length_replicate] at this] at hfl
              have HF2 := Lib.hid hfl
              clear hfl HF
              go_wp2_with fail
              go_loopw [112] (fun i wx => ∃ (y : Nat) (A B : SS), i = .int .i64 y ∧ y ≤ M ∧ Hid (Sim A B ∧ A.told.length = x ∧ A.picks.length = j - y ∧ A.ended ≤ y ∧ B.ended ≤ y) ∧ Hid (Blk wx wm.heap.size ((List.replicate x true).map Value.bool).toArray 4) ∧ Hid (Sc wx (fun x => wl.heap.size ≤ x ∧ x < w2.heap.size) sa ta A) ∧ Hid (Sc wx (fun x => w2.heap.size ≤ x ∧ x < w3.heap.size) sb tb B) ∧ Hid (Kept w wx) ∧ Hid (wm.heap.size < wx.heap.size)) (fun i _ => M - (intOf i).toNat)
              case atStart =>
                obtain ⟨h1, h2, h3, h4⟩ := HSim.out
                exact ⟨0, A0, B0, rfl, by omega, Lib.hid ⟨h1, h2, h3, by omega, by have := h1.ended; omega⟩, HF2, HA2, HB2, HK2, Lib.hid HF2.out.lt⟩
              case round =>
                obtain ⟨y, A, B, rfl, hy, HM, HF, HA, HB, HK, HW⟩ := hrel
                clear HSim HF2 HA2 HB2 HK2 hM
                have hww := HW.out
                by_cases hlt4 : y < M
                · obtain ⟨h1, h2, h3, h4, h5⟩ := HM.out
                  have hn0 : 0 < A.told.length := by omega
                  have HNo := Lib.hid (Next_noneN HA.out (fun z hz => by omega) (some ⟨wm.heap.size, 0, none⟩) x x (List.replicate x true) (by simp) (Rd.blk HF.out) (fun b off e _ f => by cases e; omega) (by omega) (by rw [← h2]; exact who_all A))
                  have HSt : Hid (Sim (A.step []) (B.step []) ∧ (A.step []).told.length = x ∧ (A.step []).picks.length = j - (y + 1) ∧ (A.step []).ended ≤ y + 1 ∧ (B.step []).ended ≤ y + 1) := by
                    refine Lib.hid ⟨h1.step hn0, by rw [step_told_length]; exact h2, ?_, ?_, ?_⟩
                    · unfold SS.step; rw [who_nil A hn0]; simp only [tell_picks, List.length_tail]; omega
                    · have := SS.step_ended A []; omega
                    · have := SS.step_ended B []; omega
                  obtain ⟨v, hv⟩ : ∃ v, fromOf A.told.length A.last A.picks = v := ⟨_, rfl⟩
                  have HVA : Hid (A.who [] = some v) := Lib.hid (by rw [who_nil A hn0, hv])
                  have HVB : Hid (B.who [] = some v) := Lib.hid (by rw [who_nil B (by rw [← h1.told]; exact hn0), ← h1.from, hv])
                  have HL3 := Lib.hid h3
                  have HE4 := Lib.hid h4
                  have HE5 := Lib.hid h5
                  clear h1 h2 h3 h4 h5 hn0 hv HM
                  go_wp2_with fail
                  refine HNo.out.mono ?_
                  rintro e w5 ⟨rfl, hk⟩
                  have HA5 := Lib.hid (HA.out.kept hk)
                  have HB5 := Lib.hid (HB.out.kept hk)
                  have HF5 := Lib.hid (HF.out.kept hk)
                  have HK5 := Lib.hid (HK.out.trans hk)
                  have hs5 := hk.size
                  clear hk HA HB HF HK HNo HW
                  by_cases hyj : y ≤ j
                  · have HL5 := Lib.hid (Left_sc HA5.out ((j : Int) - (y : Int)) (by have := HL3.out; omega))
                    go_wp2_with fail
                    refine HL5.out.mono ?_
                    rintro e w' ⟨rfl, rfl⟩
                    have HN1 := Lib.hid (Next_nil HA5.out (fun z hz => by omega) (by have := HE4.out; omega) v HVA.out (A.step []) rfl)
                    clear HL5
                    go_wp2_with fail
                    refine HN1.out.mono ?_
                    rintro e w6 ⟨rfl, hS, hU⟩
                    have HA6 := Lib.hid hS
                    have HB6 := Lib.hid (HB5.out.upd hU (fun e => by omega) (fun e => by omega) (fun z hz e => by omega))
                    have HF6 := Lib.hid (HF5.out.upd hU (fun e => by omega))
                    have HK6 := Lib.hid (HK5.out.then hU (fun i hi e => by omega))
                    have hs6 := hU.size
                    clear hS hU HN1 HA5 HB5 HF5 HK5
                    have HN2 := Lib.hid (Next_nil HB6.out (fun z hz => by omega) (by have := HE5.out; omega) v HVB.out (B.step []) rfl)
                    go_wp2_with fail
                    refine HN2.out.mono ?_
                    rintro e w7 ⟨rfl, hS, hU⟩
                    have HA7 := Lib.hid (HA6.out.upd hU (fun e => by omega) (fun e => by omega) (fun z hz e => by omega))
                    have HB7 := Lib.hid hS
                    have HF7 := Lib.hid (HF6.out.upd hU (fun e => by omega))
                    have HK7 := Lib.hid (HK6.out.then hU (fun i hi e => by omega))
                    have HW7 : Hid (wm.heap.size < w7.heap.size) := Lib.hid (by have := hU.size; omega)
                    clear hS hU HN2 HA6 HB6 HF6 HK6
                    go_wp2_with fail
                    go_roundw
                    case rel => exact ⟨y + 1, A.step [], B.step [], by go_num, by omega, HSt, HF7, HA7, HB7, HK7, HW7⟩
                    case measure => simp [intOf]; omega
                  · have HL5 := Lib.hid (Left_sc HA5.out 0 (by have := HL3.out; omega))
                    go_wp2_with fail
                    refine HL5.out.mono ?_
                    rintro e w' ⟨rfl, rfl⟩
                    have HN1 := Lib.hid (Next_nil HA5.out (fun z hz => by omega) (by have := HE4.out; omega) v HVA.out (A.step []) rfl)
                    clear HL5
                    go_wp2_with fail
                    refine HN1.out.mono ?_
                    rintro e w6 ⟨rfl, hS, hU⟩
                    have HA6 := Lib.hid hS
                    have HB6 := Lib.hid (HB5.out.upd hU (fun e => by omega) (fun e => by omega) (fun z hz e => by omega))
                    have HF6 := Lib.hid (HF5.out.upd hU (fun e => by omega))
                    have HK6 := Lib.hid (HK5.out.then hU (fun i hi e => by omega))
                    have hs6 := hU.size
                    clear hS hU HN1 HA5 HB5 HF5 HK5
                    have HN2 := Lib.hid (Next_nil HB6.out (fun z hz => by omega) (by have := HE5.out; omega) v HVB.out (B.step []) rfl)
                    go_wp2_with fail
                    refine HN2.out.mono ?_
                    rintro e w7 ⟨rfl, hS, hU⟩
                    have HA7 := Lib.hid (HA6.out.upd hU (fun e => by omega) (fun e => by omega) (fun z hz e => by omega))
                    have HB7 := Lib.hid hS
                    have HF7 := Lib.hid (HF6.out.upd hU (fun e => by omega))
                    have HK7 := Lib.hid (HK6.out.then hU (fun i hi e => by omega))
                    have HW7 : Hid (wm.heap.size < w7.heap.size) := Lib.hid (by have := hU.size; omega)
                    clear hS hU HN2 HA6 HB6 HF6 HK6
                    go_wp2_with fail
                    go_roundw
                    case rel => exact ⟨y + 1, A.step [], B.step [], by go_num, by omega, HSt, HF7, HA7, HB7, HK7, HW7⟩
                    case measure => simp [intOf]; omega
                · clear HM HF HA HB
                  go_wp2_with fail
                  refine (awake_any _).mono ?_
                  rintro e w5 ⟨rfl, hk5⟩
                  go_wp2
                  go_ret
                  exact ⟨rfl, HK.out.trans hk5⟩
end Go.Proofs.Ytacacnjpfflbnaa
