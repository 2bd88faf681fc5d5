/- The law CellsApart. -/
import Derived.Test.YtnffnpolkkgnhaaAwake10
import Derived.Test.YtnffnpolkkgnhaaMap
import Derived.Test.YtnffnpolkkgnhaaTop
import Derived.Test.YtnffnpolkkgnhaaPlan2
import Derived.Test.YtnffnpolkkgnhaaBase2
import Derived.Deep.CutRange
namespace Go.Proofs.Ytnffnpolkkgnhaa
set_option linter.unusedVariables false
open Go.RowKit Go.Maps

theorem Blk.newAt (w : World) (arr : Array Value) (T : TypeId) (k : Nat) (h : k = w.heap.size) : Blk (w.alloc (.cells arr T)) k arr T := by subst h; exact Blk.new w arr T
/-- The cells met so far, each once. -/
def hOf (Z : Nat) (d : Nat → Bool) : List Int := (List.range Z).map fun i => if d i then 1 else 0
def lOf (Z : Nat) (d : Nat → Bool) : List Bool := (List.range Z).map d
theorem hOf_len (Z : Nat) (d : Nat → Bool) : (hOf Z d).length = Z := by simp [hOf]
theorem lOf_len (Z : Nat) (d : Nat → Bool) : (lOf Z d).length = Z := by simp [lOf]
theorem hOf_get {Z i : Nat} {d : Nat → Bool} (hi : i < Z) (hd : d i = false) : (hOf Z d).getD i 0 = 0 := by simp [hOf, hi, hd]
theorem hOf_one {Z i : Nat} {d : Nat → Bool} (hi : i < Z) (hd : d i = true) : (hOf Z d).getD i 0 = 1 := by simp [hOf, hi, hd]
theorem hOf_put {Z i : Nat} {d d' : Nat → Bool} (h : ∀ x, d' x = (d x || x == i)) : (hOf Z d).set i 1 = hOf Z d' := by
  apply List.ext_getElem (by simp [hOf])
  intro j h1 h2
  have hj : j < Z := by simpa [hOf] using h2
  rw [List.getElem_set]
  split
  · rename_i e; subst e; simp [hOf, h]
  · rename_i e; simp [hOf, h, Ne.symm e]
theorem lOf_put {Z i : Nat} {d d' : Nat → Bool} (h : ∀ x, d' x = (d x || x == i)) : (lOf Z d).set i true = lOf Z d' := by
  apply List.ext_getElem (by simp [lOf])
  intro j h1 h2
  have hj : j < Z := by simpa [lOf] using h2
  rw [List.getElem_set]
  split
  · rename_i e; subst e; simp [lOf, h]
  · rename_i e; simp [lOf, h, Ne.symm e]
theorem hOf_congr {Z : Nat} {d d' : Nat → Bool} (h : ∀ x, d x = d' x) : d = d' := funext h
def dlt (n : Nat) : Nat → Bool := fun x => decide (x < n)
def d3 (a v i j k : Nat) : Nat → Bool := fun x => decide (x < a + i ∨ (a + v ≤ x ∧ x < a + v + j) ∨ (a + v + v ≤ x ∧ x < a + v + v + k))
theorem dlt_next (n : Nat) : ∀ x, dlt (n + 1) x = (dlt n x || x == n) := by
  intro x
  rw [Bool.eq_iff_iff]
  simp [dlt]
  omega
theorem d3_start (a v : Nat) : dlt a = d3 a v 0 0 0 := by
  funext x
  rw [Bool.eq_iff_iff]
  simp [dlt, d3]
  omega
theorem d3_end (a v : Nat) : d3 a v v v v = dlt (a + v + v + v) := by
  funext x
  rw [Bool.eq_iff_iff]
  simp [dlt, d3]
  omega
theorem d3_one {a v i : Nat} (hi : i < v) : (∀ x, d3 a v (i + 1) i i x = (d3 a v i i i x || x == a + i)) ∧ d3 a v i i i (a + i) = false := by
  refine ⟨fun x => ?_, ?_⟩
  · rw [Bool.eq_iff_iff]; simp [d3]; omega
  · simp [d3]; omega
theorem d3_two {a v i : Nat} (hi : i < v) : (∀ x, d3 a v (i + 1) (i + 1) i x = (d3 a v (i + 1) i i x || x == a + v + i)) ∧ d3 a v (i + 1) i i (a + v + i) = false := by
  refine ⟨fun x => ?_, ?_⟩
  · rw [Bool.eq_iff_iff]; simp [d3]; omega
  · simp [d3]; omega
theorem d3_three {a v i : Nat} (hi : i < v) : (∀ x, d3 a v (i + 1) (i + 1) (i + 1) x = (d3 a v (i + 1) (i + 1) i x || x == a + v + v + i)) ∧ d3 a v (i + 1) (i + 1) i (a + v + v + i) = false := by
  refine ⟨fun x => ?_, ?_⟩
  · rw [Bool.eq_iff_iff]; simp [d3]; omega
  · simp [d3]; omega
theorem dlt_no (n : Nat) : dlt n n = false := by simp [dlt]
theorem lOf_all (Z : Nat) : (lOf Z (dlt Z)).count true = Z := by
  have : (lOf Z (dlt Z)).count true = (lOf Z (dlt Z)).length := by
    rw [List.count_eq_length]
    intro b hb
    obtain ⟨i, hi, rfl⟩ := List.mem_map.1 hb
    have := List.mem_range.1 hi
    simp [dlt, this]
  rw [this, lOf_len]
/-- What the law holds. -/
structure CV (w : World) (pb mb c : Nat) (lv : Array Value) (Z : Nat) (d : Nat → Bool) (W : World) : Prop where
  box : Blk W pb lv 24
  map : Mp W mb c (hOf Z d) (lOf Z d)
  kp : Kept w W
  geo : w.heap.size ≤ mb ∧ ¬ pb = mb
section
variable {w W W' : World} {pb mb c Z : Nat} {lv : Array Value} {d d' : Nat → Bool}
theorem CV.kept (s : CV w pb mb c lv Z d W) (hk : Kept W W') : CV w pb mb c lv Z d W' := ⟨s.box.kept hk, s.map.upd hk (fun f => f), s.kp.trans hk, s.geo⟩
theorem CV.put (s : CV w pb mb c lv Z d W) {i : Nat} (hM : Mp W' mb (c + 1) ((hOf Z d).set i 1) ((lOf Z d).set i true)) (hU : Upd (fun k => k = mb) W W') (hd : ∀ x, d' x = (d x || x == i)) : CV w pb mb (c + 1) lv Z d' W' := by
  rw [hOf_put hd, lOf_put hd] at hM
  have := s.geo
  exact ⟨s.box.upd hU (fun e => by omega), hM, s.kp.then hU (fun i hi e => by omega), s.geo⟩
theorem CV.fresh (s : CV w pb mb c lv Z d W) {r : Nat} (hU : Upd (fun k => k = r) W W') (hr : pb < r ∧ mb < r ∧ w.heap.size ≤ r) : CV w pb mb c lv Z d W' :=
  ⟨s.box.upd hU (fun e => by omega), s.map.upd hU (fun e => by omega), s.kp.then hU (fun i hi e => by omega), s.geo⟩
theorem CV.lts (s : CV w pb mb c lv Z d W) : pb < W.heap.size ∧ mb < W.heap.size ∧ w.heap.size ≤ W.heap.size := ⟨s.box.lt, s.map.lt, s.kp.size⟩
end
/-- A plan's parts. -/
theorem plan_parts {V A K HH FL PE AS CO SE DQ : Nat} (h1 : 1 ≤ K) (h2 : K ≤ 9) (h3 : V ≤ 40) (h4 : A ≤ 90) (e1 : A + V = HH) (e2 : A + V + V = FL) (e3 : A + V + V + V = PE) (e4 : PE + 1 = AS) (e5 : PE + 2 = CO) (e6 : PE + 3 = SE) (e7 : PE + 4 = DQ) :
    May V A K ∧ ∃ R r Z : Nat, r ≤ 13 ∧ R = 2 ^ r ∧ V ≤ R ∧ 1 ≤ R ∧ R ≤ 8192 ∧ Z = DQ + K * (R + 2) ∧ Z ≤ 524288 ∧ planOf V A K = ⟨V, A, K, R, 0, A, HH, FL, PE, AS, CO, SE, DQ, Z⟩ := by
  have hm : May (V : Int) (A : Int) (K : Int) := by unfold May; omega
  obtain ⟨f1, f2, r, hr, f3⟩ := planOf_facts V A K hm
  have h5 : (planOf V A K).room = roomOf V := rfl
  rw [h5] at f3
  obtain ⟨p1, p2⟩ := roomOf_le V
  have p3 : (V : Int) ≤ roomOf V := roomFrom_done 13 1 V (by omega) (by omega)
  have hR : ((2 ^ r : Nat) : Int) ≤ 8192 := by omega
  have hK : K * (2 ^ r + 2) ≤ 9 * 8194 := Nat.mul_le_mul h2 (by omega)
  refine ⟨hm, 2 ^ r, r, DQ + K * (2 ^ r + 2), hr, rfl, by omega, by omega, by omega, rfl, by omega, ?_⟩
  unfold planOf
  rw [f3]
  have hz : ((DQ + K * (2 ^ r + 2) : Nat) : Int) = (DQ : Int) + (K : Int) * (((2 ^ r : Nat) : Int) + 2) := by simp
  simp only [Lay.mk.injEq, true_and]
  rw [hz]
  refine ⟨by omega, by omega, by omega, by omega, by omega, by omega, by omega, ?_⟩
  have : (DQ : Int) = (A : Int) + V + V + V + 1 + 1 + 1 + 1 := by omega
  rw [this]

set_option maxRecDepth 100000 in
set_option maxHeartbeats 8000000 in
theorem cellsApart_walk (a0 a1 a2 : Int) (w : World) (w0 : (Lit.int .u8 a0).wf = true) (w1' : (Lit.int .u8 a1).wf = true) (w2' : (Lit.int .u8 a2).wf = true) :
    Calls Try.prog 4 #[.int .u8 a0, .int .u8 a1, .int .u8 a2] w fun e w' => e = .returned (.bool true) ∧ Kept w w' := by
  have w0 := bounds_u8 w0
  have w1' := bounds_u8 w1'
  have w2' := bounds_u8 w2'
  obtain ⟨V, hV⟩ := Int.eq_ofNat_of_zero_le (show 0 ≤ a0 % 41 by omega)
  obtain ⟨A, hA⟩ := Int.eq_ofNat_of_zero_le (show 0 ≤ a1 % 91 by omega)
  obtain ⟨K, hK⟩ := Int.eq_ofNat_of_zero_le (show 0 ≤ 1 + a2 % 9 by omega)
  have hV1 : V ≤ 40 := by omega
  have hA1 : A ≤ 90 := by omega
  have hK1 : 1 ≤ K := by omega
  have hK2 : K ≤ 9 := by omega
  obtain ⟨HH, e1⟩ : ∃ HH, A + V = HH := ⟨_, rfl⟩
  obtain ⟨FL, e2⟩ : ∃ FL, A + V + V = FL := ⟨_, rfl⟩
  obtain ⟨PE, e3⟩ : ∃ PE, A + V + V + V = PE := ⟨_, rfl⟩
  obtain ⟨AS, e4⟩ : ∃ AS, PE + 1 = AS := ⟨_, rfl⟩
  obtain ⟨CO, e5⟩ : ∃ CO, PE + 2 = CO := ⟨_, rfl⟩
  obtain ⟨SE, e6⟩ : ∃ SE, PE + 3 = SE := ⟨_, rfl⟩
  obtain ⟨DQ, e7⟩ : ∃ DQ, PE + 4 = DQ := ⟨_, rfl⟩
  obtain ⟨hm, R, r, Z, hr, hR, hVR, hR1, hR2, hZ, hZ2, hl⟩ := plan_parts hK1 hK2 hV1 hA1 e1 e2 e3 e4 e5 e6 e7
  have HP := fun w => Lib.hid (by have := Plan_ok V A K w hm; rw [hl] at this; exact this)
  have hk9 : ∀ k : Nat, k < K → DQ + (k + 1) * (R + 2) ≤ Z := fun k hk => by
    have : (k + 1) * (R + 2) ≤ K * (R + 2) := Nat.mul_le_mul (by omega) (Nat.le_refl _)
    omega
  have HT := fun (k : Nat) (hk : k < K) (B : Nat) (hB : DQ + k * (R + 2) = B) w => Lib.hid (by
    have := Top_any ⟨V, A, K, R, 0, A, HH, FL, PE, AS, CO, SE, DQ, Z⟩ (k : Int) w (by simp <;> omega) (by simp <;> omega) (by simp) (by simp <;> omega) (by omega) (by omega)
    have e : (DQ : Int) + (k : Int) * ((R : Int) + 2) = (B : Int) := by rw [← hB]; simp
    simp only [e] at this
    exact this)
  have HBo := fun (k : Nat) (hk : k < K) (B : Nat) (hB : DQ + k * (R + 2) = B) w => Lib.hid (by
    have := Bottom_any ⟨V, A, K, R, 0, A, HH, FL, PE, AS, CO, SE, DQ, Z⟩ (k : Int) w (by simp <;> omega) (by simp <;> omega) (by simp) (by simp <;> omega) (by omega) (by omega)
    have e : (DQ : Int) + (k : Int) * ((R : Int) + 2) = (B : Int) := by rw [← hB]; simp
    simp only [e] at this
    exact this)
  have HS := fun (k : Nat) (hk : k < K) (B : Nat) (hB : DQ + k * (R + 2) = B) (x : Int) (j i : Nat) (hx : x = (j : Int)) (hj : j < 100000) (hji : j % R = i) w => Lib.hid (by
    have := Slot_any ⟨V, A, K, R, 0, A, HH, FL, PE, AS, CO, SE, DQ, Z⟩ (k : Int) r j w (by simp <;> omega) (by simp <;> omega) hr (by simp only; rw [hR]) (by omega) (by omega) (by omega)
    have e : (DQ : Int) + (k : Int) * ((R : Int) + 2) = (B : Int) := by rw [← hB]; simp
    rw [← hx, ← hR, hji] at this
    simp only [e] at this
    exact this)
  simp only [Lay.val, Lay.vals] at HP HT HBo HS
  have hRV : (V : Int) ≤ (R : Int) := by omega
  have hRV1 : (1 : Int) ≤ (R : Int) := by omega
  have hZI : (Z : Int) ≤ 524288 := by omega
  have HE := Lib.hid (And.intro e1 (And.intro e2 (And.intro e3 (And.intro e4 (And.intro e5 (And.intro e6 e7))))))
  have hmm := @run_makeMap Try.prog
  clear e1 e2 e3 e4 e5 e6 e7
  have HZ := Lib.hid hZ
  have HR := Lib.hid hR
  have HK9 := Lib.hid hk9
  clear hl hm hr hZ hR hk9
  go_enter Try.func4, Try.ntmps4
  go_wp2_with fail
  refine (HP _).out.mono ?_
  rintro e w1 ⟨rfl, hk⟩
  obtain ⟨pb, hpb⟩ : ∃ pb, w1.heap.size = pb := ⟨_, rfl⟩
  have S0 : Hid (CV w pb (pb + 1) 0 #[.int .i64 (V : Int), .int .i64 (A : Int), .int .i64 (K : Int), .int .i64 (R : Int), .int .i64 0, .int .i64 (A : Int), .int .i64 (HH : Int), .int .i64 (FL : Int), .int .i64 (PE : Int), .int .i64 (AS : Int), .int .i64 (CO : Int), .int .i64 (SE : Int), .int .i64 (DQ : Int), .int .i64 (Z : Int)] Z (dlt 0) ((w1.alloc (.cells #[.int .i64 (V : Int), .int .i64 (A : Int), .int .i64 (K : Int), .int .i64 (R : Int), .int .i64 0, .int .i64 (A : Int), .int .i64 (HH : Int), .int .i64 (FL : Int), .int .i64 (PE : Int), .int .i64 (AS : Int), .int .i64 (CO : Int), .int .i64 (SE : Int), .int .i64 (DQ : Int), .int .i64 (Z : Int)] 24)).alloc (.map #[] 0))) := Lib.hid (by
    have h3 := hk.size
    have e1 : (w1.alloc (.cells #[.int .i64 (V : Int), .int .i64 (A : Int), .int .i64 (K : Int), .int .i64 (R : Int), .int .i64 0, .int .i64 (A : Int), .int .i64 (HH : Int), .int .i64 (FL : Int), .int .i64 (PE : Int), .int .i64 (AS : Int), .int .i64 (CO : Int), .int .i64 (SE : Int), .int .i64 (DQ : Int), .int .i64 (Z : Int)] 24)).heap.size = pb + 1 := by rw [← hpb]; simp
    have hm := Mp.new (w1.alloc (.cells #[.int .i64 (V : Int), .int .i64 (A : Int), .int .i64 (K : Int), .int .i64 (R : Int), .int .i64 0, .int .i64 (A : Int), .int .i64 (HH : Int), .int .i64 (FL : Int), .int .i64 (PE : Int), .int .i64 (AS : Int), .int .i64 (CO : Int), .int .i64 (SE : Int), .int .i64 (DQ : Int), .int .i64 (Z : Int)] 24)) Z
    rw [e1] at hm
    refine ⟨(Blk.newAt _ _ _ _ hpb.symm).alloc _, ?_, (hk.alloc _).alloc _, by omega⟩
    have z1 : hOf Z (dlt 0) = List.replicate Z 0 := by apply List.ext_getElem (by simp [hOf]); intro i h1 h2; simp [hOf, dlt]
    have z2 : lOf Z (dlt 0) = List.replicate Z false := by apply List.ext_getElem (by simp [lOf]); intro i h1 h2; simp [lOf, dlt]
    rw [z1, z2]
    exact hm)
  have HPB := Lib.hid hpb
  have hpe : (w1.alloc (.cells #[.int .i64 (V : Int), .int .i64 (A : Int), .int .i64 (K : Int), .int .i64 (R : Int), .int .i64 0, .int .i64 (A : Int), .int .i64 (HH : Int), .int .i64 (FL : Int), .int .i64 (PE : Int), .int .i64 (AS : Int), .int .i64 (CO : Int), .int .i64 (SE : Int), .int .i64 (DQ : Int), .int .i64 (Z : Int)] 24)).heap.size = pb + 1 := by rw [← hpb]; simp
  clear hk HP hpb hV hA hK w0 w1' w2'
  have hb1 : decide ((R : Int) < (V : Int)) = false := decide_eq_false (by omega)
  have hb2 : decide ((R : Int) < 1) = false := decide_eq_false (by omega)
  have hb3 : decide ((524288 : Int) < (Z : Int)) = false := decide_eq_false (by omega)
  have hb7 : decide (R < V) = false := decide_eq_false (by omega)
  have hb8 : decide (R < 1) = false := decide_eq_false (by omega)
  have hb9 : decide (524288 < Z) = false := decide_eq_false (by omega)
  have hb4 : ¬ (R : Int) < (V : Int) := by omega
  have hb5 : ¬ (R : Int) < 1 := by omega
  have hb6 : ¬ (524288 : Int) < (Z : Int) := by omega
  go_wp2_with fail
  rw [HPB.out]
  clear HPB hmm hpe
  obtain ⟨e1, e2, e3, e4, e5, e6, e7⟩ := HE.out
  obtain ⟨mb, hmb⟩ : ∃ mb, pb + 1 = mb := ⟨_, rfl⟩
  rw [hmb] at S0 ⊢
  clear hmb hRV hRV1 hb1 hb2 hb3 hb4 hb5 hb6 hb7 hb8 hb9
  go_loopw [59] (fun x wr => ∃ i : Nat, x = .int .i64 i ∧ i ≤ A ∧ Hid (CV w pb mb i #[.int .i64 (V : Int), .int .i64 (A : Int), .int .i64 (K : Int), .int .i64 (R : Int), .int .i64 0, .int .i64 (A : Int), .int .i64 (HH : Int), .int .i64 (FL : Int), .int .i64 (PE : Int), .int .i64 (AS : Int), .int .i64 (CO : Int), .int .i64 (SE : Int), .int .i64 (DQ : Int), .int .i64 (Z : Int)] Z (dlt i) wr)) (fun x _ => A - (intOf x).toNat)
  case atStart => exact ⟨0, rfl, by omega, S0⟩
  case round =>
    obtain ⟨i, rfl, hi, S1⟩ := hrel
    clear S0
    have hiZ : A + V + V + V ≤ Z := by have := HZ.out; omega
    by_cases hlt : i < A
    · as_aux_lemma =>
      have hlk := S1.out.map.look i (by rw [hOf_len]; omega) (by omega) (hOf_get (by omega) (dlt_no i))
      have cb := S1.out.box.cell
      go_wp2_with (first | (at_mapUpdate; refine wpList_putx _ rfl _ _ _ rfl rfl S1.out.map (by unfold maxLen; omega) (i) 1 rfl rfl (rfl) (by rw [hOf_len]; omega) (by omega) (by decide) ?_; intro w6 hM6 hU6; have S2 := Lib.hid (S1.out.put hM6 hU6 (dlt_next i)); have cb6 := S2.out.box.cell; clear hM6 hU6) | fail)
      clear hlk cb cb6 S1
      go_roundw
      case rel => exact ⟨i + 1, by go_num, by omega, S2⟩
      case measure => simp [intOf]; omega
    · as_aux_lemma =>
      obtain rfl : A = i := by omega
      have S2 : Hid (CV w pb mb (A + 0 + 0 + 0) #[.int .i64 (V : Int), .int .i64 (A : Int), .int .i64 (K : Int), .int .i64 (R : Int), .int .i64 0, .int .i64 (A : Int), .int .i64 (HH : Int), .int .i64 (FL : Int), .int .i64 (PE : Int), .int .i64 (AS : Int), .int .i64 (CO : Int), .int .i64 (SE : Int), .int .i64 (DQ : Int), .int .i64 (Z : Int)] Z (d3 A V 0 0 0) wr) := Lib.hid (by have := S1.out; rw [d3_start A V] at this; exact this)
      clear S1 hi hlt
      go_wp2_with fail
      obtain ⟨wo, rfl⟩ : ∃ wo : World, wo = wr := ⟨_, rfl⟩
      go_loopw [71] (fun x wr => ∃ j : Nat, x = .int .i64 j ∧ j ≤ V ∧ Hid (CV w pb mb (A + j + j + j) #[.int .i64 (V : Int), .int .i64 (A : Int), .int .i64 (K : Int), .int .i64 (R : Int), .int .i64 0, .int .i64 (A : Int), .int .i64 (HH : Int), .int .i64 (FL : Int), .int .i64 (PE : Int), .int .i64 (AS : Int), .int .i64 (CO : Int), .int .i64 (SE : Int), .int .i64 (DQ : Int), .int .i64 (Z : Int)] Z (d3 A V j j j) wr)) (fun x _ => V - (intOf x).toNat)
      case atStart => exact ⟨0, rfl, by omega, S2⟩
      case round =>
        obtain ⟨j, rfl, hj, S3⟩ := hrel
        clear S2
        by_cases hlt2 : j < V
        · as_aux_lemma =>
          have hlk := S3.out.map.lookx (x := (A : Int) + (j : Int)) (A + j) (by omega) (by rw [hOf_len]; omega) (by omega) (hOf_get (by omega) (d3_one hlt2).2)
          have cb := S3.out.box.cell
          go_wp2_with (first
            | (at_mapUpdate; refine wpList_putx _ rfl _ _ _ rfl rfl S3.out.map (by unfold maxLen; omega) (A + j) 1 rfl rfl (by omega) (by rw [hOf_len]; omega) (by omega) (by decide) ?_; intro w6 hM6 hU6; have S4 := Lib.hid (S3.out.put hM6 hU6 ((d3_one hlt2).1)); have cb6 := S4.out.box.cell; clear hM6 hU6; have hlk2 := S4.out.map.lookx (x := (HH : Int) + (j : Int)) (A + V + j) (by omega) (by rw [hOf_len]; omega) (by omega) (hOf_get (by omega) (d3_two hlt2).2))
            | (at_mapUpdate; refine wpList_putx _ rfl _ _ _ rfl rfl S4.out.map (by unfold maxLen; omega) (A + V + j) 1 rfl rfl (by omega) (by rw [hOf_len]; omega) (by omega) (by decide) ?_; intro w6 hM6 hU6; have S5 := Lib.hid (S4.out.put hM6 hU6 ((d3_two hlt2).1)); have cb6 := S5.out.box.cell; clear hM6 hU6; have hlk3 := S5.out.map.lookx (x := (FL : Int) + (j : Int)) (A + V + V + j) (by omega) (by rw [hOf_len]; omega) (by omega) (hOf_get (by omega) (d3_three hlt2).2))
            | (at_mapUpdate; refine wpList_putx _ rfl _ _ _ rfl rfl S5.out.map (by unfold maxLen; omega) (A + V + V + j) 1 rfl rfl (by omega) (by rw [hOf_len]; omega) (by omega) (by decide) ?_; intro w6 hM6 hU6; have S6 := Lib.hid (S5.out.put hM6 hU6 ((d3_three hlt2).1)); have cb6 := S6.out.box.cell; clear hM6 hU6)
            | fail)
          have S7 : Hid (CV w pb mb (A + (j + 1) + (j + 1) + (j + 1)) #[.int .i64 (V : Int), .int .i64 (A : Int), .int .i64 (K : Int), .int .i64 (R : Int), .int .i64 0, .int .i64 (A : Int), .int .i64 (HH : Int), .int .i64 (FL : Int), .int .i64 (PE : Int), .int .i64 (AS : Int), .int .i64 (CO : Int), .int .i64 (SE : Int), .int .i64 (DQ : Int), .int .i64 (Z : Int)] Z (d3 A V (j + 1) (j + 1) (j + 1)) w6) := Lib.hid (by have := S6.out; rw [show A + (j + 1) + (j + 1) + (j + 1) = A + j + j + j + 1 + 1 + 1 by omega]; exact this)
          clear hlk hlk2 hlk3 cb cb6 S3 S4 S5 S6
          go_roundw
          case rel => exact ⟨j + 1, by go_num, by omega, S7⟩
          case measure => simp [intOf]; omega
        · as_aux_lemma =>
          obtain rfl : V = j := by omega
          have S4 : Hid (CV w pb mb PE #[.int .i64 (V : Int), .int .i64 (A : Int), .int .i64 (K : Int), .int .i64 (R : Int), .int .i64 0, .int .i64 (A : Int), .int .i64 (HH : Int), .int .i64 (FL : Int), .int .i64 (PE : Int), .int .i64 (AS : Int), .int .i64 (CO : Int), .int .i64 (SE : Int), .int .i64 (DQ : Int), .int .i64 (Z : Int)] Z (dlt PE) wr) := Lib.hid (by have := S3.out; rw [d3_end, e3] at this; exact this)
          clear S3 hj hlt2
          have cb := S4.out.box.cell
          go_wp2_with fail
          obtain ⟨gb, hgb⟩ : ∃ gb, wr.heap.size = gb := ⟨_, rfl⟩
          obtain ⟨W5, hW5⟩ : ∃ W5, wr.alloc (.cells #[.int .i64 (PE : Int), .int .i64 (AS : Int), .int .i64 (CO : Int), .int .i64 (SE : Int)] 3) = W5 := ⟨_, rfl⟩
          have S5 : Hid (CV w pb mb PE #[.int .i64 (V : Int), .int .i64 (A : Int), .int .i64 (K : Int), .int .i64 (R : Int), .int .i64 0, .int .i64 (A : Int), .int .i64 (HH : Int), .int .i64 (FL : Int), .int .i64 (PE : Int), .int .i64 (AS : Int), .int .i64 (CO : Int), .int .i64 (SE : Int), .int .i64 (DQ : Int), .int .i64 (Z : Int)] Z (dlt PE) W5) := Lib.hid (by rw [← hW5]; exact S4.out.kept ((Upd.refl _ _).alloc _))
          have HG : Hid (Blk W5 gb #[.int .i64 (PE : Int), .int .i64 (AS : Int), .int .i64 (CO : Int), .int .i64 (SE : Int)] 3) := Lib.hid (by rw [← hW5]; exact Blk.newAt _ _ _ _ hgb.symm)
          have hgm : Hid (¬ gb = mb) := Lib.hid (by have := S4.out.lts; omega)
          rw [hW5, hgb]
          clear cb S4 hW5 hgb
          go_loopw [106] (fun x wr => ∃ m : Nat, x = .int .i64 m ∧ m ≤ 4 ∧ Hid (CV w pb mb (PE + m) #[.int .i64 (V : Int), .int .i64 (A : Int), .int .i64 (K : Int), .int .i64 (R : Int), .int .i64 0, .int .i64 (A : Int), .int .i64 (HH : Int), .int .i64 (FL : Int), .int .i64 (PE : Int), .int .i64 (AS : Int), .int .i64 (CO : Int), .int .i64 (SE : Int), .int .i64 (DQ : Int), .int .i64 (Z : Int)] Z (dlt (PE + m)) wr) ∧ Hid (Blk wr gb #[.int .i64 (PE : Int), .int .i64 (AS : Int), .int .i64 (CO : Int), .int .i64 (SE : Int)] 3)) (fun x _ => 4 - (intOf x).toNat)
          case atStart => exact ⟨0, rfl, by omega, S5, HG⟩
          case round =>
            obtain ⟨m, rfl, hm, S6, HG6⟩ := hrel
            clear S5 HG
            have hPZ : PE + 4 ≤ Z := by have := HZ.out; omega
            by_cases hlt3 : m < 4
            · as_aux_lemma =>
              obtain ⟨y, hy, hcy⟩ : ∃ y : Int, y = ((PE + m : Nat) : Int) ∧ #[Value.int .i64 (PE : Int), .int .i64 (AS : Int), .int .i64 (CO : Int), .int .i64 (SE : Int)][m]? = some (.int .i64 y) := by
                obtain rfl | rfl | rfl | rfl : m = 0 ∨ m = 1 ∨ m = 2 ∨ m = 3 := by omega
                · exact ⟨_, rfl, rfl⟩
                · exact ⟨AS, by omega, rfl⟩
                · exact ⟨CO, by omega, rfl⟩
                · exact ⟨SE, by omega, rfl⟩
              have cy : wr.cell? ⟨gb, m, none⟩ = some (.int .i64 y) := by rw [HG6.out.cell]; exact hcy
              have hlk := S6.out.map.lookx (x := y) (PE + m) hy (by rw [hOf_len]; omega) (by omega) (hOf_get (by omega) (dlt_no _))
              have HY := Lib.hid hy
              clear hcy hy
              go_wp2_with (first | (at_mapUpdate; refine wpList_putx _ rfl _ _ _ rfl rfl S6.out.map (by unfold maxLen; omega) (PE + m) 1 rfl rfl HY.out (by rw [hOf_len]; omega) (by omega) (by decide) ?_; intro w6 hM6 hU6; have S7 := Lib.hid (S6.out.put hM6 hU6 (dlt_next _)); have HG7 := Lib.hid (HG6.out.upd hU6 (fun e => hgm.out e)); clear hM6 hU6) | fail)
              clear hlk cy S6 HG6 HY
              go_roundw
              case rel => exact ⟨m + 1, by go_num, by omega, S7, HG7⟩
              case measure => simp [intOf]; omega
            · as_aux_lemma =>
              have S7 : Hid (CV w pb mb DQ #[.int .i64 (V : Int), .int .i64 (A : Int), .int .i64 (K : Int), .int .i64 (R : Int), .int .i64 0, .int .i64 (A : Int), .int .i64 (HH : Int), .int .i64 (FL : Int), .int .i64 (PE : Int), .int .i64 (AS : Int), .int .i64 (CO : Int), .int .i64 (SE : Int), .int .i64 (DQ : Int), .int .i64 (Z : Int)] Z (dlt DQ) wr) := Lib.hid (by have h4 : m = 4 := (by omega); skip; have := S6.out; rw [h4, e7] at this; exact this)
              clear S6 HG6 hm hgm
              go_wp2_with fail
              clear hlt3
              obtain ⟨wo2, rfl⟩ : ∃ wo2 : World, wo2 = wr := ⟨_, rfl⟩
              go_loopw [116] (fun x wr => ∃ k B : Nat, x = .int .i64 k ∧ k ≤ K ∧ Hid (DQ + k * (R + 2) = B) ∧ Hid (CV w pb mb B #[.int .i64 (V : Int), .int .i64 (A : Int), .int .i64 (K : Int), .int .i64 (R : Int), .int .i64 0, .int .i64 (A : Int), .int .i64 (HH : Int), .int .i64 (FL : Int), .int .i64 (PE : Int), .int .i64 (AS : Int), .int .i64 (CO : Int), .int .i64 (SE : Int), .int .i64 (DQ : Int), .int .i64 (Z : Int)] Z (dlt B) wr)) (fun x _ => K - (intOf x).toNat)
              case atStart => exact ⟨0, DQ, rfl, by omega, Lib.hid (by simp), S7⟩
              case round =>
                obtain ⟨k, B, rfl, hk, HB, S8⟩ := hrel
                clear S7
                by_cases hlt4 : k < K
                · as_aux_lemma =>
                  have hBn : DQ + (k + 1) * (R + 2) = B + 2 + R := by rw [Nat.add_mul, ← HB.out]; omega
                  have hBZ : B + 2 + R ≤ Z := by rw [← hBn]; exact HK9.out k hlt4
                  have HBN := Lib.hid hBn
                  have HT1 := fun w => HT k hlt4 B HB.out w
                  have HB1 := fun w => HBo k hlt4 B HB.out w
                  have HS1 := fun x j i hx hj hji w => HS k hlt4 B HB.out x j i hx hj hji w
                  clear HT HBo HS hBn
                  have cb := S8.out.box.cell
                  go_wp2_with fail
                  refine (HT1 _).out.mono ?_
                  rintro e w3 ⟨rfl, hk3⟩
                  have S9 := Lib.hid (S8.out.kept hk3)
                  clear hk3 cb S8
                  have hlk := S9.out.map.look B (by rw [hOf_len]; omega) (by omega) (hOf_get (by omega) (dlt_no B))
                  go_wp2_with (first | (at_mapUpdate; refine wpList_putx _ rfl _ _ _ rfl rfl S9.out.map (by unfold maxLen; omega) (B) 1 rfl rfl (rfl) (by rw [hOf_len]; omega) (by omega) (by decide) ?_; intro w6 hM6 hU6; have S10 := Lib.hid (S9.out.put hM6 hU6 (dlt_next B)); have cb6 := S10.out.box.cell; clear hM6 hU6) | fail)
                  refine (HB1 _).out.mono ?_
                  rintro e w4 ⟨rfl, hk4⟩
                  have S11 := Lib.hid (S10.out.kept hk4)
                  have cb := S11.out.box.cell
                  clear hk4 cb6 S10 S9 hlk
                  have hlk := S11.out.map.lookx (x := (B : Int) + 1) (B + 1) (by omega) (by rw [hOf_len]; omega) (by omega) (hOf_get (by omega) (dlt_no (B + 1)))
                  go_wp2_with (first | (at_mapUpdate; refine wpList_putx _ rfl _ _ _ rfl rfl S11.out.map (by unfold maxLen; omega) (B + 1) 1 rfl rfl (by omega) (by rw [hOf_len]; omega) (by omega) (by decide) ?_; intro w6 hM6 hU6; have S12 := Lib.hid (S11.out.put hM6 hU6 (dlt_next (B + 1))); have cb6 := S12.out.box.cell; clear hM6 hU6) | fail)
                  have S13 : Hid (CV w pb mb (B + 2 + 0) #[.int .i64 (V : Int), .int .i64 (A : Int), .int .i64 (K : Int), .int .i64 (R : Int), .int .i64 0, .int .i64 (A : Int), .int .i64 (HH : Int), .int .i64 (FL : Int), .int .i64 (PE : Int), .int .i64 (AS : Int), .int .i64 (CO : Int), .int .i64 (SE : Int), .int .i64 (DQ : Int), .int .i64 (Z : Int)] Z (dlt (B + 2 + 0)) w6) := Lib.hid S12.out
                  clear S11 S12 hlk cb cb6
                  go_loopw [133] (fun x wr => ∃ i : Nat, x = .int .i64 i ∧ i ≤ R ∧ Hid (CV w pb mb (B + 2 + i) #[.int .i64 (V : Int), .int .i64 (A : Int), .int .i64 (K : Int), .int .i64 (R : Int), .int .i64 0, .int .i64 (A : Int), .int .i64 (HH : Int), .int .i64 (FL : Int), .int .i64 (PE : Int), .int .i64 (AS : Int), .int .i64 (CO : Int), .int .i64 (SE : Int), .int .i64 (DQ : Int), .int .i64 (Z : Int)] Z (dlt (B + 2 + i)) wr)) (fun x _ => R - (intOf x).toNat)
                  case atStart => exact ⟨0, rfl, by omega, S13⟩
                  case round =>
                    obtain ⟨i', rfl, hi', S14⟩ := hrel
                    clear S13
                    by_cases hlt5 : i' < R
                    · as_aux_lemma =>
                      have HS2 := fun w => HS1 (i' : Int) i' i' rfl (by omega) (Nat.mod_eq_of_lt hlt5) w
                      have HS3 := fun w => HS1 ((i' : Int) + (R : Int)) (i' + R) i' (by omega) (by omega) (by rw [Nat.add_mod_right]; exact Nat.mod_eq_of_lt hlt5) w
                      have HS4 := fun w => HS1 ((i' : Int) + 7 * (R : Int)) (i' + R * 7) i' (by omega) (by omega) (by rw [Nat.add_mul_mod_self_left]; exact Nat.mod_eq_of_lt hlt5) w
                      clear HS1
                      have cb := S14.out.box.cell
                      go_wp2_with fail
                      refine (HS2 _).out.mono ?_
                      rintro e w3 ⟨rfl, hk3⟩
                      have S15 := Lib.hid (S14.out.kept hk3)
                      clear hk3 S14 cb HS2
                      have hlk := S15.out.map.lookx (x := (B : Int) + 2 + (i' : Int)) (B + 2 + i') (by omega) (by rw [hOf_len]; omega) (by omega) (hOf_get (by omega) (dlt_no _))
                      go_wp2_with (first | (at_mapUpdate; refine wpList_putx _ rfl _ _ _ rfl rfl S15.out.map (by unfold maxLen; omega) (B + 2 + i') 1 rfl rfl (by omega) (by rw [hOf_len]; omega) (by omega) (by decide) ?_; intro w6 hM6 hU6; have S16 := Lib.hid (S15.out.put hM6 hU6 (dlt_next _)); have cb6 := S16.out.box.cell; clear hM6 hU6) | fail)
                      clear hlk S15
                      refine (HS3 _).out.mono ?_
                      rintro e w4 ⟨rfl, hk4⟩
                      have S17 := Lib.hid (S16.out.kept hk4)
                      clear cb6 hk4 S16 HS3
                      have cb := S17.out.box.cell
                      go_wp2_with fail
                      refine (HS4 _).out.mono ?_
                      rintro e w5 ⟨rfl, hk5⟩
                      have S18 := Lib.hid (S17.out.kept hk5)
                      clear cb hk5 S17 HS4
                      go_wp2_with fail
                      go_roundw
                      case rel => exact ⟨i' + 1, by go_num, by omega, S18⟩
                      case measure => simp [intOf]; omega
                    · as_aux_lemma =>
                      obtain rfl : R = i' := by omega
                      clear HS1 HT1 HB1 hi' hlt5
                      go_wp2_with fail
                      go_roundw
                      case rel => exact ⟨k + 1, B + 2 + R, by go_num, by omega, HBN, S14⟩
                      case measure => simp [intOf]; omega
                · as_aux_lemma =>
                  obtain rfl : K = k := by omega
                  have S9 : Hid (CV w pb mb B #[.int .i64 (V : Int), .int .i64 (A : Int), .int .i64 (K : Int), .int .i64 (R : Int), .int .i64 0, .int .i64 (A : Int), .int .i64 (HH : Int), .int .i64 (FL : Int), .int .i64 (PE : Int), .int .i64 (AS : Int), .int .i64 (CO : Int), .int .i64 (SE : Int), .int .i64 (DQ : Int), .int .i64 (Z : Int)] Z (dlt Z) wr) := Lib.hid (by have h1 := S8.out; have h2 := HB.out; have h3 := HZ.out; rw [show B = Z by omega] at h1 ⊢; exact h1)
                  have hBmax : B ≤ 524288 := by have h2 := HB.out; have h3 := HZ.out; omega
                  clear S8 HB hk hlt4 HT HBo HS
                  obtain ⟨D, ho, hd⟩ := S9.out.map
                  have HD := Lib.hid hd
                  obtain ⟨r0, hr0⟩ : ∃ r0, wr.heap.size = r0 := ⟨_, rfl⟩
                  have hrl : Hid (pb < r0 ∧ mb < r0 ∧ w.heap.size ≤ r0) := Lib.hid (by rw [← hr0]; exact S9.out.lts)
                  have HRR := Lib.hid hr0
                  clear hd hr0
                  go_wp2_with (first
                    | (at_range; refine wpList_range_own _ rfl _ 34 rfl 3 3 lawI Try.underlying34 (plainElem (H := Unit) Try.prog 3) mb B D rfl ho ?_; intro w8 hrg0 hg0 hs0)
                    | fail)
                  try go_frame
                  rw [HRR.out] at hrg0
                  rw [HRR.out]
                  have S10 := Lib.hid (S9.out.kept (grown_kept hg0))
                  have HG0 := Lib.hid hrg0
                  clear ho hrg0 hg0 hs0 S9 HRR
                  go_loopw [20] (fun _ wr => ∃ (left : Lit → Bool) (cnt : Nat), Hid (∀ z, left z = true → Maps.has D z = true) ∧ Hid (wr.ranges Try.prog 3 (plainElem (H := Unit) Try.prog 3) mb r0 B D left cnt) ∧ Hid (CV w pb mb B #[.int .i64 (V : Int), .int .i64 (A : Int), .int .i64 (K : Int), .int .i64 (R : Int), .int .i64 0, .int .i64 (A : Int), .int .i64 (HH : Int), .int .i64 (FL : Int), .int .i64 (PE : Int), .int .i64 (AS : Int), .int .i64 (CO : Int), .int .i64 (SE : Int), .int .i64 (DQ : Int), .int .i64 (Z : Int)] Z (dlt Z) wr)) (fun _ wr => wr.rangeLeft mb r0)
                  case atStart => exact ⟨_, _, Lib.hid (fun z h => h), HG0, S10⟩
                  case round =>
                    obtain ⟨left, cnt, HLH, HG, S11⟩ := hrel
                    clear S10 HG0
                    have hrg := HG.out
                    go_wp2_with (first
                      | (at_next; refine wpList_next_ranges_ii _ rfl _ rfl 3 3 .i64 .i64 lawI Try.underlying3 Try.underlying3 mb r0 B _ _ _ rfl hrg ?_ ?_)
                      | fail)
                    · intro _ hl0
                      clear hrg
                      have cb := S11.out.box.cell
                      have hZn := lOf_all Z
                      go_wp2_with (first | (at_len; refine wpList_lenm _ rfl _ rfl rfl S11.out.map (n := (Z : Int)) (by rw [hZn]) ?_) | fail)
                      refine (awake_any _).mono ?_
                      rintro e w9 ⟨rfl, hk9'⟩
                      go_wp2
                      go_ret
                      exact ⟨rfl, S11.out.kp.trans hk9'⟩
                    · intro x c1 w1' cnt1 hwx hwc hlx hat hrg1 hlt' hg1 hs1 hen
                      obtain ⟨i', hi', rfl, rfl⟩ := HD.out.entry (HLH.out _ hlx) hat
                      have S12 := Lib.hid (S11.out.fresh (grown_upd hg1) hrl.out)
                      have hiZ' : i' < Z := by rw [hOf_len] at hi'; exact hi'
                      have HLn := Lib.hid (show ∀ z, (left z && !z.sameKey (.int .i64 (i' : Int))) = true → Maps.has D z = true from fun z hz => HLH.out z (by simp only [Bool.and_eq_true] at hz; exact hz.1))
                      have HG1 := Lib.hid hrg1
                      have HME := Lib.hid (show w1'.rangeLeft mb r0 < wr.rangeLeft mb r0 by rw [hrg1.left_eq, hrg.left_eq]; exact hlt')
                      rw [hOf_one hiZ' (by simp [dlt, hiZ'])] at hen ⊢
                      clear hrg1 hlt' hg1 hs1 hat hlx hi' hrg S11 HLH hwx hwc
                      have cb := S12.out.box.cell
                      have hiZ2 : (i' : Int) < (Z : Int) := by omega
                      go_wp2_with fail
                      go_roundw
                      case rel => exact ⟨_, cnt1, HLn, HG1, S12⟩
                      case measure => exact HME.out
end Go.Proofs.Ytnffnpolkkgnhaa
