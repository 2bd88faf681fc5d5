/- acequialaw06.Heights (printed by gen_heights.py). -/
import Derived.Test.YticeionjlknlcaaLabValid
import Derived.Test.YticeionjlknlcaaAmong
import Derived.StillTailTactics
namespace Go.Proofs.Yticeionjlknlcaa
set_option linter.unusedVariables false
set_option linter.unusedSimpArgs false
open Go.RowKit

/-- Heights out of any numbers, ahead of T's and S's. -/
def htPre (N : Int) (n : Nat) (ls : List Int) : List Int := (List.range n).map fun v => if v < ls.length then am (ls.getD v 0) (N + 1) else 0
def htL (N S T : Int) (n : Nat) (ls : List Int) : List Int := ((htPre N n ls).set T.toNat 0).set S.toNat N
theorem htPre_len (N : Int) (n : Nat) (ls : List Int) : (htPre N n ls).length = n := by simp [htPre]
theorem htL_len (N S T : Int) (n : Nat) (ls : List Int) : (htL N S T n ls).length = n := by simp [htL, htPre_len]
theorem htPre_at (N : Int) (n : Nat) (ls : List Int) (v : Nat) (h : v < (htPre N n ls).length) : (htPre N n ls)[v] = if v < ls.length then am (ls.getD v 0) (N + 1) else 0 := by simp [htPre]
theorem htPre_in {N : Int} {n : Nat} {ls : List Int} (hN : 0 ≤ N) : ∀ x ∈ htPre N n ls, 0 ≤ x ∧ x ≤ N := by
  intro x hx
  obtain ⟨v, -, rfl⟩ := List.mem_map.1 hx
  split
  · have := am_in (x := ls.getD v 0) (n := N + 1) (by omega)
    omega
  · omega
theorem htL_right {N S T : Int} {n m : Nat} {ys : List Ar} (hg : Gr N S T n m ys) (ls : List Int) : rightB N S T (htL N S T n ls) = true := by
  obtain ⟨h1, h2, h3, -, s0, s1, t0, t1, st⟩ := hg.len
  have hN := hg.ok.n2
  have hl := htL_len N S T n ls
  have hp := htPre_len N n ls
  unfold rightB
  simp only [Bool.and_eq_true, decide_eq_true_eq, List.all_eq_true]
  refine ⟨⟨⟨by omega, ?_⟩, ?_⟩, ?_⟩
  · intro k hk
    have : 0 ≤ k ∧ k ≤ N := by
      rcases List.mem_or_eq_of_mem_set hk with h | h
      · rcases List.mem_or_eq_of_mem_set h with h | h
        · exact htPre_in (by omega) k h
        · omega
      · omega
    exact this
  · have hT : T.toNat < n := by omega
    have hne : S.toNat ≠ T.toNat := by omega
    simp [htL, List.getElem?_set, hne, hp, hT]
  · have hS : S.toNat < n := by omega
    simp [htL, List.getElem?_set, hp, hS]
set_option maxHeartbeats 4000000 in
theorem heights_any (N S T : Int) (n m : Nat) (a3 a4 a5 a6 a7 a8 : Option Addr) (c3 c4 c5 c6 c7 c8 : Nat) (ys : List Ar) (la : Option Addr) (lc : Nat) (ls : List Int) (w : World) (hg : Gr N S T n m ys) (hl : Rd w la (lv ls)) (hll : ls.length ≤ 9223372036854775807) :
    Calls Try.prog 14 #[.agg #[.int .i64 N, .int .i64 S, .int .i64 T, .slice a3 (n + 1) c3, .slice a4 m c4, .slice a5 m c5, .slice a6 m c6, .slice a7 m c7, .slice a8 m c8], .slice la ls.length lc] w fun e w' => ∃ g, e = .returned (.slice (some ⟨g, 0, none⟩) n n) ∧ Blk w' g (lv (htL N S T n ls)).toArray 3 ∧ w.heap.size ≤ g ∧ Kept w w' := by
  obtain ⟨hnN, hn2, hn3, -, hS0, hS1, hT0, hT1, hST⟩ := hg.len
  have hN16 := hg.ok.n16
  have hN2 := hg.ok.n2
  clear hg
  obtain ⟨s, rfl⟩ : ∃ s : Nat, S = (s : Int) := ⟨S.toNat, by omega⟩
  obtain ⟨t, rfl⟩ : ∃ t : Nat, T = (t : Int) := ⟨T.toNat, by omega⟩
  subst hnN
  have hmk := fun w => make_one (P := Try.prog) (t := 26) (e := 3) (z := .int .i64 0) (v := .int .i64 0) (bytes := 8) Try.underlying26 (by kernel_rfl) rfl .i64 n (by omega) (by omega) w
  have HK := Lib.hid (((Upd.refl (fun _ => False) w).alloc (.cells #[.int .i64 n, .int .i64 s, .int .i64 t, .slice a3 (n + 1) c3, .slice a4 m c4, .slice a5 m c5, .slice a6 m c6, .slice a7 m c7, .slice a8 m c8] 29)).alloc (.cells (zeros n (.int .i64 0)) 3))
  have HB := Lib.hid ((Blk.new w #[.int .i64 n, .int .i64 s, .int .i64 t, .slice a3 (n + 1) c3, .slice a4 m c4, .slice a5 m c5, .slice a6 m c6, .slice a7 m c7, .slice a8 m c8] 29).alloc (.cells (zeros n (.int .i64 0)) 3))
  have HR := Lib.hid (Blk.new (w.alloc (.cells #[.int .i64 n, .int .i64 s, .int .i64 t, .slice a3 (n + 1) c3, .slice a4 m c4, .slice a5 m c5, .slice a6 m c6, .slice a7 m c7, .slice a8 m c8] 29)) (zeros n (.int .i64 0)) 3)
  have e1 : (w.alloc (.cells #[.int .i64 n, .int .i64 s, .int .i64 t, .slice a3 (n + 1) c3, .slice a4 m c4, .slice a5 m c5, .slice a6 m c6, .slice a7 m c7, .slice a8 m c8] 29)).heap.size = w.heap.size + 1 := by simp
  rw [e1] at HR
  have HL := Lib.hid hl
  clear hl e1
  go_enter Try.func14, Try.ntmps14
  go_wp2_with fail
  generalize ((w.alloc (.cells #[.int .i64 n, .int .i64 s, .int .i64 t, .slice a3 (n + 1) c3, .slice a4 m c4, .slice a5 m c5, .slice a6 m c6, .slice a7 m c7, .slice a8 m c8] 29)).alloc (.cells (zeros n (.int .i64 0)) 3)) = W0 at HK HB HR ⊢
  clear hmk
  rw [zeros_ints, ← htPre_len n n ls, ← filled_zero] at HR
  obtain ⟨hb, hhb⟩ : ∃ hb, hb = w.heap.size + 1 := ⟨_, rfl⟩
  obtain ⟨cb, hcb⟩ : ∃ cb, cb = w.heap.size := ⟨_, rfl⟩
  rw [← hhb] at HR ⊢
  rw [← hcb] at HB ⊢
  have hbc : ¬ hb = cb := by omega
  have HBC := Lib.hid (And.intro hhb hcb)
  clear hhb hcb
  go_loopw [12] (fun ix wr => ∃ (k : Nat), ix = .int .i64 k ∧ k ≤ n ∧ Hid (Kept w wr) ∧ Hid (Blk wr cb #[.int .i64 n, .int .i64 s, .int .i64 t, .slice a3 (n + 1) c3, .slice a4 m c4, .slice a5 m c5, .slice a6 m c6, .slice a7 m c7, .slice a8 m c8] 29) ∧ Hid (Blk wr hb (lv (filled (htPre n n ls) 0 k)).toArray 3)) (fun ix _ => n - (intOf ix).toNat)
  case atStart => exact ⟨0, rfl, by omega, HK, HB, HR⟩
  case round =>
    clear HK HB HR
    obtain ⟨k, rfl, hk, HK, HB, HR⟩ := hrel
    have hpl := htPre_len n n ls
    by_cases hlt : k < n
    · have hF := htPre_at n n ls k (by omega)
      have HF := Lib.hid hF
      clear hF
      have j0 : (0 : Int) ≤ (k : Int) := by omega
      have j1 : (k : Int) < (n : Int) := by omega
      by_cases hkl : k < ls.length
      · have j2 : (k : Int) < (ls.length : Int) := by omega
        obtain ⟨lb, lo, ela, c00⟩ := HL.out.at k (by rw [lv_len]; exact hkl)
        have HLB : Hid (lb < w.heap.size) := Lib.hid (by
          rw [lv_get hkl] at c00
          exact World.block_lt_of_cell? w _ c00)
        subst ela
        obtain ⟨lb', lo', ela, c0⟩ := (HL.out.kept HK.out).at k (by rw [lv_len]; exact hkl)
        cases ela
        clear c00
        rw [lv_get hkl] at c0
        rw [if_pos hkl] at HF
        generalize ls.getD k 0 = x at c0 HF
        have cx := HB.out.cell
        obtain ⟨q, hq⟩ : ∃ q, q = (n : Int) + 1 := ⟨_, rfl⟩
        have w1 : wrap64 ((n : Int) + 1) = q := by unfold wrap64; omega
        have w2 : IntKind.i64.wrap ((n : Int) + 1) = q := by rw [IntKind.wrap_i64]; omega
        rw [← hq] at HF
        have HQ : Hid (1 ≤ q ∧ q ≤ 4611686018427387904) := Lib.hid (by omega)
        clear hq
        go_upto_region 6 with (fail)
        have HK1 : Hid (Kept w (wr.drew.setCell ⟨hb, k, none⟩ (.int .i64 (am x q)))) := Lib.hid (HK.out.drew.then (Upd.setCell (S := fun i => i = hb) (Upd.refl _ _) (.inl rfl) _) (fun i hi e => by have := HBC.out; omega))
        have HB1 := Lib.hid (HB.out.drew.other (p := ⟨hb, k, none⟩) (fun e => hbc e.symm) (.int .i64 (am x q)))
        have HR1 : Hid (Blk (wr.drew.setCell ⟨hb, k, none⟩ (.int .i64 (am x q))) hb (lv (filled (htPre n n ls) 0 (k + 1))).toArray 3) := Lib.hid (by
          have h2 := HR.out.drew.fill (by omega)
          rw [HF.out] at h2
          exact h2)
        have c0' : (wr.drew.setCell ⟨hb, k, none⟩ (.int .i64 (am x q))).cell? ⟨lb, lo + k, none⟩ = some (.int .i64 x) := by
          rw [World.cell?_of_block (w := wr) (show (wr.drew.setCell ⟨hb, k, none⟩ (.int .i64 (am x q))).heap[lb]? = wr.heap[lb]? from ?_), c0]
          exact (Upd.setCell (S := fun i => i = hb) (Upd.refl _ wr.drew) (.inl rfl) _).block lb (World.block_lt_of_cell? wr _ c0) (by
            have h1 := HLB.out
            have := HBC.out
            omega)
        have C0 : (∀ i, wr.drew.cell? ⟨cb, i, none⟩ = (#[.int .i64 n, .int .i64 s, .int .i64 t, .slice a3 (n + 1) c3, .slice a4 m c4, .slice a5 m c5, .slice a6 m c6, .slice a7 m c7, .slice a8 m c8] : Array Value)[i]?) ∧ wr.drew.cell? ⟨lb, lo + k, none⟩ = some (.int .i64 x) := ⟨HB.out.drew.cell, c0⟩
        have C1 : (∀ i, (wr.drew.setCell ⟨hb, k, none⟩ (.int .i64 (am x q))).cell? ⟨cb, i, none⟩ = (#[.int .i64 n, .int .i64 s, .int .i64 t, .slice a3 (n + 1) c3, .slice a4 m c4, .slice a5 m c5, .slice a6 m c6, .slice a7 m c7, .slice a8 m c8] : Array Value)[i]?) ∧ (wr.drew.setCell ⟨hb, k, none⟩ (.int .i64 (am x q))).cell? ⟨lb, lo + k, none⟩ = some (.int .i64 x) := ⟨HB1.out.cell, c0'⟩
        have hco := HR.out.filling (by omega)
        have hfo := HR.out.free k
        clear c0 c0' cx
        go_region_held3 (fun w' => (∀ i, w'.cell? ⟨cb, i, none⟩ = (#[.int .i64 n, .int .i64 s, .int .i64 t, .slice a3 (n + 1) c3, .slice a4 m c4, .slice a5 m c5, .slice a6 m c6, .slice a7 m c7, .slice a8 m c8] : Array Value)[i]?) ∧ w'.cell? ⟨lb, lo + k, none⟩ = some (.int .i64 x)) (first | exact C0 | exact C1)
          ((first
            | (go_at_call 38; refine (Among_any x q HQ.out.1 HQ.out.2 _).mono ?_; rintro e w' ⟨rfl, rfl⟩)))
        go_wp2_with fail
        go_roundw
        case rel => exact ⟨k + 1, by go_num, by omega, HK1, HB1, HR1⟩
        case measure => simp [intOf]; omega
      · have j2 : ¬ (k : Int) < (ls.length : Int) := by omega
        rw [if_neg hkl] at HF
        go_wp2_with fail
        go_roundw
        case rel => exact ⟨k + 1, by go_num, by omega, HK, HB, Lib.hid (by rw [filled_same _ _ _ (by omega) HF.out]; exact HR.out)⟩
        case measure => simp [intOf]; omega
    · have hkM : k = n := by omega
      subst hkM
      have HR0 : Hid (Blk wr hb (lv (htPre k k ls)).toArray 3) := Lib.hid (by
        have h2 := HR.out
        rw [show filled (htPre k k ls) 0 k = htPre k k ls from by have := filled_all (htPre k k ls) 0; rwa [hpl] at this] at h2
        exact h2)
      have HR1 : Hid (Blk (wr.drew.setCell ⟨hb, t, none⟩ (.int .i64 0)) hb (lv ((htPre k k ls).set t 0)).toArray 3) := Lib.hid (by
        have h := HR0.out.drew.set t (.int .i64 0)
        rw [show (lv ((htPre k k ls).set t 0)).toArray = (lv (htPre k k ls)).toArray.setIfInBounds t (.int .i64 0) by simp [lv, List.map_set]]
        exact h)
      have HR2 : Hid (Blk ((wr.drew.setCell ⟨hb, t, none⟩ (.int .i64 0)).setCell ⟨hb, s, none⟩ (.int .i64 k)) hb (lv (htL k s t k ls)).toArray 3) := Lib.hid (by
        have h := HR1.out.set s (.int .i64 k)
        rw [show (lv (htL k s t k ls)).toArray = (lv ((htPre k k ls).set t 0)).toArray.setIfInBounds s (.int .i64 k) by simp [htL, lv, List.map_set]]
        exact h)
      have HB1 := Lib.hid (HB.out.drew.other (p := ⟨hb, t, none⟩) (fun e => hbc e.symm) (.int .i64 0))
      have HB2 := Lib.hid (HB1.out.other (p := ⟨hb, s, none⟩) (fun e => hbc e.symm) (.int .i64 k))
      have C0 : ∀ i, wr.drew.cell? ⟨cb, i, none⟩ = (#[.int .i64 k, .int .i64 s, .int .i64 t, .slice a3 (k + 1) c3, .slice a4 m c4, .slice a5 m c5, .slice a6 m c6, .slice a7 m c7, .slice a8 m c8] : Array Value)[i]? := HB.out.drew.cell
      have C1 : ∀ i, (wr.drew.setCell ⟨hb, t, none⟩ (.int .i64 0)).cell? ⟨cb, i, none⟩ = (#[.int .i64 k, .int .i64 s, .int .i64 t, .slice a3 (k + 1) c3, .slice a4 m c4, .slice a5 m c5, .slice a6 m c6, .slice a7 m c7, .slice a8 m c8] : Array Value)[i]? := HB1.out.cell
      have C2 : ∀ i, ((wr.drew.setCell ⟨hb, t, none⟩ (.int .i64 0)).setCell ⟨hb, s, none⟩ (.int .i64 k)).cell? ⟨cb, i, none⟩ = (#[.int .i64 k, .int .i64 s, .int .i64 t, .slice a3 (k + 1) c3, .slice a4 m c4, .slice a5 m c5, .slice a6 m c6, .slice a7 m c7, .slice a8 m c8] : Array Value)[i]? := HB2.out.cell
      have htk : t < k := by omega
      have hsk : s < k := by omega
      obtain ⟨y0, hy0⟩ : ∃ y, wr.cell? ⟨hb, t, none⟩ = some y := by
        rw [HR0.out.cell]
        exact ⟨_, by rw [Array.getElem?_eq_getElem (by simp [lv, hpl]; omega)]⟩
      obtain ⟨y1, hy1⟩ : ∃ y, (wr.setCell ⟨hb, t, none⟩ (.int .i64 0)).cell? ⟨hb, s, none⟩ = some y := by
        have h := HR1.out.cell s
        rw [Array.getElem?_eq_getElem (by simp [lv, hpl]; omega)] at h
        exact ⟨_, h⟩
      have k0 : wr.frozen? ⟨hb, t, none⟩ = false := HR0.out.free t
      have k1 : (wr.setCell ⟨hb, t, none⟩ (.int .i64 0)).frozen? ⟨hb, s, none⟩ = false := HR1.out.free s
      have j3 : (0 : Int) ≤ (t : Int) := by omega
      have j4 : (t : Int) < (k : Int) := by omega
      have j5 : (0 : Int) ≤ (s : Int) := by omega
      have j6 : (s : Int) < (k : Int) := by omega
      go_upto_region 8 with (fail)
      go_region_held3 (fun w' => ∀ i, w'.cell? ⟨cb, i, none⟩ = (#[.int .i64 k, .int .i64 s, .int .i64 t, .slice a3 (k + 1) c3, .slice a4 m c4, .slice a5 m c5, .slice a6 m c6, .slice a7 m c7, .slice a8 m c8] : Array Value)[i]?) (first | exact C0 | exact C1 | exact C2) (fail)
      go_wp2_with fail
      go_ret
      have := HBC.out
      refine ⟨hb, rfl, HR2.out, by omega, ?_⟩
      exact (((HK.out.drew.then (Upd.setCell (S := fun i => i = hb) (Upd.refl _ _) (.inl rfl) _) (fun i hi e => by omega)).then (Upd.setCell (S := fun i => i = hb) (Upd.refl _ _) (.inl rfl) _) (fun i hi e => by omega)))
end Go.Proofs.Yticeionjlknlcaa
