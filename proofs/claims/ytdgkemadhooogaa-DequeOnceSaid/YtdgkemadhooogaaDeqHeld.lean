/- deque.Held (printed by gen_deq.py). -/
import Derived.Test.YtdgkemadhooogaaDeqPart
import Derived.Test.YtdgkemadhooogaaRefBank
import Derived.Test.YtdgkemadhooogaaPush
import Derived.Test.YtdgkemadhooogaaRd
import Derived.Deep.RegionHeld3
import Derived.Deep.CutRange
import Derived.StillTailTactics
import Derived.Deep.MidRow
namespace Go.Proofs.Ytdgkemadhooogaa
set_option linter.unusedVariables false
set_option linter.unusedSimpArgs false
open Go.RowKit
attribute [local go_sem] cell?_ext

/-- What a deque holds. -/
def heldN (tp r : Nat) (xs : List Int) : Nat := min (bget xs ((tp : Int) + 1) - bget xs (tp : Int)).toNat (2 ^ r)
def heldTo (tp r : Nat) (xs : List Int) (n : Nat) : List Int := (List.range n).map fun (j : Nat) => bget xs (slot tp r (bget xs (tp : Int) + j))
def heldL (tp r : Nat) (xs : List Int) : List Int := heldTo tp r xs (heldN tp r xs)
theorem heldTo_succ (tp r : Nat) (xs : List Int) (n : Nat) : heldTo tp r xs (n + 1) = heldTo tp r xs n ++ [bget xs (slot tp r (bget xs (tp : Int) + n))] := by
  unfold heldTo
  rw [List.range_succ, List.map_append]
  rfl
theorem heldTo_len (tp r : Nat) (xs : List Int) (n : Nat) : (heldTo tp r xs n).length = n := by simp [heldTo]
def HeldEnd (L : List Int) (w : World) (e : Ending) (w' : World) : Prop := ∃ a c, e = .returned (.slice a L.length c) ∧ Rd w' a (L.map (Value.int .i64)) ∧ Kept w w'
set_option maxRecDepth 100000 in
set_option maxHeartbeats 4000000 in
theorem Held_any {w : World} {l : Lay} {k : Int} {bb g : Nat} {xs : List Int} {tp r : Nat} (hG : Geo l k tp r) (hb : Bnk w bb g xs) (hT : 0 ≤ bget xs (tp : Int) ∧ bget xs (tp : Int) ≤ 1000000) :
    Calls Try.prog 18 #[l.val, .int .i64 k, .pointer (some ⟨bb, 0, none⟩)] w (HeldEnd (heldL tp r xs) w) := by
  have h1 := hG.room_le
  have hrm := hG.room
  have HT := fun w => Lib.hid (show Calls Try.prog 46 #[l.val, .int .i64 k] w fun e w' => e = .returned (.int .i64 (tp : Int)) ∧ Kept w w' by rw [← hG.top]; exact Top_any l k w hG.d0 hG.d1 (by omega) (by omega) hG.k0 hG.k1)
  have HM := fun w => Lib.hid (show Calls Try.prog 47 #[l.val, .int .i64 k] w fun e w' => e = .returned (.int .i64 ((tp : Int) + 1)) ∧ Kept w w' by rw [← hG.top]; exact Bottom_any l k w hG.d0 hG.d1 (by omega) (by omega) hG.k0 hG.k1)
  have HS := fun (j : Int) (hj : 0 ≤ j ∧ j ≤ 1100000) w => Lib.hid (show Calls Try.prog 34 #[l.val, .int .i64 k, .int .i64 j] w fun e w' => e = .returned (.int .i64 (slot tp r j)) ∧ Kept w w' by
    obtain ⟨i, rfl⟩ : ∃ i : Nat, j = (i : Int) := ⟨j.toNat, by omega⟩
    unfold slot
    rw [← hG.top]
    exact Slot_any l k r i w hG.d0 hG.d1 hG.r13 hG.room hG.k0 hG.k1 (by omega))
  have hR : 2 ^ r ≤ 8192 := Nat.pow_le_pow_right (n := 2) (by omega) hG.r13
  obtain ⟨t0, ht0⟩ : ∃ t, bget xs (tp : Int) = t := ⟨_, rfl⟩
  obtain ⟨b0, hb0⟩ : ∃ b, bget xs ((tp : Int) + 1) = b := ⟨_, rfl⟩
  have HLT := fun (w' : World) (k' : Kept w w') => Lib.hid (Load_is (hb.kept k') (tp : Int) t0 ht0)
  have HLB := fun (w' : World) (k' : Kept w w') => Lib.hid (Load_is (hb.kept k') ((tp : Int) + 1) b0 hb0)
  have HLS := fun (j : Nat) (w' : World) (k' : Kept w w') => Lib.hid (Load_is (hb.kept k') (slot tp r (t0 + j)) _ rfl)
  obtain ⟨H, hH⟩ : ∃ H, heldN tp r xs = H := ⟨_, rfl⟩
  have HN : Hid (H = min (b0 - t0).toNat (2 ^ r)) := Lib.hid (by rw [← hH, ← ht0, ← hb0]; rfl)
  have HSC := fun n => Lib.hid (heldTo_succ tp r xs n)
  have HLN := fun n => Lib.hid (heldTo_len tp r xs n)
  unfold heldL
  rw [hH]
  rw [ht0] at hT HSC
  obtain ⟨verts, arcs, workers, room, res, lex, hh, flag, pending, ask, count, sense, deques, size⟩ := l
  simp only [Lay.val, Lay.vals] at HT HM HS ⊢
  simp only at hrm
  have HRM := Lib.hid hrm
  clear hrm
  have HK := Lib.hid ((Upd.refl (fun _ => False) w).alloc (.cells #[.int .i64 verts, .int .i64 arcs, .int .i64 workers, .int .i64 room, .int .i64 res, .int .i64 lex, .int .i64 hh, .int .i64 flag, .int .i64 pending, .int .i64 ask, .int .i64 count, .int .i64 sense, .int .i64 deques, .int .i64 size] 24))
  have HB := Lib.hid (Blk.new w #[.int .i64 verts, .int .i64 arcs, .int .i64 workers, .int .i64 room, .int .i64 res, .int .i64 lex, .int .i64 hh, .int .i64 flag, .int .i64 pending, .int .i64 ask, .int .i64 count, .int .i64 sense, .int .i64 deques, .int .i64 size] 24)
  clear hG hb ht0 hb0 h1 hH
  go_enter Try.func18, Try.ntmps18
  go_wp2_with fail
  refine (HT _).out.mono ?_
  rintro e w1 ⟨rfl, hk⟩
  have HK1 : Hid (Kept w w1) := Lib.hid (HK.out.trans hk)
  have HB1 := Lib.hid (HB.out.kept hk)
  clear hk HK HB HT
  generalize w.heap.size = lb at HB1 ⊢
  go_wp2_with fail
  refine (HLT _ HK1.out).out.mono ?_
  rintro e w2 ⟨rfl, rfl⟩
  clear HLT
  go_wp2_with fail
  go_loopw [7, 8] (fun ox ix wr => ∃ (j c : Nat) (oa : Option Addr), ox = .slice oa j c ∧ ix = .int .i64 (t0 + j) ∧ j ≤ H ∧ Hid (Kept w1 wr) ∧ Hid (wr.ownsRow w1.heap.size 2 1 (.slice oa j c) j ((heldTo tp r xs j).map (Value.int .i64)))) (fun ox _ _ => H - (match ox with | .slice _ n _ => n | _ => 0))
  case atStart => exact ⟨0, 0, none, rfl, by simp, by omega, Lib.hid (Upd.refl _ _), Lib.hid (by simpa [heldTo] using World.ownsRow_nil w1 w1.heap.size 2 1)⟩
  case round =>
    obtain ⟨j, c, oa, rfl, rfl, hj, HKR, HO⟩ := hrel
    have HW : Hid (Kept w wr) := Lib.hid (HK1.out.trans HKR.out)
    have bx := (HB1.out.kept HKR.out).cell
    go_wp2_with fail
    refine (HM _).out.mono ?_
    rintro e w3 ⟨rfl, hk⟩
    have HW3 : Hid (Kept w w3) := Lib.hid (HW.out.trans hk)
    have HKR3 : Hid (Kept w1 w3) := Lib.hid (HKR.out.trans hk)
    have HO3 := Lib.hid (ownsRow_upd HO.out hk (fun _ _ f => f))
    clear hk bx HO HKR HW
    have bx := (HB1.out.kept HKR3.out).cell
    go_wp2_with fail
    refine (HLB _ HW3.out).out.mono ?_
    rintro e w4 ⟨rfl, rfl⟩
    have hjr : j ≤ 2 ^ r := by have := HN.out; omega
    by_cases q1 : t0 + (j : Int) < b0
    · have d1 : decide (t0 + (j : Int) < b0) = true := by simpa using q1
      by_cases q2 : j < 2 ^ r
      · have d2 : (j : Int) < room := by rw [HRM.out]; exact Int.ofNat_lt.2 q2
        have hjH : j < H := by have := HN.out; omega
        have hj8 : j ≤ 8192 := by omega
        have hwj : wrap64 (t0 + (j : Int) + 1) = t0 + ((j + 1 : Nat) : Int) := by unfold wrap64; omega
        go_wp2_with fail
        refine (HS (t0 + j) (by omega) _).out.mono ?_
        rintro e w5 ⟨rfl, hk⟩
        have HW5 : Hid (Kept w w5) := Lib.hid (HW3.out.trans hk)
        have HKR5 : Hid (Kept w1 w5) := Lib.hid (HKR3.out.trans hk)
        have HO5 := Lib.hid (ownsRow_upd HO3.out hk (fun _ _ f => f))
        clear hk bx HO3 HKR3 HW3
        have HLS5 := HLS j _ HW5.out
        have HSJ := HSC j
        generalize slot tp r (t0 + j) = sl at HLS5 HSJ ⊢
        generalize bget xs sl = y at HLS5 HSJ ⊢
        go_wp2_with fail
        refine HLS5.out.mono ?_
        rintro e w6 ⟨rfl, rfl⟩
        obtain ⟨i0, hi0, hz0, hz1, hz2⟩ := info_parts info2
        have ho := HO5.out
        have hbs := HKR5.out.size
        clear HLS5
        go_wp2_with (first | (at_builtin; refine wpList_push rfl _ _ 29 rfl w1.heap.size 2 i0 (.int .i64 0) 8 Try.underlying29 hi0 hz0 hz1 hz2 rfl (by decide) _ _ _ rfl ho (.int .i64 y) rfl rfl (by omega) hbs ?_; intro gg cap' w7 hown hg2; clear hi0 hz0 hz1 hz2 ho hbs) | fail)
        have HK7 : Hid (Kept w1 w7) := Lib.hid (hg2.kept HKR5.out HO5.out (Nat.le_refl _))
        have HO7 : Hid (w7.ownsRow w1.heap.size 2 1 (.slice (some ⟨gg, 0, none⟩) (j + 1) cap') (j + 1) ((heldTo tp r xs (j + 1)).map (Value.int .i64))) := Lib.hid (by rw [HSJ.out, List.map_append]; exact hown)
        clear hown hg2 HO5 HKR5 HW5 HSJ d1 q1 q2 d2
        go_wp2_with fail
        go_roundw
        case rel => exact ⟨j + 1, cap', some ⟨gg, 0, none⟩, rfl, (by congr 1; omega), by omega, HK7, HO7⟩
        case measure => simp only; omega
      · have d2 : ¬ (j : Int) < room := by rw [HRM.out]; omega
        have hjH : j = H := by have := HN.out; omega
        obtain ⟨a', c', e9, hr9⟩ := Rd.owns HO3.out
        cases e9
        have H9 : Hid ((heldTo tp r xs H).length = j ∧ Rd w3 oa ((heldTo tp r xs H).map (Value.int .i64)) ∧ Kept w w3) := Lib.hid ⟨by rw [(HLN H).out, hjH], by rw [← hjH]; exact hr9, HW3.out⟩
        go_wp2_with fail
        go_ret
        exact ⟨oa, c, by rw [H9.out.1, hjH]; rfl, H9.out.2⟩
    · have d1 : decide (t0 + (j : Int) < b0) = false := by simpa using q1
      have hjH : j = H := by have := HN.out; omega
      obtain ⟨a', c', e9, hr9⟩ := Rd.owns HO3.out
      cases e9
      have H9 : Hid ((heldTo tp r xs H).length = j ∧ Rd w3 oa ((heldTo tp r xs H).map (Value.int .i64)) ∧ Kept w w3) := Lib.hid ⟨by rw [(HLN H).out, hjH], by rw [← hjH]; exact hr9, HW3.out⟩
      go_wp2_with fail
      go_ret
      exact ⟨oa, c, by rw [H9.out.1, hjH]; rfl, H9.out.2⟩
end Go.Proofs.Ytdgkemadhooogaa
