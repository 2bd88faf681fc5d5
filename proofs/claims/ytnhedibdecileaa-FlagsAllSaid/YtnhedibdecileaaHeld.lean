/- Whose flags are up: flags.Held. A bank of a plan; claims. -/
import Derived.Test.YtnhedibdecileaaFlags
import Derived.Test.YtnhedibdecileaaRd
import Derived.Test.YtnhedibdecileaaPlan
import Derived.Test.YtnhedibdecileaaBankNew
namespace Go.Proofs.Ytnhedibdecileaa
set_option linter.unusedVariables false
open Go.RowKit

/-- Those of the first n whose flags, from cell f on, are up. -/
def heldOf (xs : List Int) (f : Int) (n : Nat) : List Int := ((List.range n).filter fun v : Nat => decide (bget xs (f + (v : Int)) ≠ 0)).map fun v : Nat => (v : Int)
theorem heldOf_succ (xs : List Int) (f : Int) (n : Nat) : heldOf xs f (n + 1) = heldOf xs f n ++ (if bget xs (f + (n : Int)) ≠ 0 then [(n : Int)] else []) := by
  unfold heldOf
  rw [List.range_succ, List.filter_append, List.map_append]
  congr 1
  by_cases h : bget xs (f + (n : Int)) = 0 <;> simp [h]
theorem heldOf_le (xs : List Int) (f : Int) (n : Nat) : (heldOf xs f n).length ≤ n := by
  unfold heldOf
  rw [List.length_map]
  have := List.length_filter_le (fun v : Nat => decide (bget xs (f + (v : Int)) ≠ 0)) (List.range n)
  simpa using this
theorem infoInt : (Try.prog.info? 3).map (fun i => (i.zero, i.size, i.bytes)) = some (some (.int .i64 0), 1, 8) := by kernel_rfl

def HeldIs (hs : List Int) (w : World) (e : Ending) (w' : World) : Prop := ∃ v, e = .returned v ∧ w'.ownsRow w.heap.size 3 1 v hs.length (hs.map (Value.int .i64)) ∧ Kept w w'

set_option maxHeartbeats 1000000 in
theorem Held_any (l : Lay) (bb g : Nat) (xs : List Int) (n : Nat) (w : World) (hb : Bnk w bb g xs) (hv : l.verts = (n : Int)) (hn : n ≤ 5000) (f0 : 0 ≤ l.flag) (f1 : l.flag ≤ 1000000) :
    Calls Try.prog 11 #[l.val, .pointer (some ⟨bb, 0, none⟩)] w (HeldIs (heldOf xs l.flag n) w) := by
  obtain ⟨verts, arcs, workers, room, res, ex, hh, flag, pending, ask, count, sense, deques, size⟩ := l
  simp only [Lay.val, Lay.vals] at *
  subst hv
  obtain ⟨i0, hi, hz0, hz1, hz2⟩ := info_parts infoInt
  have HB := Lib.hid hb
  clear hb
  go_enter Try.func11, Try.ntmps11
  go_wp2_with fail
  go_loopw [5, 9] (fun o i wr => ∃ k : Nat, i = .int .i64 k ∧ k ≤ n ∧ Hid (wr.ownsRow (w.heap.size + 1) 3 1 o (heldOf xs flag k).length ((heldOf xs flag k).map (Value.int .i64))) ∧
      Hid (Blk wr w.heap.size #[.int .i64 (n : Int), .int .i64 arcs, .int .i64 workers, .int .i64 room, .int .i64 res, .int .i64 ex, .int .i64 hh, .int .i64 flag, .int .i64 pending, .int .i64 ask, .int .i64 count, .int .i64 sense, .int .i64 deques, .int .i64 size] 25) ∧ Hid (Kept w wr)) (fun _ i _ => n - (intOf i).toNat)
  case atStart => exact ⟨0, rfl, by omega, Lib.hid (World.ownsRow_nil _ _ _ _), Lib.hid (Blk.new _ _ _), Lib.hid ((Upd.refl _ _).alloc _)⟩
  case round =>
    obtain ⟨k, rfl, hk, HO, HL, HK⟩ := hrel
    by_cases hlt : k < n
    · have c7 : wr.cell? ⟨w.heap.size, 7, none⟩ = some (.int .i64 flag) := by rw [HL.out.cell]; rfl
      have hsz := HK.out.size
      have hbs := HB.out.kept HK.out
      have hs := heldOf_succ xs flag k
      have hle := heldOf_le xs flag k
      by_cases hz : bget xs (flag + (k : Int)) = 0
      · have HLd := Lib.hid (Load_is hbs (flag + (k : Int)) 0 hz)
        have HO2 : Hid (wr.ownsRow (w.heap.size + 1) 3 1 u5 (heldOf xs flag (k + 1)).length ((heldOf xs flag (k + 1)).map (Value.int .i64))) := by
          rw [hs, if_neg (by simpa using hz), List.append_nil]; exact HO
        clear hbs hz hs HO
        go_wp2_with fail
        refine HLd.out.mono ?_
        rintro e w' ⟨rfl, rfl⟩
        go_wp2_with fail
        go_roundw
        case rel => exact ⟨k + 1, by go_num, by omega, HO2, HL, HK⟩
        case measure => simp [intOf]; omega
      · obtain ⟨z, hzz⟩ : ∃ z, bget xs (flag + (k : Int)) = z := ⟨_, rfl⟩
        have HLd := Lib.hid (Load_is hbs (flag + (k : Int)) z hzz)
        have hzb : (z != 0) = true := by rw [← hzz]; simpa using hz
        have HS := Lib.hid (show heldOf xs flag (k + 1) = heldOf xs flag k ++ [(k : Int)] by rw [hs, if_pos hz])
        clear hbs hz hs hzz
        go_wp2_with fail
        refine HLd.out.mono ?_
        rintro e w' ⟨rfl, rfl⟩
        go_wp2_with (at_builtin; refine wpList_append_own _ rfl _ _ 39 rfl (w.heap.size + 1) 3 i0 (.int .i64 0) 1 8 Try.underlying39 hi hz0 hz1 hz2 rfl (by decide) _ _ _ rfl (HO.out.alloc _) ⟨wr.heap.size, 0, none⟩ 1 1 [.int .i64 (k : Int)] rfl rfl ?c1 ?c2 ?c3 ?c4 ?c5 ?_)
        case c1 => exact cell_one_new _ _ _
        case c2 => simp [Value.oneCell']
        case c3 => unfold maxLen; omega
        case c4 => omega
        case c5 => have := HL.out.lt; simp; omega
        intro v' w1 hown hgrow hnil
        have HO2 : Hid (w1.ownsRow (w.heap.size + 1) 3 1 v' (heldOf xs flag (k + 1)).length ((heldOf xs flag (k + 1)).map (Value.int .i64))) := by
          rw [HS.out, List.length_append, List.map_append]; exact hown
        have hrow : ∀ j, Value.ownBlock u5 = some j → w.heap.size + 1 ≤ j := fun j hj => (World.ownsRow.lt HO.out j hj).1
        have HU : Hid (Upd (fun j => w.heap.size + 1 ≤ j) wr w1) := Lib.hid (Upd.grown ((Upd.refl _ _).alloc _) hgrow (fun j hj => .inl (hrow j hj)))
        have HL2 := Lib.hid (HL.out.upd HU.out (fun e => by omega))
        have HK2 := Lib.hid (HK.out.then HU.out (fun i h e => by omega))
        clear hown hgrow hnil hrow HU HL HK HO HS HLd c7
        go_wp2_with fail
        go_roundw
        case rel => exact ⟨k + 1, by go_num, by omega, HO2, HL2, HK2⟩
        case measure => simp [intOf]; omega
    · obtain rfl : k = n := by omega
      have hfin : Hid (HeldIs (heldOf xs flag k) w (.returned u5) wr) := Lib.hid ⟨_, rfl, ownsRow_base HO.out (by omega), HK.out⟩
      clear HO HL HK
      go_wp2
      go_ret
      exact hfin.out
end Go.Proofs.Ytnhedibdecileaa
