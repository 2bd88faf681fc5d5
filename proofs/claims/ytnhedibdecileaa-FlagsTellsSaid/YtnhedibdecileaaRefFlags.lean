/- The reference of layer 12: Claim, Free, Held. -/
import Derived.Test.YtnhedibdecileaaHeld
import Derived.Test.YtnhedibdecileaaRefBank
namespace Go.Proofs.Ytnhedibdecileaa
set_option linter.unusedVariables false
open Go.RowKit

theorem bget_bput (xs : List Int) (i v : Int) : bget (bput xs i v) i = (if 0 ≤ i ∧ i < xs.length then v else 0) := by
  by_cases h : 0 ≤ i ∧ i < xs.length
  · rw [if_pos h, bget_in h.1, bput_in _ h.1]
    have : i.toNat < xs.length := by omega
    simp [this]
  · rw [if_neg h, bput_out _ h, bget_out h]
theorem rb_ne {w : World} {gm cap bb g : Nat} {xs ys : List Int} (h : RB w gm cap xs) (hb : Bnk w bb g ys) : ¬ gm = g := by
  intro e
  subst e
  rcases h.2 with ⟨h1, _⟩ | ⟨g', cap', cur, hv, _, hh, _⟩
  · cases h1
  · cases hv
    have := hh.symm.trans hb.row
    simp at this
theorem refLoadN {g cap N : Nat} {xs : List Int} {w : World} (hr : RB w g cap xs) (hN : xs.length = N) (i : Int) (hm : N ≤ 1000000) :
    Calls Try.prog 28 #[.slice (some ⟨g, 0, none⟩) N cap, .int .i64 i] w fun e w' => e = .returned (.int .i64 (bget xs i)) ∧ w = w' := by
  subst hN; exact refLoad_any hr i hm
theorem refLoadIs {g cap N : Nat} {xs : List Int} {w : World} (hr : RB w g cap xs) (hN : xs.length = N) (i r : Int) (hm : N ≤ 1000000) (h : bget xs i = r) :
    Calls Try.prog 28 #[.slice (some ⟨g, 0, none⟩) N cap, .int .i64 i] w fun e w' => e = .returned (.int .i64 r) ∧ w = w' := by
  subst hN h; exact refLoad_any hr i hm
def PutN (N : Nat) (xs : List Int) (w : World) (e : Ending) (w' : World) : Prop := ∃ g cap, e = .returned (.slice (some ⟨g, 0, none⟩) N cap) ∧ RB w' g cap xs ∧ w.heap.size ≤ g ∧ Kept w w'
theorem refPutN {g cap N : Nat} {xs : List Int} {w : World} (hr : RB w g cap xs) (hN : xs.length = N) (i v : Int) (hm : N ≤ 1000000) :
    Calls Try.prog 27 #[.slice (some ⟨g, 0, none⟩) N cap, .int .i64 i, .int .i64 v] w (PutN N (bput xs i v) w) := by
  subst hN
  refine (refPut_any hr i v hm).mono fun e w' ⟨g', c', h1, h2⟩ => ⟨g', c', ?_, h2⟩
  rw [h1, length_bput]
set_option maxHeartbeats 1000000 in
theorem refHeld_any (l : Lay) (g cap : Nat) (xs : List Int) (n : Nat) (w : World) (hb : RB w g cap xs) (hmx : xs.length ≤ 1000000) (hv : l.verts = (n : Int)) (hn : n ≤ 5000) (f0 : 0 ≤ l.flag) (f1 : l.flag ≤ 1000000) :
    Calls Try.prog 21 #[l.val, .slice (some ⟨g, 0, none⟩) xs.length cap] w (HeldIs (heldOf xs l.flag n) w) := by
  obtain ⟨verts, arcs, workers, room, res, ex, hh, flag, pending, ask, count, sense, deques, size⟩ := l
  simp only [Lay.val, Lay.vals] at *
  subst hv
  obtain ⟨i0, hi, hz0, hz1, hz2⟩ := info_parts infoInt
  have HB := Lib.hid hb
  clear hb
  go_enter Try.func21, Try.ntmps21
  go_wp2_with fail
  go_loopw [5, 6] (fun o i wr => ∃ k : Nat, i = .int .i64 k ∧ k ≤ n ∧ Hid (wr.ownsRow (w.heap.size + 1) 3 1 o (heldOf xs flag k).length ((heldOf xs flag k).map (Value.int .i64))) ∧
      Hid (Blk wr w.heap.size #[.int .i64 (n : Int), .int .i64 arcs, .int .i64 workers, .int .i64 room, .int .i64 res, .int .i64 ex, .int .i64 hh, .int .i64 flag, .int .i64 pending, .int .i64 ask, .int .i64 count, .int .i64 sense, .int .i64 deques, .int .i64 size] 25) ∧ Hid (Kept w wr)) (fun _ i _ => n - (intOf i).toNat)
  case atStart => exact ⟨0, rfl, by omega, Lib.hid (World.ownsRow_nil _ _ _ _), Lib.hid (Blk.new _ _ _), Lib.hid ((Upd.refl _ _).alloc _)⟩
  case round =>
    obtain ⟨k, rfl, hk, HO, HL, HK⟩ := hrel
    by_cases hlt : k < n
    · have c7 : wr.cell? ⟨w.heap.size, 7, none⟩ = some (.int .i64 flag) := by rw [HL.out.cell]; rfl
      have c00 : wr.cell? ⟨w.heap.size, 0, none⟩ = some (.int .i64 (n : Int)) := by rw [HL.out.cell]; rfl
      have hsz := HK.out.size
      have hbs := HB.out.kept HK.out
      have hs := heldOf_succ xs flag k
      have hle := heldOf_le xs flag k
      by_cases hz : bget xs (flag + (k : Int)) = 0
      · have HLd := Lib.hid (refLoadIs hbs rfl (flag + (k : Int)) 0 hmx hz)
        have HO2 : Hid (wr.ownsRow (w.heap.size + 1) 3 1 u5 (heldOf xs flag (k + 1)).length ((heldOf xs flag (k + 1)).map (Value.int .i64))) := by
          rw [hs, if_neg (by simpa using hz), List.append_nil]; exact HO
        clear hbs hz hs HO
        go_wp2_with fail
        refine HLd.out.mono ?_
        rintro e w' ⟨rfl, rfl⟩
        go_wp2_with fail
        go_roundw
        case rel => exact ⟨k + 1, by go_num, by omega, HO2, HL, HK⟩
        case measure => simp [intOf]; omega
      · obtain ⟨z, hzz⟩ : ∃ z, bget xs (flag + (k : Int)) = z := ⟨_, rfl⟩
        have HLd := Lib.hid (refLoadIs hbs rfl (flag + (k : Int)) z hmx hzz)
        have hzb : (z != 0) = true := by rw [← hzz]; simpa using hz
        have HS := Lib.hid (show heldOf xs flag (k + 1) = heldOf xs flag k ++ [(k : Int)] by rw [hs, if_pos hz])
        clear hbs hz hs hzz
        go_wp2_with fail
        refine HLd.out.mono ?_
        rintro e w' ⟨rfl, rfl⟩
        go_wp2_with (at_builtin; refine wpList_append_own _ rfl _ _ 39 rfl (w.heap.size + 1) 3 i0 (.int .i64 0) 1 8 Try.underlying39 hi hz0 hz1 hz2 rfl (by decide) _ _ _ rfl (HO.out.alloc _) ⟨wr.heap.size, 0, none⟩ 1 1 [.int .i64 (k : Int)] rfl rfl ?c1 ?c2 ?c3 ?c4 ?c5 ?_)
        case c1 => exact cell_one_new _ _ _
        case c2 => simp [Value.oneCell']
        case c3 => unfold maxLen; omega
        case c4 => omega
        case c5 => have := HL.out.lt; simp; omega
        intro v' w1 hown hgrow hnil
        have HO2 : Hid (w1.ownsRow (w.heap.size + 1) 3 1 v' (heldOf xs flag (k + 1)).length ((heldOf xs flag (k + 1)).map (Value.int .i64))) := by
          rw [HS.out, List.length_append, List.map_append]; exact hown
        have hrow : ∀ j, Value.ownBlock u5 = some j → w.heap.size + 1 ≤ j := fun j hj => (World.ownsRow.lt HO.out j hj).1
        have HU : Hid (Upd (fun j => w.heap.size + 1 ≤ j) wr w1) := Lib.hid (Upd.grown ((Upd.refl _ _).alloc _) hgrow (fun j hj => .inl (hrow j hj)))
        have HL2 := Lib.hid (HL.out.upd HU.out (fun e => by omega))
        have HK2 := Lib.hid (HK.out.then HU.out (fun i h e => by omega))
        clear hown hgrow hnil hrow HU HL HK HO HS HLd c7 c00
        go_wp2_with fail
        go_roundw
        case rel => exact ⟨k + 1, by go_num, by omega, HO2, HL2, HK2⟩
        case measure => simp [intOf]; omega
    · have c00 : wr.cell? ⟨w.heap.size, 0, none⟩ = some (.int .i64 (n : Int)) := by rw [HL.out.cell]; rfl
      obtain rfl : k = n := by omega
      have hfin : Hid (HeldIs (heldOf xs flag k) w (.returned u5) wr) := Lib.hid ⟨_, rfl, ownsRow_base HO.out (by omega), HK.out⟩
      clear HO HL HK
      go_wp2
      go_ret
      exact hfin.out

theorem refFree_any (l : Lay) (v : Int) {g cap N : Nat} {xs : List Int} {w : World} (hr : RB w g cap xs) (hN : xs.length = N) (hm : N ≤ 1000000) (h1 : 0 ≤ l.flag) (h2 : l.flag ≤ 1000000) (h3 : 0 ≤ v) (h4 : v ≤ 1000000) :
    Calls Try.prog 14 #[l.val, .int .i64 v, .slice (some ⟨g, 0, none⟩) N cap] w (PutN N (bput xs (l.flag + v) 0) w) := by
  obtain ⟨verts, arcs, workers, room, res, ex, hh, flag, pending, ask, count, sense, deques, size⟩ := l
  simp only [Lay.val, Lay.vals] at *
  have HP := fun w (hr : RB w g cap xs) => Lib.hid (refPutN hr hN (flag + v) 0 hm)
  have HR := Lib.hid hr
  clear hr hN
  go_enter Try.func14, Try.ntmps14
  go_wp2_with fail
  refine (HP _ (HR.out.kept ((Upd.refl _ _).alloc _))).out.mono ?_
  rintro e w1 ⟨g', cap', rfl, hR, hg, hk⟩
  have hfin : Hid (PutN N (bput xs (flag + v) 0) w (.returned (.slice (some ⟨g', 0, none⟩) N cap')) w1) := Lib.hid ⟨g', cap', rfl, hR, by simp at hg; omega, ((Upd.refl _ _).alloc _).trans hk⟩
  clear hR hg hk HR HP
  go_wp2
  go_ret
  exact hfin.out

def ClaimN (N : Nat) (r : Bool) (xs : List Int) (w : World) (e : Ending) (w' : World) : Prop := ∃ g cap, e = .returned (.tuple #[.slice (some ⟨g, 0, none⟩) N cap, .bool r]) ∧ RB w' g cap xs ∧ Kept w w'
theorem refClaim_any (l : Lay) (v : Int) {g cap N : Nat} {xs : List Int} {w : World} (hr : RB w g cap xs) (hN : xs.length = N) (hm : N ≤ 1000000) (h1 : 0 ≤ l.flag) (h2 : l.flag ≤ 1000000) (h3 : 0 ≤ v) (h4 : v ≤ 1000000) :
    Calls Try.prog 15 #[l.val, .int .i64 v, .slice (some ⟨g, 0, none⟩) N cap] w
      (ClaimN N (decide (bget xs (l.flag + v) = 0)) (if bget xs (l.flag + v) = 0 then bput xs (l.flag + v) 1 else xs) w) := by
  obtain ⟨verts, arcs, workers, room, res, ex, hh, flag, pending, ask, count, sense, deques, size⟩ := l
  simp only [Lay.val, Lay.vals] at *
  have HR := Lib.hid hr
  by_cases hz : bget xs (flag + v) = 0
  · have HLd := fun w (hr : RB w g cap xs) => Lib.hid (refLoadIs hr hN (flag + v) 0 hm hz)
    have HP := fun w (hr : RB w g cap xs) => Lib.hid (refPutN hr hN (flag + v) 1 hm)
    rw [decide_eq_true hz, if_pos hz]
    clear hr hN hz
    go_enter Try.func15, Try.ntmps15
    go_wp2_with fail
    refine (HLd _ (HR.out.kept ((Upd.refl _ _).alloc _))).out.mono ?_
    rintro e w' ⟨rfl, rfl⟩
    go_wp2_with fail
    refine (HP _ (HR.out.kept ((Upd.refl _ _).alloc _))).out.mono ?_
    rintro e w1 ⟨g', cap', rfl, hR, hg, hk⟩
    have hfin : Hid (ClaimN N true (bput xs (flag + v) 1) w (.returned (.tuple #[.slice (some ⟨g', 0, none⟩) N cap', .bool true])) w1) := Lib.hid ⟨g', cap', rfl, hR, ((Upd.refl _ _).alloc _).trans hk⟩
    clear hR hg hk HR HP HLd
    go_wp2
    go_ret2
    exact hfin.out
  · obtain ⟨z, hzz⟩ : ∃ z, bget xs (flag + v) = z := ⟨_, rfl⟩
    have HLd := fun w (hr : RB w g cap xs) => Lib.hid (refLoadIs hr hN (flag + v) z hm hzz)
    have hzb : (z != 0) = true := by rw [← hzz]; simpa using hz
    rw [decide_eq_false hz, if_neg hz]
    clear hr hN hz hzz
    have hfin : Hid (ClaimN N false xs w (.returned (.tuple #[.slice (some ⟨g, 0, none⟩) N cap, .bool false])) (w.alloc (.cells #[.int .i64 verts, .int .i64 arcs, .int .i64 workers, .int .i64 room, .int .i64 res, .int .i64 ex, .int .i64 hh, .int .i64 flag, .int .i64 pending, .int .i64 ask, .int .i64 count, .int .i64 sense, .int .i64 deques, .int .i64 size] 25))) := Lib.hid ⟨g, cap, rfl, HR.out.kept ((Upd.refl _ _).alloc _), (Upd.refl _ _).alloc _⟩
    go_enter Try.func15, Try.ntmps15
    go_wp2_with fail
    refine (HLd _ (HR.out.kept ((Upd.refl _ _).alloc _))).out.mono ?_
    rintro e w' ⟨rfl, rfl⟩
    go_wp2
    go_ret2
    exact hfin.out
end Go.Proofs.Ytnhedibdecileaa
