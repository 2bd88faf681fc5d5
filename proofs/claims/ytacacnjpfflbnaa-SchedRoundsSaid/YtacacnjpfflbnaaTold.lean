/- Steps of a script, one behind the other. -/
import Derived.Test.YtacacnjpfflbnaaNext2
import Derived.Test.YtacacnjpfflbnaaInts15
namespace Go.Proofs.Ytacacnjpfflbnaa
set_option linter.unusedVariables false
open Go.RowKit

/-- The script behind a step; what the step tells (-1: nobody). -/
def SS.step (s : SS) (dl : List Bool) : SS := match s.who dl with
  | some v => s.tell v dl
  | none => s
def SS.val (s : SS) (dl : List Bool) : Int := match s.who dl with
  | some v => (v : Int)
  | none => -1
def SS.run (s : SS) (dl : List Bool) : Nat → SS
  | 0 => s
  | k + 1 => (SS.run s dl k).step dl
def SS.vals (s : SS) (dl : List Bool) : Nat → List Int
  | 0 => []
  | k + 1 => SS.vals s dl k ++ [(SS.run s dl k).val dl]
theorem SS.vals_length (s : SS) (dl : List Bool) : ∀ k, (s.vals dl k).length = k
  | 0 => rfl
  | k + 1 => by simp [SS.vals, SS.vals_length s dl k]
theorem SS.tell_ended (s : SS) (v : Nat) (dl : List Bool) : (s.tell v dl).ended ≤ s.ended + 1 := by
  unfold SS.tell; split <;> simp
theorem SS.step_ended (s : SS) (dl : List Bool) : (s.step dl).ended ≤ s.ended + 1 := by
  unfold SS.step; split
  · exact SS.tell_ended _ _ _
  · simp
theorem SS.run_ended (s : SS) (dl : List Bool) : ∀ k, (s.run dl k).ended ≤ s.ended + k
  | 0 => by simp [SS.run]
  | k + 1 => by have := SS.run_ended s dl k; have := SS.step_ended (s.run dl k) dl; simp only [SS.run]; omega

/-- Next, of a script of whom nothing else is known. -/
theorem Next_some {w : World} {bd : Nat → Prop} {sb tb : Nat} {s : SS} (hS : Sc w bd sb tb s) (hbd : ∀ k, bd k → k < w.heap.size) (a : Option Addr) (c : Nat) (dl : List Bool) (hd : Rd w a (dl.map Value.bool))
    (hda : ∀ b off, a = some ⟨b, off, none⟩ → dl.map Value.bool ≠ [] → ¬ (b = sb ∨ b = tb)) (he : s.ended < 4611686018427387904) (v : Nat) (hv : s.who dl = some v) (t : SS) (ht : s.step dl = t) :
    Calls Try.prog 10 #[.pointer (some ⟨sb, 0, none⟩), .slice a dl.length c] w fun e w' => e = .returned (.tuple #[.int .i64 (v : Int), .bool true]) ∧ Sc w' bd sb tb t ∧ Upd (fun k => k = sb ∨ k = tb) w w' := by
  refine (Next_any hS hbd a c dl hd hda he).mono fun e w' h => ?_
  unfold NextIs at h
  rw [hv] at h
  have : t = s.tell v dl := by rw [← ht]; unfold SS.step; rw [hv]
  rw [this]
  exact h
theorem Next_none {w : World} {bd : Nat → Prop} {sb tb : Nat} {s : SS} (hS : Sc w bd sb tb s) (hbd : ∀ k, bd k → k < w.heap.size) (a : Option Addr) (c : Nat) (dl : List Bool) (hd : Rd w a (dl.map Value.bool))
    (hda : ∀ b off, a = some ⟨b, off, none⟩ → dl.map Value.bool ≠ [] → ¬ (b = sb ∨ b = tb)) (he : s.ended < 4611686018427387904) (hv : s.who dl = none) :
    Calls Try.prog 10 #[.pointer (some ⟨sb, 0, none⟩), .slice a dl.length c] w fun e w' => e = .returned (.tuple #[.int .i64 0, .bool false]) ∧ Kept w w' := by
  refine (Next_any hS hbd a c dl hd hda he).mono fun e w' h => ?_
  unfold NextIs at h
  rw [hv] at h
  exact h

def ToldIs (bd : Nat → Prop) (sb tb : Nat) (s : SS) (dl : List Bool) (n : Nat) (w : World) (e : Ending) (w' : World) : Prop :=
  ∃ v, e = .returned v ∧ w'.ownsRow w.heap.size 3 1 v n ((s.vals dl n).map (Value.int .i64)) ∧ Sc w' bd sb tb (s.run dl n) ∧ Upd (fun k => k = sb ∨ k = tb) w w'

set_option maxHeartbeats 2000000 in
theorem told_any {w : World} {bd : Nat → Prop} {sb tb : Nat} {s : SS} (hS : Sc w bd sb tb s) (hbd : ∀ k, bd k → k < w.heap.size) (a : Option Addr) (c : Nat) (dl : List Bool) (hd : Rd w a (dl.map Value.bool))
    (hda : ∀ b off, a = some ⟨b, off, none⟩ → dl.map Value.bool ≠ [] → ¬ (b = sb ∨ b = tb)) (n : Nat) (hn : n ≤ 1000) (he : s.ended ≤ 1000000) :
    Calls Try.prog 22 #[.pointer (some ⟨sb, 0, none⟩), .int .i64 (n : Int), .slice a dl.length c] w (ToldIs bd sb tb s dl n w) := by
  obtain ⟨i0, hi, hz0, hz1, hz2⟩ := info_parts infoInt
  have hsb : sb < w.heap.size := by obtain ⟨_, _, h, _⟩ := hS; exact h.head.lt
  have htb : tb < w.heap.size := by obtain ⟨_, _, h, _⟩ := hS; exact h.told.lt
  have HS0 := Lib.hid hS
  have HD := Lib.hid hd
  have HDA := Lib.hid hda
  have HBD := Lib.hid hbd
  clear hS hd hda hbd
  go_enter Try.func22, Try.ntmps22
  go_wp2_with fail
  go_loopw [7, 11] (fun o i wr => ∃ k : Nat, i = .int .i64 k ∧ k ≤ n ∧ Hid (wr.ownsRow w.heap.size 3 1 o k ((s.vals dl k).map (Value.int .i64))) ∧ Hid (Sc wr bd sb tb (s.run dl k)) ∧ Hid (Upd (fun k => k = sb ∨ k = tb) w wr)) (fun _ i _ => n - (intOf i).toNat)
  case atStart => exact ⟨0, rfl, by omega, Lib.hid (World.ownsRow_nil _ _ _ _), HS0, Lib.hid (Upd.refl _ _)⟩
  case round =>
    obtain ⟨k, rfl, hk, HO, HS, HU⟩ := hrel
    clear HS0
    by_cases hlt : k < n
    · have hsz := HU.out.size
      have hend := SS.run_ended s dl k
      have hvs : ∀ x, (s.run dl k).val dl = x → s.vals dl (k + 1) = s.vals dl k ++ [x] := fun x e => by rw [← e]; rfl
      have hlen : (s.vals dl k).length = k := SS.vals_length s dl k
      have HRd := Lib.hid (HD.out.upd HU.out (fun b off e h0 => HDA.out b off e h0))
      cases hw : (s.run dl k).who dl with
      | some v =>
        have HN := Lib.hid (Next_some HS.out (fun k hk => Nat.lt_of_lt_of_le (HBD.out k hk) hsz) a c dl HRd.out HDA.out (by omega) v hw (s.run dl (k + 1)) rfl)
        have HV := Lib.hid (hvs (v : Int) (by unfold SS.val; rw [hw]))
        clear hw hvs hlen HRd
        go_wp2_with fail
        refine HN.out.mono ?_
        rintro e w2 ⟨rfl, hS2, hU2⟩
        have HS2 := Lib.hid hS2
        have HU2 := Lib.hid (HU.out.trans hU2)
        have HO2 := Lib.hid (ownsRow_upd HO.out hU2 (fun k hk e => by rcases e with e | e <;> omega))
        have hsz2 := HU2.out.size
        clear hS2 hU2 HN HO
        go_wp2_with (at_builtin; refine wpList_append_own _ rfl _ _ 22 rfl w.heap.size 3 i0 (.int .i64 0) 1 8 Try.underlying22 hi hz0 hz1 hz2 rfl (by decide) _ _ _ rfl (HO2.out.alloc _) ⟨w2.heap.size, 0, none⟩ 1 1 [.int .i64 (v : Int)] rfl rfl ?c1 ?c2 ?c3 ?c4 ?c5 ?_)
        case c1 => exact cell_one_new _ _ _
        case c2 => simp [Value.oneCell']
        case c3 => unfold maxLen; omega
        case c4 => omega
        case c5 => simp; omega
        intro v' w1 hown hgrow hnil
        have HO3 : Hid (w1.ownsRow w.heap.size 3 1 v' (k + 1) ((s.vals dl (k + 1)).map (Value.int .i64))) := by
          rw [HV.out, List.map_append]; exact hown
        have hrow : ∀ j, Value.ownBlock u7 = some j → w.heap.size ≤ j := fun j hj => (World.ownsRow.lt HO2.out j hj).1
        have HU3 : Hid (Upd (fun j => w.heap.size ≤ j) w2 w1) := Lib.hid (Upd.grown ((Upd.refl _ _).alloc _) hgrow (fun j hj => .inl (hrow j hj)))
        have HS3 := Lib.hid (HS2.out.upd HU3.out (fun e => by omega) (fun e => by omega) (fun k hk e => by have := HBD.out k hk; omega))
        have HU4 := Lib.hid (HU2.out.then HU3.out (fun i h e => by omega))
        clear hown hgrow hnil hrow HU3 HO2 HS2 HU2 HU HS HV
        go_wp2_with fail
        go_roundw
        case rel => exact ⟨k + 1, by go_num, by omega, HO3, HS3, HU4⟩
        case measure => simp [intOf]; omega
      | none =>
        have HN := Lib.hid (Next_none HS.out (fun k hk => Nat.lt_of_lt_of_le (HBD.out k hk) hsz) a c dl HRd.out HDA.out (by omega) hw)
        have HV := Lib.hid (hvs (-1) (by unfold SS.val; rw [hw]))
        have HR : Hid (s.run dl (k + 1) = s.run dl k) := Lib.hid (by show (s.run dl k).step dl = _; unfold SS.step; rw [hw])
        clear hw hvs hlen HRd
        go_wp2_with fail
        refine HN.out.mono ?_
        rintro e w2 ⟨rfl, hk2⟩
        have HS2 : Hid (Sc w2 bd sb tb (s.run dl (k + 1))) := Lib.hid (by rw [HR.out]; exact HS.out.kept hk2)
        have HU2 := Lib.hid (HU.out.then hk2 (fun _ _ e => e.elim))
        have HO2 := Lib.hid (ownsRow_upd HO.out hk2 (fun k hk e => e))
        have hsz2 := HU2.out.size
        clear hk2 HN HO HR
        go_wp2_with (at_builtin; refine wpList_append_own _ rfl _ _ 22 rfl w.heap.size 3 i0 (.int .i64 0) 1 8 Try.underlying22 hi hz0 hz1 hz2 rfl (by decide) _ _ _ rfl (HO2.out.alloc _) ⟨w2.heap.size, 0, none⟩ 1 1 [.int .i64 (-1)] rfl rfl ?c1 ?c2 ?c3 ?c4 ?c5 ?_)
        case c1 => exact cell_one_new _ _ _
        case c2 => simp [Value.oneCell']
        case c3 => unfold maxLen; omega
        case c4 => omega
        case c5 => simp; omega
        intro v' w1 hown hgrow hnil
        have HO3 : Hid (w1.ownsRow w.heap.size 3 1 v' (k + 1) ((s.vals dl (k + 1)).map (Value.int .i64))) := by
          rw [HV.out, List.map_append]; exact hown
        have hrow : ∀ j, Value.ownBlock u7 = some j → w.heap.size ≤ j := fun j hj => (World.ownsRow.lt HO2.out j hj).1
        have HU3 : Hid (Upd (fun j => w.heap.size ≤ j) w2 w1) := Lib.hid (Upd.grown ((Upd.refl _ _).alloc _) hgrow (fun j hj => .inl (hrow j hj)))
        have HS3 := Lib.hid (HS2.out.upd HU3.out (fun e => by omega) (fun e => by omega) (fun k hk e => by have := HBD.out k hk; omega))
        have HU4 := Lib.hid (HU2.out.then HU3.out (fun i h e => by omega))
        clear hown hgrow hnil hrow HU3 HO2 HS2 HU2 HU HS HV
        go_wp2_with fail
        go_roundw
        case rel => exact ⟨k + 1, by go_num, by omega, HO3, HS3, HU4⟩
        case measure => simp [intOf]; omega
    · obtain rfl : k = n := by omega
      have hfin : Hid (ToldIs bd sb tb s dl k w (.returned u7) wr) := Lib.hid ⟨_, rfl, HO.out, HS.out, HU.out⟩
      clear HO HS HU
      go_wp2
      go_ret
      exact hfin.out
end Go.Proofs.Ytacacnjpfflbnaa
