/- The chapter's examples (layer 15): awake answers true. -/
import Derived.Test.YtacacnjpfflbnaaTold
namespace Go.Proofs.Ytacacnjpfflbnaa
set_option linter.unusedVariables false
open Go.RowKit

theorem Sc.lt {w : World} {bd : Nat → Prop} {sb tb : Nat} {s : SS} (h : Sc w bd sb tb s) : sb < w.heap.size ∧ tb < w.heap.size := by obtain ⟨_, _, h, _⟩ := h; exact ⟨h.head.lt, h.told.lt⟩
theorem Left_sc {w : World} {bd : Nat → Prop} {sb tb : Nat} {s : SS} (h : Sc w bd sb tb s) (n : Int) (hn : (s.picks.length : Int) = n) :
    Calls Try.prog 9 #[.pointer (some ⟨sb, 0, none⟩)] w fun e w' => e = .returned (.int .i64 n) ∧ w = w' := by subst hn; obtain ⟨_, _, h, _⟩ := h; exact Left_any h
theorem Rounds_sc {w : World} {bd : Nat → Prop} {sb tb : Nat} {s : SS} (h : Sc w bd sb tb s) (n : Int) (hn : (s.ended : Int) = n) :
    Calls Try.prog 14 #[.pointer (some ⟨sb, 0, none⟩)] w fun e w' => e = .returned (.int .i64 n) ∧ w = w' := by subst hn; obtain ⟨_, _, h, _⟩ := h; exact Rounds_any h

set_option maxRecDepth 100000 in
set_option maxHeartbeats 1000000 in
theorem awake_any (w : World) :
    Calls Try.prog 11 #[] w fun e w' => e = .returned (.bool true) ∧ Kept w w' := by
  go_enter Try.func11, Try.ntmps11
  go_wp2_with fail
  refine (New_ok 3 _ _ [1, -1, 4] _ (by decide) (by decide) (Rd.blk (Blk.new _ _ _)) (by decide)).mono ?_
  rintro e w1 ⟨sa, ta, rfl, hS, ha, ht, hk⟩
  have HA1 := Lib.hid hS
  have HK1 := Lib.hid (((Upd.refl (fun _ => False) w).alloc _).trans hk)
  simp only [World.size_alloc] at ha ht
  clear hS hk
  go_wp2_with fail
  refine (New_ok 3 _ _ [1, -1, 4] _ (by decide) (by decide) (Rd.blk (Blk.new _ _ _)) (by decide)).mono ?_
  rintro e w2 ⟨sb, tb, rfl, hS, hb, ht2, hk⟩
  have hka := ((Upd.refl (fun _ => False) w1).alloc (.cells #[.int .i64 1, .int .i64 (-1), .int .i64 4] 3)).trans hk
  have HA2 := Lib.hid (HA1.out.kept hka)
  have HB2 := Lib.hid hS
  have HK2 := Lib.hid (HK1.out.trans hka)
  have l1 := HA1.out.lt
  simp only [World.size_alloc] at hb ht2 HB2
  have s1 := hka.size
  have s0 := HK1.out.size
  clear hS hk HA1 HK1 hka
  go_wp2_with fail
  refine (told_any HA2.out (fun k hk => by simp at hk; omega) none 0 [] (.inl rfl) (fun b off e => by cases e) 7 (by decide) (by decide)).mono ?_
  rintro e w3 ⟨v, rfl, hO, hS, hU⟩
  rw [show SS.vals ⟨[1, -1, 4], 3 - 1, List.replicate 3 false, 0⟩ [] 7 = [1, 2, 1, 2, 0, 1, 2] from by decide +kernel] at hO
  obtain ⟨a1, c1, rfl, hR⟩ := Rd.owns hO
  have HA3 := Lib.hid hS
  have HB3 := Lib.hid (HB2.out.upd hU (fun e => by omega) (fun e => by omega) (fun k hk e => by omega))
  have HK3 := Lib.hid (HK2.out.then hU (fun i h e => by omega))
  have HR3 := Lib.hid hR
  have s3 := hU.size
  clear hO hS hU hR HA2 HB2 HK2
  go_wp2_with fail
  refine (ints_same a1 _ c1 _ [1, 2, 1, 2, 0, 1, 2] [1, 2, 1, 2, 0, 1, 2] _ (HR3.out.kept ((Upd.refl _ _).alloc _)) (Rd.blk (Blk.new _ _ _)) (by decide) (by decide)).mono ?_
  rintro e w4 ⟨rfl, hk⟩
  have hk4 := ((Upd.refl (fun _ => False) w3).alloc _).trans hk
  have HA4 := Lib.hid (HA3.out.kept hk4)
  have HB4 := Lib.hid (HB3.out.kept hk4)
  have HK4 := Lib.hid (HK3.out.trans hk4)
  have s4 := hk4.size
  have hd : decide (([1, 2, 1, 2, 0, 1, 2] : List Int) = [1, 2, 1, 2, 0, 1, 2]) = true := by decide
  rw [hd]
  clear hk hk4 HA3 HB3 HK3 HR3 hd
  go_wp2_with fail
  refine (told_any (HB4.out.kept ((Upd.refl _ _).alloc _)) (fun k hk => by simp; omega) _ _ [false, true] (Rd.blk (Blk.new _ _ _)) (fun b off e _ => by cases e; have := HB4.out.lt; omega) 6 (by decide) (by decide)).mono ?_
  rintro e w5 ⟨v, rfl, hO, hS, hU⟩
  rw [show SS.vals ⟨[1, -1, 4], 3 - 1, List.replicate 3 false, 0⟩ [false, true] 6 = [2, 2, 2, 0, 2, 0] from by decide +kernel] at hO
  obtain ⟨a2, c2, rfl, hR⟩ := Rd.owns hO
  have HA5 := Lib.hid ((HA4.out.kept ((Upd.refl _ _).alloc _)).upd hU (fun e => by omega) (fun e => by omega) (fun k hk e => by simp at hk; omega))
  have HK5 := Lib.hid ((HK4.out.alloc _).then hU (fun i h e => by omega))
  have HR5 := Lib.hid hR
  clear hO hS hU hR HA4 HB4 HK4
  go_wp2_with fail
  refine (ints_same a2 _ c2 _ [2, 2, 2, 0, 2, 0] [2, 2, 2, 0, 2, 0] _ (HR5.out.kept ((Upd.refl _ _).alloc _)) (Rd.blk (Blk.new _ _ _)) (by decide) (by decide)).mono ?_
  rintro e w6 ⟨rfl, hk⟩
  have hk6 := ((Upd.refl (fun _ => False) w5).alloc _).trans hk
  have HA6 := Lib.hid (HA5.out.kept hk6)
  have HK6 := Lib.hid (HK5.out.trans hk6)
  have hd : decide (([2, 2, 2, 0, 2, 0] : List Int) = [2, 2, 2, 0, 2, 0]) = true := by decide
  rw [hd]
  clear hk hk6 HA5 HK5 HR5 hd
  go_wp2_with fail
  refine (Left_sc HA6.out 0 (by decide +kernel)).mono ?_
  rintro e w' ⟨rfl, rfl⟩
  go_wp2
  go_ret
  exact ⟨rfl, HK6.out⟩
end Go.Proofs.Ytacacnjpfflbnaa
