/- What the machines of package flags do. -/
import Derived.Test.YtnhedibdecileaaLay
import Derived.Test.YtnhedibdecileaaBankCas
import Derived.Test.YtnhedibdecileaaBase2
namespace Go.Proofs.Ytnhedibdecileaa
set_option linter.unusedVariables false
open Go.RowKit

theorem NewClaim_any (l : Lay) (v : Int) (w : World) (h1 : 0 ≤ l.flag) (h2 : l.flag ≤ 1000000) (h3 : 0 ≤ v) (h4 : v ≤ 1000000) :
    Calls Try.prog 16 #[l.val, .int .i64 v] w fun e w' => e = .returned (.agg #[.int .i64 (l.flag + v), .bool false, .bool false]) ∧ Kept w w' := by
  obtain ⟨verts, arcs, workers, room, res, ex, hh, flag, pending, ask, count, sense, deques, size⟩ := l
  simp only [Lay.val, Lay.vals] at *
  go_enter Try.func16, Try.ntmps16
  go_wp2
  refine bodyPost_ret (v := .agg #[.int .i64 (flag + v), .bool false, .bool false]) (by simp [results, Try.results16, go_sem]) rfl ⟨rfl, ?_⟩
  repeat (first | exact Upd.refl _ _ | apply Upd.alloc | refine Upd.setCell ?_ (.inr (by simp)) _)

theorem NewFree_any (l : Lay) (v : Int) (w : World) (h1 : 0 ≤ l.flag) (h2 : l.flag ≤ 1000000) (h3 : 0 ≤ v) (h4 : v ≤ 1000000) :
    Calls Try.prog 8 #[l.val, .int .i64 v] w fun e w' => e = .returned (.agg #[.int .i64 (l.flag + v), .bool false]) ∧ Kept w w' := by
  obtain ⟨verts, arcs, workers, room, res, ex, hh, flag, pending, ask, count, sense, deques, size⟩ := l
  simp only [Lay.val, Lay.vals] at *
  go_enter Try.func8, Try.ntmps8
  go_wp2
  refine bodyPost_ret (v := .agg #[.int .i64 (flag + v), .bool false]) (by simp [results, Try.results8, go_sem]) rfl ⟨rfl, ?_⟩
  repeat (first | exact Upd.refl _ _ | apply Upd.alloc | refine Upd.setCell ?_ (.inr (by simp)) _)

theorem goes_any (c : Nat) (d : Bool) (w : World) (hc : w.cell? ⟨c, 1, none⟩ = some (.bool d)) (hf : w.frozen? ⟨c, 1, none⟩ = false) :
    Calls Try.prog 26 #[.pointer (some ⟨c, 0, none⟩)] w fun e w' => e = .returned (.bool (!d)) ∧ w.setCell ⟨c, 1, none⟩ (.bool true) = w' := by
  go_enter Try.func26, Try.ntmps26
  go_wp2
  go_ret
  exact ⟨rfl, rfl⟩

/-- What a claim's step leaves. -/
def Claimed (c bb g : Nat) (i : Int) (got : Bool) (ys : List Int) (w : World) (e : Ending) (w' : World) : Prop :=
  e = .returned (.bool true) ∧ Blk w' c #[.int .i64 i, .bool true, .bool got] 51 ∧ Bnk w' bb g ys ∧ Upd (fun k => k = g ∨ k = c) w w'

theorem Claim_step (c bb g : Nat) (i : Int) (g0 r : Bool) (xs ys : List Int) (w : World) (hc : Blk w c #[.int .i64 i, .bool false, .bool g0] 51) (hb : Bnk w bb g xs)
    (hr : decide ((0 ≤ i ∧ i < xs.length) ∧ bget xs i = 0) = r) (hy : (if bget xs i = 0 then bput xs i 1 else xs) = ys) :
    Calls Try.prog 18 #[.pointer (some ⟨c, 0, none⟩), .pointer (some ⟨bb, 0, none⟩)] w (Claimed c bb g i r ys w) := by
  have hcg : ¬ c = g := fun e => by subst e; have := (hc.same hb.row).2; simp at this
  have hcb : ¬ c = bb := fun e => by subst e; have := (hc.same hb.head).2; simp at this
  have c1 : w.cell? ⟨c, 1, none⟩ = some (.bool false) := by rw [hc.cell]; rfl
  have f1 := hc.free 1
  have hg := fun w hc hf => Lib.hid (goes_any c false w hc hf)
  have HC := Lib.hid (hc.set 1 (.bool true))
  have HB := Lib.hid (hb.upd (S := fun k => k = c) (updCell w c 1 (.bool true)) (fun e => hcb e.symm) (fun e => hcg e.symm))
  have HU := Lib.hid (updCell w c 1 (.bool true))
  clear hc hb
  go_enter Try.func18, Try.ntmps18
  go_wp2_with fail
  refine (hg _ c1 f1).out.mono ?_
  rintro e w1 ⟨rfl, hw1⟩
  rw [hw1] at HC HB HU
  clear hw1 c1 f1 hg
  have c0 : w1.cell? ⟨c, 0, none⟩ = some (.int .i64 i) := by rw [HC.out.cell]; rfl
  go_wp2_with fail
  refine (CAS_is HB.out i 0 1 r ys hr hy).mono ?_
  rintro e w2 ⟨rfl, hB, hU⟩
  have HC2 := HC.out.upd hU hcg
  have c2 : w2.cell? ⟨c, 2, none⟩ = some (.bool g0) := by rw [HC2.cell]; rfl
  have f2 := HC2.free 2
  have hfin : Hid (Claimed c bb g i r ys w (.returned (.bool true)) (w2.setCell ⟨c, 2, none⟩ (.bool r))) := by
    refine ⟨rfl, by simpa using HC2.set 2 (.bool r), hB.upd (S := fun k => k = c) (updCell w2 c 2 (.bool r)) (fun e => hcb e.symm) (fun e => hcg e.symm), ?_⟩
    have h1 : Upd (fun k => k = g ∨ k = c) w w1 := HU.out.wide (fun k _ h => .inr h)
    have h2 : Upd (fun k => k = g ∨ k = c) w1 w2 := hU.wide (fun k _ h => .inl h)
    exact (h1.trans h2).setCell (p := ⟨c, 2, none⟩) (.inl (.inr rfl)) _
  clear hB hU HC2 HC HB HU hr hy c0
  go_wp2
  go_ret
  exact hfin.out

theorem Claim_done (c bb : Nat) (i : Int) (g0 : Bool) (w : World) (hc : Blk w c #[.int .i64 i, .bool true, .bool g0] 51) :
    Calls Try.prog 18 #[.pointer (some ⟨c, 0, none⟩), .pointer (some ⟨bb, 0, none⟩)] w fun e w' => e = .returned (.bool true) ∧ Blk w' c #[.int .i64 i, .bool true, .bool g0] 51 ∧ Upd (fun k => k = c) w w' := by
  have c1 : w.cell? ⟨c, 1, none⟩ = some (.bool true) := by rw [hc.cell]; rfl
  have f1 := hc.free 1
  have hg := fun w hc hf => Lib.hid (goes_any c true w hc hf)
  have HC := Lib.hid (show Blk (w.setCell ⟨c, 1, none⟩ (.bool true)) c #[.int .i64 i, .bool true, .bool g0] 51 by simpa using hc.set 1 (.bool true))
  have HU := Lib.hid (updCell w c 1 (.bool true))
  clear hc
  go_enter Try.func18, Try.ntmps18
  go_wp2_with fail
  refine (hg _ c1 f1).out.mono ?_
  rintro e w1 ⟨rfl, hw1⟩
  rw [hw1] at HC HU
  clear hw1 c1 f1 hg
  go_wp2
  go_ret
  exact ⟨rfl, HC.out, HU.out⟩

theorem Got_any (c : Nat) (r : Bool) (w : World) (hc : w.cell? ⟨c, 2, none⟩ = some (.bool r)) :
    Calls Try.prog 17 #[.pointer (some ⟨c, 0, none⟩)] w fun e w' => e = .returned (.bool r) ∧ w = w' := by
  go_enter Try.func17, Try.ntmps17
  go_wp2
  go_ret
  exact ⟨rfl, rfl⟩

theorem Free_step (c bb g : Nat) (i : Int) (xs ys : List Int) (w : World) (hc : Blk w c #[.int .i64 i, .bool false] 35) (hb : Bnk w bb g xs) (hy : bput xs i 0 = ys) :
    Calls Try.prog 9 #[.pointer (some ⟨c, 0, none⟩), .pointer (some ⟨bb, 0, none⟩)] w fun e w' => e = .returned (.bool true) ∧ Blk w' c #[.int .i64 i, .bool true] 35 ∧ Bnk w' bb g ys ∧ Upd (fun k => k = g ∨ k = c) w w' := by
  have hcg : ¬ c = g := fun e => by subst e; have := (hc.same hb.row).2; simp at this
  have hcb : ¬ c = bb := fun e => by subst e; have := (hc.same hb.head).2; simp at this
  have c1 : w.cell? ⟨c, 1, none⟩ = some (.bool false) := by rw [hc.cell]; rfl
  have f1 := hc.free 1
  have hg := fun w hc hf => Lib.hid (goes_any c false w hc hf)
  have HC := Lib.hid (hc.set 1 (.bool true))
  have HB := Lib.hid (hb.upd (S := fun k => k = c) (updCell w c 1 (.bool true)) (fun e => hcb e.symm) (fun e => hcg e.symm))
  have HU := Lib.hid (updCell w c 1 (.bool true))
  clear hc hb
  go_enter Try.func9, Try.ntmps9
  go_wp2_with fail
  refine (hg _ c1 f1).out.mono ?_
  rintro e w1 ⟨rfl, hw1⟩
  rw [hw1] at HC HB HU
  clear hw1 c1 f1 hg
  have c0 : w1.cell? ⟨c, 0, none⟩ = some (.int .i64 i) := by rw [HC.out.cell]; rfl
  go_wp2_with fail
  refine (Store_is HB.out i 0 ys hy).mono ?_
  rintro e w2 ⟨rfl, hB, hU⟩
  have HC2 := Lib.hid (HC.out.upd hU hcg)
  have HBB := Lib.hid hB
  have HUU : Hid (Upd (fun k => k = g ∨ k = c) w w2) := by
    have h1 : Upd (fun k => k = g ∨ k = c) w w1 := HU.out.wide (fun k _ h => .inr h)
    have h2 : Upd (fun k => k = g ∨ k = c) w1 w2 := hU.wide (fun k _ h => .inl h)
    exact h1.trans h2
  clear hB hU HC HB HU hy c0
  go_wp2
  go_ret
  exact ⟨rfl, by simpa using HC2.out, HBB.out, HUU.out⟩

theorem Free_done (c bb : Nat) (i : Int) (w : World) (hc : Blk w c #[.int .i64 i, .bool true] 35) :
    Calls Try.prog 9 #[.pointer (some ⟨c, 0, none⟩), .pointer (some ⟨bb, 0, none⟩)] w fun e w' => e = .returned (.bool true) ∧ Blk w' c #[.int .i64 i, .bool true] 35 ∧ Upd (fun k => k = c) w w' := by
  have c1 : w.cell? ⟨c, 1, none⟩ = some (.bool true) := by rw [hc.cell]; rfl
  have f1 := hc.free 1
  have hg := fun w hc hf => Lib.hid (goes_any c true w hc hf)
  have HC := Lib.hid (show Blk (w.setCell ⟨c, 1, none⟩ (.bool true)) c #[.int .i64 i, .bool true] 35 by simpa using hc.set 1 (.bool true))
  have HU := Lib.hid (updCell w c 1 (.bool true))
  clear hc
  go_enter Try.func9, Try.ntmps9
  go_wp2_with fail
  refine (hg _ c1 f1).out.mono ?_
  rintro e w1 ⟨rfl, hw1⟩
  rw [hw1] at HC HU
  clear hw1 c1 f1 hg
  go_wp2
  go_ret
  exact ⟨rfl, HC.out, HU.out⟩
end Go.Proofs.Ytnhedibdecileaa
