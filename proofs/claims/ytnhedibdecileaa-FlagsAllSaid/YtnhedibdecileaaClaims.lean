/- The statements' own bank and claims (layer 12); the chapter's examples. -/
import Derived.Test.YtnhedibdecileaaHeld
import Derived.Test.YtnhedibdecileaaInts12
namespace Go.Proofs.Ytnhedibdecileaa
set_option linter.unusedVariables false
open Go.RowKit

def BankOf (l : Lay) (m : Nat) (w : World) (e : Ending) (w' : World) : Prop :=
  ∃ bb g, e = .returned (.tuple #[l.val, .pointer (some ⟨bb, 0, none⟩), .bool true]) ∧ Bnk w' bb g (List.replicate m 0) ∧ w.heap.size ≤ bb ∧ w.heap.size ≤ g ∧ Kept w w'

theorem plan_size (n : Int) (h1 : 1 ≤ n) (h2 : n ≤ 30) : May n 3 2 ∧ ∃ m : Nat, (planOf n 3 2).size = (m : Int) ∧ m ≤ 524288 ∧ (planOf n 3 2).flag = 3 + n + n ∧ (planOf n 3 2).verts = n ∧ 3 + n + n + n ≤ m := by
  obtain ⟨r1, r2⟩ := roomOf_le n
  refine ⟨by unfold May; omega, (planOf n 3 2).size.toNat, ?_, ?_, ?_, ?_, ?_⟩ <;> simp only [planOf] <;> omega
theorem Bnk.other {w : World} {bb g o : Nat} {xs : List Int} (h : Bnk w bb g xs) (h1 : ¬ o = bb) (h2 : ¬ o = g) (i : Nat) (v : Value) : Bnk (w.setCell ⟨o, i, none⟩ v) bb g xs :=
  h.upd (S := fun k => k = o) (updCell w o i v) (fun e => h1 e.symm) (fun e => h2 e.symm)

set_option maxRecDepth 100000 in
set_option maxHeartbeats 1000000 in
theorem bank_any (n : Int) (l : Lay) (m : Nat) (w : World) (hm : May n 3 2) (hl : planOf n 3 2 = l) (hs : l.size = (m : Int)) (h2 : m ≤ 524288) :
    Calls Try.prog 7 #[.int .i64 n] w (BankOf l m w) := by
  have HP := fun w => Lib.hid (Plan_ok n 3 2 w hm)
  rw [hl] at HP
  clear hl hm
  have HFin : Hid (∀ bb g w', Bnk w' bb g (List.replicate m 0) → w.heap.size ≤ bb → w.heap.size ≤ g → Kept w w' → BankOf l m w (.returned (.tuple #[l.val, .pointer (some ⟨bb, 0, none⟩), .bool true])) w') :=
    Lib.hid fun bb g w' a b c d => ⟨bb, g, rfl, a, b, c, d⟩
  obtain ⟨verts, arcs, workers, room, res, ex, hh, flag, pending, ask, count, sense, deques, size⟩ := l
  simp only [Lay.val, Lay.vals] at *
  subst hs
  go_enter Try.func7, Try.ntmps7
  go_wp2_with fail
  refine (HP _).out.mono ?_
  rintro e w1 ⟨rfl, hk⟩
  have HK1 := Lib.hid (((Upd.refl (fun _ => False) w).alloc (.cells #[.int .i64 0, .int .i64 0, .int .i64 0, .int .i64 0, .int .i64 0, .int .i64 0, .int .i64 0, .int .i64 0, .int .i64 0, .int .i64 0, .int .i64 0, .int .i64 0, .int .i64 0, .int .i64 0] 25)).trans hk)
  have HO1 := Lib.hid ((Blk.new w #[.int .i64 0, .int .i64 0, .int .i64 0, .int .i64 0, .int .i64 0, .int .i64 0, .int .i64 0, .int .i64 0, .int .i64 0, .int .i64 0, .int .i64 0, .int .i64 0, .int .i64 0, .int .i64 0] 25).kept hk)
  clear hk
  go_wp2_with fail
  refine (New_ok m _ h2).mono ?_
  rintro e w2 ⟨bb, g, rfl, hB, hbb, hg, hk⟩
  have hsz := HK1.out.size
  have hbb' : w.heap.size ≤ bb := by simp at hbb; omega
  have hgg' : w.heap.size ≤ g := by simp at hg; omega
  have HB := Lib.hid hB
  have HL := Lib.hid ((Blk.new w1 #[.int .i64 verts, .int .i64 arcs, .int .i64 workers, .int .i64 room, .int .i64 res, .int .i64 ex, .int .i64 hh, .int .i64 flag, .int .i64 pending, .int .i64 ask, .int .i64 count, .int .i64 sense, .int .i64 deques, .int .i64 (m : Int)] 25).kept hk)
  have HO2 := Lib.hid ((HO1.out.alloc _).kept hk)
  have HK2 := Lib.hid ((HK1.out.alloc _).trans hk)
  have cl := HL.out.cell
  have co := HO2.out.cell
  have fo := HO2.out.free
  have hob : Hid (¬ w.heap.size = bb) := Lib.hid fun e => by rw [e] at HO2; have := (HO2.out.same HB.out.head).2; simp at this
  have hog : Hid (¬ w.heap.size = g) := Lib.hid fun e => by rw [e] at HO2; have := (HO2.out.same HB.out.row).2; simp at this
  clear hB hbb hg hk HO1 HK1 HL hsz
  go_wp2_with fail
  refine bodyPost_ret (v := .tuple #[.agg #[.int .i64 verts, .int .i64 arcs, .int .i64 workers, .int .i64 room, .int .i64 res, .int .i64 ex, .int .i64 hh, .int .i64 flag, .int .i64 pending, .int .i64 ask, .int .i64 count, .int .i64 sense, .int .i64 deques, .int .i64 (m : Int)], .pointer (some ⟨bb, 0, none⟩), .bool true]) (by simp [results, Try.results7, go_sem, co]) rfl (HFin.out bb g _ ?_ hbb' hgg' ?_)
  · iterate 14 refine Bnk.other ?_ hob.out hog.out _ _
    exact HB.out
  · iterate 14 refine Upd.setCell ?_ (.inr (Nat.le_refl _)) _
    exact HK2.out

theorem planOf_l {n : Int} {l : Lay} (h : planOf n 3 2 = l) (h1 : 1 ≤ n) (h2 : n ≤ 30) : l.flag = 3 + n + n ∧ l.verts = n := by
  subst h
  exact ⟨rfl, rfl⟩

def ClaimsIs (bb g : Nat) (r : Bool) (ys : List Int) (w : World) (e : Ending) (w' : World) : Prop := e = .returned (.bool r) ∧ Bnk w' bb g ys ∧ Upd (fun k => k = g) w w'

set_option maxRecDepth 100000 in
set_option maxHeartbeats 1000000 in
theorem claims_any (l : Lay) (bb g : Nat) (v : Int) (r : Bool) (xs ys : List Int) (w : World) (hb : Bnk w bb g xs) (h1 : 0 ≤ l.flag) (h2 : l.flag ≤ 1000000) (h3 : 0 ≤ v) (h4 : v ≤ 1000000) (hin : l.flag + v < xs.length)
    (hr : decide (bget xs (l.flag + v) = 0) = r) (hy : (if bget xs (l.flag + v) = 0 then bput xs (l.flag + v) 1 else xs) = ys) :
    Calls Try.prog 10 #[l.val, .pointer (some ⟨bb, 0, none⟩), .int .i64 v] w (ClaimsIs bb g r ys w) := by
  have HN := fun w => Lib.hid (NewClaim_any l v w h1 h2 h3 h4)
  have hr2 : decide ((0 ≤ l.flag + v ∧ l.flag + v < xs.length) ∧ bget xs (l.flag + v) = 0) = r := by
    rw [← hr]; congr 1; exact propext ⟨fun h => h.2, fun h => ⟨⟨by omega, hin⟩, h⟩⟩
  have HS := fun c w (hc : Blk w c #[.int .i64 (l.flag + v), .bool false, .bool false] 51) (hb : Bnk w bb g xs) => Lib.hid (Claim_step c bb g (l.flag + v) false r xs ys w hc hb hr2 hy)
  have HB := Lib.hid hb
  obtain ⟨verts, arcs, workers, room, res, ex, hh, flag, pending, ask, count, sense, deques, size⟩ := l
  simp only [Lay.val, Lay.vals] at *
  clear hb hr hr2 hy hin
  generalize flag + v = i at *
  go_enter Try.func10, Try.ntmps10
  go_wp2_with fail
  refine (HN _).out.mono ?_
  rintro e w1 ⟨rfl, hk⟩
  have HK1 := Lib.hid (((Upd.refl (fun k => k = g) w).alloc (.cells #[.int .i64 verts, .int .i64 arcs, .int .i64 workers, .int .i64 room, .int .i64 res, .int .i64 ex, .int .i64 hh, .int .i64 flag, .int .i64 pending, .int .i64 ask, .int .i64 count, .int .i64 sense, .int .i64 deques, .int .i64 size] 25)).then hk (fun i h f => f.elim))
  have HB1 := Lib.hid ((HB.out.kept ((Upd.refl _ _).alloc (.cells #[.int .i64 verts, .int .i64 arcs, .int .i64 workers, .int .i64 room, .int .i64 res, .int .i64 ex, .int .i64 hh, .int .i64 flag, .int .i64 pending, .int .i64 ask, .int .i64 count, .int .i64 sense, .int .i64 deques, .int .i64 size] 25))).kept hk)
  have hs1 := HK1.out.size
  clear hk
  go_wp2_with fail
  refine (HS _ _ (Blk.new _ _ _) (HB1.out.kept ((Upd.refl _ _).alloc _))).out.mono ?_
  rintro e w2 ⟨rfl, hC, hB, hU⟩
  have c2 : w2.cell? ⟨w1.heap.size, 2, none⟩ = some (.bool r) := by rw [hC.cell]; rfl
  have HB2 := Lib.hid hB
  have HK2 := Lib.hid ((HK1.out.alloc _).then hU (fun i h e => by rcases e with e | e; exact e; omega))
  clear hC hB hU HK1 HB1
  go_wp2_with fail
  refine (Got_any _ r _ c2).mono ?_
  rintro e w' ⟨rfl, rfl⟩
  go_wp2
  go_ret
  exact ⟨rfl, HB2.out, HK2.out⟩

end Go.Proofs.Ytnhedibdecileaa
