/- Package barrier: a new machine, Ready; the statements' own bank (layer 14). -/
import Derived.Test.YtghlpapljjcaeaaArriveStep
import Derived.Test.YtghlpapljjcaeaaBankAll
namespace Go.Proofs.Ytghlpapljjcaeaa
set_option linter.unusedVariables false
open Go.RowKit

/-- The plan of n workers, of s cells. -/
abbrev lvn (n s : Int) : Array Value := #[.int .i64 2, .int .i64 1, .int .i64 n, .int .i64 2, .int .i64 0, .int .i64 1, .int .i64 3, .int .i64 5, .int .i64 7, .int .i64 8, .int .i64 9, .int .i64 10, .int .i64 11, .int .i64 s]
def mval (n s : Int) (m : MS) : Value := .agg #[.int .i64 2, .int .i64 1, .int .i64 n, .int .i64 2, .int .i64 0, .int .i64 1, .int .i64 3, .int .i64 5, .int .i64 7, .int .i64 8, .int .i64 9, .int .i64 10, .int .i64 11, .int .i64 s, .int .u8 m.nx, .int .i64 m.own, .bool m.last]
def MadeArr (n s : Int) (w : World) (e : Ending) (w' : World) : Prop := e = .returned (mval n s ⟨0, 0, false⟩) ∧ Kept w w'

set_option maxRecDepth 100000 in
theorem NewArrive_any (n s : Int) (w : World) :
    Calls Try.prog 13 #[.agg #[.int .i64 2, .int .i64 1, .int .i64 n, .int .i64 2, .int .i64 0, .int .i64 1, .int .i64 3, .int .i64 5, .int .i64 7, .int .i64 8, .int .i64 9, .int .i64 10, .int .i64 11, .int .i64 s]] w (MadeArr n s w) := by
  go_enter Try.func13, Try.ntmps13
  go_wp2
  exact bodyPost_ret (v := mval n s ⟨0, 0, false⟩) (by simp [results, Try.results13, go_sem, mval]) rfl ⟨rfl, ((Upd.refl _ _).alloc _).alloc _⟩

def ReadyIs (bb g : Nat) (n : Int) (xs : List Int) (w : World) (e : Ending) (w' : World) : Prop := e = .returned (.tuple #[]) ∧ Bnk w' bb g (bput (bput xs 9 n) 10 0) ∧ Upd (fun k => k = g) w w'
set_option maxRecDepth 100000 in
theorem Ready_any (n s : Int) {w : World} {bb g : Nat} {xs : List Int} (hb : Bnk w bb g xs) :
    Calls Try.prog 24 #[.agg #[.int .i64 2, .int .i64 1, .int .i64 n, .int .i64 2, .int .i64 0, .int .i64 1, .int .i64 3, .int .i64 5, .int .i64 7, .int .i64 8, .int .i64 9, .int .i64 10, .int .i64 11, .int .i64 s], .pointer (some ⟨bb, 0, none⟩)] w (ReadyIs bb g n xs w) := by
  have HB := Lib.hid hb
  have lg := hb.row.lt
  clear hb
  go_enter Try.func24, Try.ntmps24
  go_wp2_with fail
  refine (Store_is (HB.out.kept ((Upd.refl _ _).alloc _)) 9 n _ rfl).mono ?_
  rintro e w1 ⟨rfl, hB, hU⟩
  have hO := (Blk.new w #[.int .i64 2, .int .i64 1, .int .i64 n, .int .i64 2, .int .i64 0, .int .i64 1, .int .i64 3, .int .i64 5, .int .i64 7, .int .i64 8, .int .i64 9, .int .i64 10, .int .i64 11, .int .i64 s] 28).upd hU (fun e => by omega)
  have o11 : w1.cell? ⟨w.heap.size, 11, none⟩ = some (.int .i64 10) := by rw [hO.cell]; rfl
  have HB1 := Lib.hid hB
  have HU1 := Lib.hid (((Upd.refl (fun k => k = g) w).alloc (.cells #[.int .i64 2, .int .i64 1, .int .i64 n, .int .i64 2, .int .i64 0, .int .i64 1, .int .i64 3, .int .i64 5, .int .i64 7, .int .i64 8, .int .i64 9, .int .i64 10, .int .i64 11, .int .i64 s] 28)).trans hU)
  clear hB hU hO HB
  go_wp2_with fail
  refine (Store_is HB1.out 10 0 _ rfl).mono ?_
  rintro e w2 ⟨rfl, hB, hU⟩
  have HF : Hid (ReadyIs bb g n xs w (.returned (.tuple #[])) w2) := Lib.hid ⟨rfl, hB, HU1.out.trans hU⟩
  clear hB hU HB1 HU1
  go_wp2
  exact bodyPost_ret (v := .tuple #[]) (by simp [results, Try.results24, go_sem]) rfl HF.out

def bar (S : Nat) (n c : Int) : List Int := bput (bput (List.replicate S 0) 9 n) 10 c
/-- The statements' own bank. -/
def BankOf (n s : Nat) (w : World) (e : Ending) (w' : World) : Prop :=
  ∃ bb g, e = .returned (.tuple #[.agg (lvn n s), .pointer (some ⟨bb, 0, none⟩), .bool true]) ∧ Bnk w' bb g (bar s n 0) ∧ w.heap.size ≤ bb ∧ w.heap.size ≤ g ∧ Kept w w'
theorem Bnk.other {w : World} {bb g o : Nat} {xs : List Int} (h : Bnk w bb g xs) (h1 : ¬ o = bb) (h2 : ¬ o = g) (i : Nat) (v : Value) : Bnk (w.setCell ⟨o, i, none⟩ v) bb g xs :=
  h.upd (S := fun k => k = o) (updCell w o i v) (fun e => h1 e.symm) (fun e => h2 e.symm)

set_option maxRecDepth 100000 in
set_option maxHeartbeats 1000000 in
theorem bank_any (n s : Nat) (h1 : 1 ≤ n) (h2 : n ≤ 64) (hs : s = 11 + n * 4) (w : World) :
    Calls Try.prog 11 #[.int .i64 (n : Int)] w (BankOf n s w) := by
  have hp : planOf 2 1 (n : Int) = ⟨2, 1, n, 2, 0, 1, 3, 5, 7, 8, 9, 10, 11, s⟩ := by
    have h : roomOf 2 = 2 := by decide
    subst hs
    simp [planOf, h]
  have HP := fun w => Lib.hid (Plan_ok 2 1 n w (by unfold May; omega))
  rw [hp] at HP
  clear hp
  have HFin : Hid (∀ bb g w', Bnk w' bb g (bar s n 0) → w.heap.size ≤ bb → w.heap.size ≤ g → Kept w w' → BankOf n s w (.returned (.tuple #[.agg (lvn n s), .pointer (some ⟨bb, 0, none⟩), .bool true])) w') :=
    Lib.hid fun bb g w' a b c d => ⟨bb, g, rfl, a, b, c, d⟩
  simp only [Lay.val, Lay.vals] at *
  have hs5 : s ≤ 524288 := by omega
  clear hs
  go_enter Try.func11, Try.ntmps11
  go_wp2_with fail
  refine (HP _).out.mono ?_
  rintro e w1 ⟨rfl, hk⟩
  have HK1 := Lib.hid (((Upd.refl (fun _ => False) w).alloc (.cells #[.int .i64 0, .int .i64 0, .int .i64 0, .int .i64 0, .int .i64 0, .int .i64 0, .int .i64 0, .int .i64 0, .int .i64 0, .int .i64 0, .int .i64 0, .int .i64 0, .int .i64 0, .int .i64 0] 28)).trans hk)
  have HO1 := Lib.hid ((Blk.new w #[.int .i64 0, .int .i64 0, .int .i64 0, .int .i64 0, .int .i64 0, .int .i64 0, .int .i64 0, .int .i64 0, .int .i64 0, .int .i64 0, .int .i64 0, .int .i64 0, .int .i64 0, .int .i64 0] 28).kept hk)
  clear hk
  go_wp2_with fail
  refine (New_ok s _ hs5).mono ?_
  rintro e w2 ⟨bb, g, rfl, hB, hbb, hg, hk⟩
  have hsz := HK1.out.size
  have hbb' : w.heap.size ≤ bb := by simp at hbb; omega
  have hgg' : w.heap.size ≤ g := by simp at hg; omega
  have HB := Lib.hid hB
  have HL := Lib.hid ((Blk.new w1 (lvn n s) 28).kept hk)
  have HO2 := Lib.hid ((HO1.out.alloc _).kept hk)
  have HK2 := Lib.hid ((HK1.out.alloc _).trans hk)
  have cl := HL.out.cell
  have hlg : Hid (¬ w1.heap.size = g) := Lib.hid (by simp at hg; omega)
  clear hB hbb hg hk HO1 HK1 hsz
  go_wp2_with fail
  refine (Ready_any n s HB.out).mono ?_
  rintro e w3 ⟨rfl, hB, hU⟩
  have HB3 : Hid (Bnk w3 bb g (bar s n 0)) := Lib.hid hB
  have HL3 := Lib.hid (Blk.upd HL.out hU hlg.out)
  have hob : Hid (¬ w.heap.size = bb) := Lib.hid fun e => by have h := HO2.out; rw [e] at h; have := (h.same HB.out.head).2; simp at this
  have hog : Hid (¬ w.heap.size = g) := Lib.hid fun e => by have h := HO2.out; rw [e] at h; have := (h.same HB.out.row).2; simp at this
  have HO3 := Lib.hid (HO2.out.upd hU hog.out)
  have HK3 := Lib.hid (HK2.out.then hU (fun i hi e => by omega))
  have cl3 := HL3.out.cell
  have co := HO3.out.cell
  have fo := HO3.out.free
  clear hB hU HB HL HO2 HK2 cl
  go_wp2_with fail
  refine bodyPost_ret (v := .tuple #[.agg (lvn n s), .pointer (some ⟨bb, 0, none⟩), .bool true]) (by simp [results, Try.results11, go_sem, co]) rfl (HFin.out bb g _ ?_ hbb' hgg' ?_)
  · iterate 14 refine Bnk.other ?_ hob.out hog.out _ _
    exact HB3.out
  · iterate 14 refine Upd.setCell ?_ (.inr (Nat.le_refl _)) _
    exact HK3.out
end Go.Proofs.Ytghlpapljjcaeaa
