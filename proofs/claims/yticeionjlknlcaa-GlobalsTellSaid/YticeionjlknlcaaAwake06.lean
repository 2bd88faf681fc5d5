/- The chapter's examples (printed by gen_awake06.py). -/
import Derived.Test.YticeionjlknlcaaLeft
import Derived.Test.YticeionjlknlcaaLabLeast
import Derived.Test.YticeionjlknlcaaInts06
namespace Go.Proofs.Yticeionjlknlcaa
set_option linter.unusedVariables false
set_option linter.unusedSimpArgs false
open Go.RowKit

def exYs : List Ar := [⟨0, 1, 5⟩, ⟨1, 2, 5⟩]
theorem exOk : NetOk 3 0 2 exYs := ⟨by omega, by omega, by omega, by omega, by omega, by decide, by simp [exYs, ArcOk]⟩
theorem exGr : Gr 3 0 2 3 4 exYs := ⟨exOk, by decide, by decide +kernel⟩
theorem arsNew6 (W : World) (ys : List Ar) : Ars (W.alloc (.cells (acells ys).toArray 67)) (some ⟨W.heap.size, 0, none⟩) ys :=
  .inr ⟨W.heap.size, 0, rfl, fun i u hu => by rw [Nat.zero_add, (Blk.new W _ _).cell]; simpa using hu⟩
def LeftEx (w : World) (e : Ending) (w' : World) : Prop := ∃ a3 c3 a4 c4 a5 c5 a6 c6 a7 c7 a8 c8 a9 c9, e = .returned (.tuple #[.agg #[.int .i64 3, .int .i64 0, .int .i64 2, .slice a3 4 c3, .slice a4 4 c4, .slice a5 4 c5, .slice a6 4 c6, .slice a7 4 c7, .slice a8 4 c8], .slice a9 4 c9]) ∧ CsrR w' 3 exYs a3 a4 a5 a6 a7 a8 ∧ Rd w' a9 (lv [5, 0, 5, 0]) ∧ Kept w w'
theorem left_ex (g : Nat) (w : World) (h : Ars w (some ⟨g, 0, none⟩) exYs) : Calls Try.prog 12 #[.agg #[.int .i64 3, .int .i64 0, .int .i64 2, .slice (some ⟨g, 0, none⟩) 2 2], .slice none 0 0] w (LeftEx w) := by
  refine (Left_ok 3 0 2 (some ⟨g, 0, none⟩) 2 exYs none 0 [] w h exOk (.inl rfl) (by simp) (by simp)).mono ?_
  rintro e w' ⟨B, n, m, a3, c3, a4, c4, a5, c5, a6, c6, a7, c7, a8, c8, a9, c9, rfl, hn, hm, hcr, -, hk, -, ho⟩
  have hn3 : n = 3 := by rw [← hn]; rfl
  subst hn3
  have hm4 : m = 4 := by rw [← hm]; exact exGr.hm
  subst hm4
  obtain ⟨b, c, e1, hr⟩ := Rd.owns ho
  cases e1
  rw [show resAll (wths [] exYs) 3 exYs = [5, 0, 5, 0] by decide +kernel] at hr
  exact ⟨a3, c3, a4, c4, a5, c5, a6, c6, a7, c7, a8, c8, a9, c9, rfl, hcr, hr, hk⟩
theorem valid_ex {a3 a4 a5 a6 a7 a8 a9 : Option Addr} {c3 c4 c5 c6 c7 c8 c9 : Nat} (hb : Nat) (hs : List Int) (w : World) (hcr : CsrR w 3 exYs a3 a4 a5 a6 a7 a8) (hr : Rd w a9 (lv [5, 0, 5, 0])) (hh : Rd w (some ⟨hb, 0, none⟩) (lv hs)) (hl : hs.length = 3) :
    Calls Try.prog 21 #[.agg #[.int .i64 3, .int .i64 0, .int .i64 2, .slice a3 4 c3, .slice a4 4 c4, .slice a5 4 c5, .slice a6 4 c6, .slice a7 4 c7, .slice a8 4 c8], .slice a9 4 c9, .slice (some ⟨hb, 0, none⟩) 3 3] w fun e w' => e = .returned (.bool (validB 3 0 2 3 4 exYs [5, 0, 5, 0] hs)) ∧ Kept w w' := by
  have h := valid_any 3 0 2 3 4 a3 a4 a5 a6 a7 a8 c3 c4 c5 c6 c7 c8 exYs a9 c9 [5, 0, 5, 0] (some ⟨hb, 0, none⟩) 3 hs w exGr hcr hr hh (by omega)
  rw [hl] at h
  exact h
theorem flat_ex {a3 a4 a5 a6 a7 a8 a9 : Option Addr} {c3 c4 c5 c6 c7 c8 c9 : Nat} (hb : Nat) (hs : List Int) (w : World) (hcr : CsrR w 3 exYs a3 a4 a5 a6 a7 a8) (hr : Rd w a9 (lv [5, 0, 5, 0])) (hh : Rd w (some ⟨hb, 0, none⟩) (lv hs)) (hl : hs.length = 3) :
    Calls Try.prog 24 #[.agg #[.int .i64 3, .int .i64 0, .int .i64 2, .slice a3 4 c3, .slice a4 4 c4, .slice a5 4 c5, .slice a6 4 c6, .slice a7 4 c7, .slice a8 4 c8], .slice a9 4 c9, .slice (some ⟨hb, 0, none⟩) 3 3] w fun e w' => ∃ a c, e = .returned (.slice a (dnL 3 0 2 3 4 exYs [5, 0, 5, 0] hs (isP false)).length c) ∧ Rd w' a (nv (dnL 3 0 2 3 4 exYs [5, 0, 5, 0] hs (isP false))) ∧ Kept w w' := by
  have h := flat_any 3 0 2 3 4 a3 a4 a5 a6 a7 a8 c3 c4 c5 c6 c7 c8 exYs a9 c9 [5, 0, 5, 0] (some ⟨hb, 0, none⟩) 3 hs w exGr hcr hr hh (by omega)
  rw [hl] at h
  refine h.mono ?_
  rintro e w' ⟨v, rfl, ho, hk⟩
  obtain ⟨a, c, rfl, hr⟩ := Rd.owns ho
  exact ⟨a, c, rfl, hr, hk⟩
theorem steep_ex {a3 a4 a5 a6 a7 a8 a9 : Option Addr} {c3 c4 c5 c6 c7 c8 c9 : Nat} (hb : Nat) (hs : List Int) (w : World) (hcr : CsrR w 3 exYs a3 a4 a5 a6 a7 a8) (hr : Rd w a9 (lv [5, 0, 5, 0])) (hh : Rd w (some ⟨hb, 0, none⟩) (lv hs)) (hl : hs.length = 3) :
    Calls Try.prog 22 #[.agg #[.int .i64 3, .int .i64 0, .int .i64 2, .slice a3 4 c3, .slice a4 4 c4, .slice a5 4 c5, .slice a6 4 c6, .slice a7 4 c7, .slice a8 4 c8], .slice a9 4 c9, .slice (some ⟨hb, 0, none⟩) 3 3] w fun e w' => ∃ a c, e = .returned (.slice a (dnL 3 0 2 3 4 exYs [5, 0, 5, 0] hs (isP true)).length c) ∧ Rd w' a (nv (dnL 3 0 2 3 4 exYs [5, 0, 5, 0] hs (isP true))) ∧ Kept w w' := by
  have h := steep_any 3 0 2 3 4 a3 a4 a5 a6 a7 a8 c3 c4 c5 c6 c7 c8 exYs a9 c9 [5, 0, 5, 0] (some ⟨hb, 0, none⟩) 3 hs w exGr hcr hr hh (by omega)
  rw [hl] at h
  refine h.mono ?_
  rintro e w' ⟨v, rfl, ho, hk⟩
  obtain ⟨a, c, rfl, hr⟩ := Rd.owns ho
  exact ⟨a, c, rfl, hr, hk⟩
theorem exLeast : LeastOf 3 0 2 3 4 exYs [5, 0, 5, 0] [3, 1, 0] 1 2 0 true := by
  unfold LeastOf
  rw [if_pos (by decide +kernel)]
  refine .inr ⟨rfl, 2, rfl, by decide +kernel, by decide +kernel, by decide +kernel, by decide +kernel, ?_⟩
  intro a h1 h2 h3
  have e1 : fst exYs (1 : Int).toNat = 1 := by decide +kernel
  have e2 : fst exYs ((1 : Int).toNat + 1) = 3 := by decide +kernel
  rw [e1] at h1
  rw [e2] at h2
  have : a = 1 ∨ a = 2 := by omega
  rcases this with rfl | rfl
  · exact absurd h3 (by decide)
  · exact .inr ⟨by decide +kernel, Nat.le_refl _⟩
theorem ints_ex (a a' : Option Addr) (c c' : Nat) (w : World) (hx : Rd w a (nv [2])) (hy : Rd w a' (lv [2])) :
    Calls Try.prog 15 #[.slice a 1 c, .slice a' 1 c'] w fun e w' => e = .returned (.bool true) ∧ Kept w w' := by
  have h1 := ints_same a a' c c' [2] [2] w hx hy (by decide) (by decide)
  simpa using h1
structure EX (w : World) (cb : Nat) (a3 a4 a5 a6 a7 a8 a9 : Option Addr) (c3 c4 c5 c6 c7 c8 c9 : Nat) (wr : World) : Prop where
  kp : Kept w wr
  box : Blk wr cb #[.int .i64 3, .int .i64 0, .int .i64 2, .slice a3 4 c3, .slice a4 4 c4, .slice a5 4 c5, .slice a6 4 c6, .slice a7 4 c7, .slice a8 4 c8] 29
  cr : CsrR wr 3 exYs a3 a4 a5 a6 a7 a8
  rs : Rd wr a9 (lv [5, 0, 5, 0])
theorem EX.kept {w : World} {cb : Nat} {a3 a4 a5 a6 a7 a8 a9 : Option Addr} {c3 c4 c5 c6 c7 c8 c9 : Nat} {wr w' : World} (h : EX w cb a3 a4 a5 a6 a7 a8 a9 c3 c4 c5 c6 c7 c8 c9 wr) (hk : Kept wr w') : EX w cb a3 a4 a5 a6 a7 a8 a9 c3 c4 c5 c6 c7 c8 c9 w' := ⟨h.kp.trans hk, h.box.kept hk, h.cr.kept hk, h.rs.kept hk⟩
theorem rdNew (W : World) (l : List Int) (T : TypeId) : Rd (W.alloc (.cells (lv l).toArray T)) (some ⟨W.heap.size, 0, none⟩) (lv l) := Rd.blk (Blk.new _ _ _)
end Go.Proofs.Yticeionjlknlcaa
