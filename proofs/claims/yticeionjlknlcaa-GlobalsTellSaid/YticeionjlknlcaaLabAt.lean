/- The contracts of chapter 6, with letters for the rows' lengths (printed by gen_labtells.py). -/
import Derived.Test.YticeionjlknlcaaAwake06
import Derived.Test.YticeionjlknlcaaHeights
import Derived.Test.YticeionjlknlcaaSomeNet
namespace Go.Proofs.Yticeionjlknlcaa
set_option linter.unusedVariables false
set_option linter.unusedSimpArgs false
open Go.RowKit

theorem right_at (N S T : Int) (n m : Nat) (a3 a4 a5 a6 a7 a8 : Option Addr) (c3 c4 c5 c6 c7 c8 : Nat) (ys : List Ar) (ra : Option Addr) (rc : Nat) (rs : List Int) (ha : Option Addr) (hc : Nat) (hs : List Int) (rl hl : Nat) (w : World) (hg : Gr N S T n m ys) (hcr : CsrR w n ys a3 a4 a5 a6 a7 a8) (hr : Rd w ra (lv rs)) (hh : Rd w ha (lv hs)) (hm : hs.length ≤ 9223372036854775807) (hrl : rs.length = rl) (hhl : hs.length = hl) :
    Calls Try.prog 40 #[.agg #[.int .i64 N, .int .i64 S, .int .i64 T, .slice a3 (n + 1) c3, .slice a4 m c4, .slice a5 m c5, .slice a6 m c6, .slice a7 m c7, .slice a8 m c8], .slice ha hl hc] w fun e w' => e = .returned (.bool (rightB N S T hs)) ∧ Kept w w' := by
  subst hrl hhl
  exact right_any N S T n m a3 a4 a5 a6 a7 a8 c3 c4 c5 c6 c7 c8 ys ha hc hs w hg hh hm
theorem refRight_at (N S T : Int) (n m : Nat) (a3 a4 a5 a6 a7 a8 : Option Addr) (c3 c4 c5 c6 c7 c8 : Nat) (ys : List Ar) (ra : Option Addr) (rc : Nat) (rs : List Int) (ha : Option Addr) (hc : Nat) (hs : List Int) (rl hl : Nat) (w : World) (hg : Gr N S T n m ys) (hcr : CsrR w n ys a3 a4 a5 a6 a7 a8) (hr : Rd w ra (lv rs)) (hh : Rd w ha (lv hs)) (hm : hs.length ≤ 9223372036854775807) (hrl : rs.length = rl) (hhl : hs.length = hl) :
    Calls Try.prog 45 #[.agg #[.int .i64 N, .int .i64 S, .int .i64 T, .slice a3 (n + 1) c3, .slice a4 m c4, .slice a5 m c5, .slice a6 m c6, .slice a7 m c7, .slice a8 m c8], .slice ha hl hc] w fun e w' => e = .returned (.bool (rightB N S T hs)) ∧ Kept w w' := by
  subst hrl hhl
  exact refRight_any N S T n m a3 a4 a5 a6 a7 a8 c3 c4 c5 c6 c7 c8 ys ha hc hs w hg hh hm
theorem valid_at (N S T : Int) (n m : Nat) (a3 a4 a5 a6 a7 a8 : Option Addr) (c3 c4 c5 c6 c7 c8 : Nat) (ys : List Ar) (ra : Option Addr) (rc : Nat) (rs : List Int) (ha : Option Addr) (hc : Nat) (hs : List Int) (rl hl : Nat) (w : World) (hg : Gr N S T n m ys) (hcr : CsrR w n ys a3 a4 a5 a6 a7 a8) (hr : Rd w ra (lv rs)) (hh : Rd w ha (lv hs)) (hm : hs.length ≤ 9223372036854775807) (hrl : rs.length = rl) (hhl : hs.length = hl) :
    Calls Try.prog 21 #[.agg #[.int .i64 N, .int .i64 S, .int .i64 T, .slice a3 (n + 1) c3, .slice a4 m c4, .slice a5 m c5, .slice a6 m c6, .slice a7 m c7, .slice a8 m c8], .slice ra rl rc, .slice ha hl hc] w fun e w' => e = .returned (.bool (validB N S T n m ys rs hs)) ∧ Kept w w' := by
  subst hrl hhl
  exact valid_any N S T n m a3 a4 a5 a6 a7 a8 c3 c4 c5 c6 c7 c8 ys ra rc rs ha hc hs w hg hcr hr hh hm
theorem steep_at (N S T : Int) (n m : Nat) (a3 a4 a5 a6 a7 a8 : Option Addr) (c3 c4 c5 c6 c7 c8 : Nat) (ys : List Ar) (ra : Option Addr) (rc : Nat) (rs : List Int) (ha : Option Addr) (hc : Nat) (hs : List Int) (rl hl : Nat) (L : List Nat) (k : Nat) (w : World) (hg : Gr N S T n m ys) (hcr : CsrR w n ys a3 a4 a5 a6 a7 a8) (hr : Rd w ra (lv rs)) (hh : Rd w ha (lv hs)) (hm : hs.length ≤ 9223372036854775807) (hrl : rs.length = rl) (hhl : hs.length = hl) (hL : dnL N S T n m ys rs hs (isP true) = L) (hk : L.length = k) :
    Calls Try.prog 22 #[.agg #[.int .i64 N, .int .i64 S, .int .i64 T, .slice a3 (n + 1) c3, .slice a4 m c4, .slice a5 m c5, .slice a6 m c6, .slice a7 m c7, .slice a8 m c8], .slice ra rl rc, .slice ha hl hc] w fun e w' => ∃ a c, e = .returned (.slice a k c) ∧ Rd w' a (nv L) ∧ Kept w w' := by
  subst hrl hhl
  subst hL hk
  refine (steep_any N S T n m a3 a4 a5 a6 a7 a8 c3 c4 c5 c6 c7 c8 ys ra rc rs ha hc hs w hg hcr hr hh hm).mono ?_
  rintro e w' ⟨v, rfl, ho, hk⟩
  obtain ⟨a, c, rfl, hr⟩ := Rd.owns ho
  exact ⟨a, c, rfl, hr, hk⟩
theorem flat_at (N S T : Int) (n m : Nat) (a3 a4 a5 a6 a7 a8 : Option Addr) (c3 c4 c5 c6 c7 c8 : Nat) (ys : List Ar) (ra : Option Addr) (rc : Nat) (rs : List Int) (ha : Option Addr) (hc : Nat) (hs : List Int) (rl hl : Nat) (L : List Nat) (k : Nat) (w : World) (hg : Gr N S T n m ys) (hcr : CsrR w n ys a3 a4 a5 a6 a7 a8) (hr : Rd w ra (lv rs)) (hh : Rd w ha (lv hs)) (hm : hs.length ≤ 9223372036854775807) (hrl : rs.length = rl) (hhl : hs.length = hl) (hL : dnL N S T n m ys rs hs (isP false) = L) (hk : L.length = k) :
    Calls Try.prog 24 #[.agg #[.int .i64 N, .int .i64 S, .int .i64 T, .slice a3 (n + 1) c3, .slice a4 m c4, .slice a5 m c5, .slice a6 m c6, .slice a7 m c7, .slice a8 m c8], .slice ra rl rc, .slice ha hl hc] w fun e w' => ∃ a c, e = .returned (.slice a k c) ∧ Rd w' a (nv L) ∧ Kept w w' := by
  subst hrl hhl
  subst hL hk
  refine (flat_any N S T n m a3 a4 a5 a6 a7 a8 c3 c4 c5 c6 c7 c8 ys ra rc rs ha hc hs w hg hcr hr hh hm).mono ?_
  rintro e w' ⟨v, rfl, ho, hk⟩
  obtain ⟨a, c, rfl, hr⟩ := Rd.owns ho
  exact ⟨a, c, rfl, hr, hk⟩
theorem nats_at (a a' : Option Addr) (c c' : Nat) (L : List Nat) (k : Nat) (w : World) (hx : Rd w a (nv L)) (hy : Rd w a' (nv L)) (hk : L.length = k) (hm : k ≤ 1000000000) :
    Calls Try.prog 15 #[.slice a k c, .slice a' k c'] w fun e w' => e = .returned (.bool true) ∧ Kept w w' := by
  subst hk
  have e : nv L = lv (L.map fun (n : Nat) => (n : Int)) := by simp [nv, lv]
  rw [e] at hx hy
  have h1 := ints_same a a' c c' (L.map fun (n : Nat) => (n : Int)) (L.map fun (n : Nat) => (n : Int)) w hx hy (by simpa using hm) (by simpa using hm)
  simpa using h1
theorem Rd.take {w : World} {a : Option Addr} {rs : List Int} (h : Rd w a (lv rs)) (k : Nat) : Rd w a (lv (rs.take k)) := by
  rcases h with h | ⟨b, off, rfl, hc⟩
  · left
    have : rs = [] := by simpa [lv] using h
    subst this
    simp [lv]
  · refine .inr ⟨b, off, rfl, fun i u hu => hc i u ?_⟩
    unfold lv at hu ⊢
    rw [List.map_take, List.getElem?_take] at hu
    split at hu
    · exact hu
    · cases hu
theorem row_cap {w : World} {base n k : Nat} {e : TypeId} {a : Option Addr} {c : Nat} {vs : List Value} (h : w.ownsRow base e k (.slice a n c) n vs) : n ≤ c := by
  rcases h.2 with ⟨h1, h2⟩ | ⟨g, cap, cur, h1, h2, h3, h4, h5⟩
  · cases h1; omega
  · cases h1; omega
/-- What a law of chapter 6 looks at. -/
structure LS (N S T : Int) (n m : Nat) (a3 a4 a5 a6 a7 a8 : Option Addr) (c3 c4 c5 c6 c7 c8 : Nat) (w : World) (ys : List Ar) (cb : Nat) (ra : Option Addr) (rs : List Int) (ha : Option Addr) (hs : List Int) (wr : World) : Prop where
  kp : Kept w wr
  box : Blk wr cb #[.int .i64 N, .int .i64 S, .int .i64 T, .slice a3 (n + 1) c3, .slice a4 m c4, .slice a5 m c5, .slice a6 m c6, .slice a7 m c7, .slice a8 m c8] 29
  cr : CsrR wr n ys a3 a4 a5 a6 a7 a8
  rs : Rd wr ra (lv rs)
  hs : Rd wr ha (lv hs)
theorem LS.kept {N S T : Int} {n m : Nat} {a3 a4 a5 a6 a7 a8 : Option Addr} {c3 c4 c5 c6 c7 c8 : Nat} {w : World} {ys : List Ar} {cb : Nat} {ra : Option Addr} {rs : List Int} {ha : Option Addr} {hs : List Int} {wr w' : World} (h : LS N S T n m a3 a4 a5 a6 a7 a8 c3 c4 c5 c6 c7 c8 w ys cb ra rs ha hs wr) (hk : Kept wr w') : LS N S T n m a3 a4 a5 a6 a7 a8 c3 c4 c5 c6 c7 c8 w ys cb ra rs ha hs w' :=
  ⟨h.kp.trans hk, h.box.kept hk, h.cr.kept hk, h.rs.kept hk, h.hs.kept hk⟩
end Go.Proofs.Yticeionjlknlcaa
