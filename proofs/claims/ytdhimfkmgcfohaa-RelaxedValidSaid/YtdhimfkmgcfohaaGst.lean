/- What the laws of a graph's chapters look at: a right graph in its box, and what is left of it. No walk. -/
import Derived.Test.YtdhimfkmgcfohaaLeft
import Derived.Test.YtdhimfkmgcfohaaGr
namespace Go.Proofs.Ytdhimfkmgcfohaa
set_option linter.unusedVariables false
open Go.RowKit

theorem left_in {N S T : Int} {n m : Nat} {ys : List Ar} (hg : Gr N S T n m ys) {ls : List Int} (hl : ∀ x ∈ ls, -9223372036854775808 ≤ x ∧ x ≤ 9223372036854775807) : ∀ x ∈ resAll (wths ls ys) n ys, 0 ≤ x ∧ x < 1125899906842624 :=
  res_in hg.arcs (wths_ok ls ys hg.ok.arcs)
theorem someOr_row {w : World} {base n size : Nat} {e : TypeId} {a : Option Addr} {c : Nat} {vs : List Value} (h : w.ownsRow base e size (.slice a n c) n vs) : (∃ ad, a = some ad) ∨ (a = none ∧ n = 0 ∧ c = 0) := by
  rcases h.2 with ⟨h1, h2⟩ | ⟨g, cap, cur, h1, -⟩
  · cases h1; exact .inr ⟨rfl, rfl, rfl⟩
  · cases h1; exact .inl ⟨_, rfl⟩
theorem row_cap' {w : World} {base n k : Nat} {e : TypeId} {a : Option Addr} {c : Nat} {vs : List Value} (h : w.ownsRow base e k (.slice a n c) n vs) : n ≤ c := by
  rcases h.2 with ⟨h1, h2⟩ | ⟨g, cap, cur, h1, h2, h3, h4, h5⟩
  · cases h1; omega
  · cases h1; omega
/-- A graph in its box, its rows, and what is left. -/
structure GF (N S T : Int) (n m : Nat) (a3 a4 a5 a6 a7 a8 : Option Addr) (c3 c4 c5 c6 c7 c8 : Nat) (ys : List Ar) (cb : Nat) (ra : Option Addr) (rs : List Int) (w : World) : Prop where
  box : Blk w cb #[.int .i64 N, .int .i64 S, .int .i64 T, .slice a3 (n + 1) c3, .slice a4 m c4, .slice a5 m c5, .slice a6 m c6, .slice a7 m c7, .slice a8 m c8] 32
  cr : CsrR w n ys a3 a4 a5 a6 a7 a8
  rs : Rd w ra (lv rs)
theorem GF.kept {N S T : Int} {n m : Nat} {a3 a4 a5 a6 a7 a8 : Option Addr} {c3 c4 c5 c6 c7 c8 : Nat} {ys : List Ar} {cb : Nat} {ra : Option Addr} {rs : List Int} {w w' : World} (h : GF N S T n m a3 a4 a5 a6 a7 a8 c3 c4 c5 c6 c7 c8 ys cb ra rs w) (hk : Kept w w') : GF N S T n m a3 a4 a5 a6 a7 a8 c3 c4 c5 c6 c7 c8 ys cb ra rs w' :=
  ⟨h.box.kept hk, h.cr.kept hk, h.rs.kept hk⟩
/-- A step that turns blocks that came later alone. -/
theorem Upd.late {S : Nat → Prop} {a b c : World} (h : Kept a b) (k : Upd S b c) (hs : ∀ i, S i → a.heap.size ≤ i) : Kept a c :=
  h.then k fun i hi s => by have := hs i s; omega
theorem Kept.set {a b : World} (h : Kept a b) {p : Addr} (hp : a.heap.size ≤ p.block) (u : Value) : Kept a (b.setCell p u) := Upd.setCell h (.inr hp) u
/-- The world's facts that a load of a row's number wants. -/
theorem Rd.num {w : World} {a : Option Addr} {xs : List Int} (h : Rd w a (lv xs)) {i : Nat} (hi : i < xs.length) : ∃ b off, a = some ⟨b, off, none⟩ ∧ w.cell? ⟨b, off + i, none⟩ = some (.int .i64 (xs.getD i 0)) := by
  obtain ⟨b, off, e, hc⟩ := h.at i (by rw [lv_len]; exact hi)
  exact ⟨b, off, e, by rw [hc, lv_get hi]⟩
end Go.Proofs.Ytdhimfkmgcfohaa
