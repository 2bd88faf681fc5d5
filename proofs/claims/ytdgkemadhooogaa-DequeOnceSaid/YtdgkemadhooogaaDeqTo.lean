/- A deque by itself: what its machines leave, as a row. Plain. -/
import Derived.Test.YtdgkemadhooogaaDeqRun
import Derived.Test.YtdgkemadhooogaaSame11
namespace Go.Proofs.Ytdgkemadhooogaa
set_option linter.unusedVariables false
set_option linter.unusedSimpArgs false
open Go.RowKit

/-- The cells ahead of a deque are as they were. -/
def Ahead (tp : Nat) (xs ys : List Int) : Prop := ys.length = xs.length ∧ ∀ i : Int, 0 ≤ i → i < tp → bget ys i = bget xs i
theorem Ahead.refl (tp : Nat) (xs : List Int) : Ahead tp xs xs := ⟨rfl, fun _ _ _ => rfl⟩
theorem Ahead.put {tp : Nat} {xs ys : List Int} (h : Ahead tp xs ys) {i v : Int} (hi : (tp : Int) ≤ i) : Ahead tp xs (bput ys i v) :=
  ⟨by rw [bput_len]; exact h.1, fun j h0 hj => by rw [bput_two (by omega) (by omega) h0]; exact h.2 j h0 hj⟩
section
variable {tp r : Nat} {xs : List Int} {T : Int} {L : List Int}
theorem push_to (h : Row tp r xs T L) (hr : L.length < 2 ^ r) (hb : T + L.length + 1 ≤ 100000) (v : Int) (lo : Bool) :
    ∃ ys, Row tp r ys T (L ++ [v]) ∧ Ahead tp xs ys ∧ Alone tp r (.push v) ⟨⟨0, 0, 0, 0, false, false⟩, lo, xs⟩ 4 ⟨⟨4, T, T + L.length, 0, true, true⟩, lo, ys⟩ :=
  ⟨_, h.push hr hb v, ((Ahead.refl tp xs).put (by have := slot_in tp r (T + L.length); omega)).put (by omega), push_alone h hr hb v lo⟩
theorem pop_to (h : Row tp r xs T L) (hl : 2 ≤ L.length) (lo : Bool) :
    ∃ ys, Row tp r ys T L.dropLast ∧ Ahead tp xs ys ∧ Alone tp r .pop ⟨⟨0, 0, 0, 0, false, false⟩, lo, xs⟩ 4 ⟨⟨4, T, T + L.length - 1, L.getD (L.length - 1) 0, true, true⟩, lo, ys⟩ :=
  ⟨_, h.pop (by omega), (Ahead.refl tp xs).put (by omega), pop_many h hl lo⟩
theorem pop1_to {x : Int} (h : Row tp r xs T [x]) (lo : Bool) :
    ∃ ys, Row tp r ys (T + 1) [] ∧ Ahead tp xs ys ∧ Alone tp r .pop ⟨⟨0, 0, 0, 0, false, false⟩, lo, xs⟩ 6 ⟨⟨6, T, T, x, true, true⟩, lo, ys⟩ :=
  ⟨_, h.steal (by simp), (Ahead.refl tp xs).put (by omega), pop_one h lo⟩
theorem steal_to (h : Row tp r xs T L) (hl : 0 < L.length) :
    ∃ ys, Row tp r ys (T + 1) L.tail ∧ Ahead tp xs ys ∧ Alone tp r .steal ⟨⟨0, 0, 0, 0, false, false⟩, false, xs⟩ 4 ⟨⟨4, T, T + L.length, L.getD 0 0, true, true⟩, false, ys⟩ :=
  ⟨_, h.steal hl, (Ahead.refl tp xs).put (by omega), steal_some h hl⟩
end
theorem Held_row {w : World} {l : Lay} {k : Int} {bb g : Nat} {xs : List Int} {tp r : Nat} {T : Int} {L : List Int} (hG : Geo l k tp r) (hb : Bnk w bb g xs) (h : Row tp r xs T L) (n : Nat) (hn : L.length = n) :
    Calls Try.prog 18 #[l.val, .int .i64 k, .pointer (some ⟨bb, 0, none⟩)] w fun e w' => ∃ a c, e = .returned (.slice a n c) ∧ Rd w' a (L.map (Value.int .i64)) ∧ Kept w w' := by
  subst hn
  have h0 := h.t0
  have h1 := h.big
  have := Held_any hG hb (by rw [h.top]; omega)
  rw [h.held] at this
  exact this
theorem same_at (a a' : Option Addr) (c c' : Nat) (xs : List Int) (n : Nat) (w : World) (hx : Rd w a (xs.map (Value.int .i64))) (hy : Rd w a' (xs.map (Value.int .i64))) (hn : xs.length = n) (hm : n ≤ 1000000000) :
    Calls Try.prog 17 #[.slice a n c, .slice a' n c'] w fun e w' => e = .returned (.bool true) ∧ Kept w w' := by
  subst hn
  have h1 := longs_same a a' c c' xs xs w hx hy hm hm
  simpa using h1
end Go.Proofs.Ytdgkemadhooogaa
