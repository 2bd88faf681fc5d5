/- Two rows of numbers that the call owns. -/
import Derived.Test.YtacacnjpfflbnaaSchedNone
import Derived.Maps.AppendAt
namespace Go.Proofs.Ytacacnjpfflbnaa
set_option linter.unusedVariables false
open Go.RowKit

theorem ownsRow_far {w w' : World} {base n size : Nat} {e : TypeId} {v : Value} {vs : List Value} {S : Nat → Prop} (h : w.ownsRow base e size v n vs) (hu : Upd S w w') (hs : ∀ k, v.ownBlock = some k → ¬ S k) : w'.ownsRow base e size v n vs := by
  refine ⟨h.1, ?_⟩
  rcases h.2 with h2 | ⟨g, cap, cur, hv, hg, hh, r⟩
  · exact .inl h2
  · exact .inr ⟨g, cap, cur, hv, hg, (hu.block _ (Array.getElem?_eq_some_iff.1 hh).1 (hs g (by rw [hv]; rfl))).trans hh, r⟩
theorem updCell (w : World) (g i : Nat) (v : Value) : Upd (fun k => k = g) w (w.setCell ⟨g, i, none⟩ v) := Upd.setCell (S := fun k => k = g) (p := ⟨g, i, none⟩) (Upd.refl _ _) (.inl rfl) v
theorem own_cell {w : World} {base n cap g : Nat} {e : TypeId} {vs : List Value} (h : w.ownsRow base e 1 (.slice (some ⟨g, 0, none⟩) n cap) n vs) (i : Nat) (hi : i < n) :
    w.cell? ⟨g, i, none⟩ = vs[i]? ∧ w.frozen? ⟨g, i, none⟩ = false := by
  refine ⟨World.ownsRow.cellAt h i (by omega), ?_⟩
  rcases h.2 with ⟨e1, _⟩ | ⟨g', cap', cur, e1, _, hh, _⟩
  · cases e1
  · cases e1; exact frozen_of_row w g i cur e hh

/-- Two rows, v1 and v2, that share no block. -/
structure Two (base : Nat) (wr : World) (v1 v2 : Value) (n1 n2 : Nat) (xs ys : List Value) : Prop where
  o1 : wr.ownsRow base 3 1 v1 n1 xs
  o2 : wr.ownsRow base 3 1 v2 n2 ys
  ap : ∀ j, v1.ownBlock = some j → v2.ownBlock = some j → False
section
variable {base : Nat} {w wr w1 : World} {v1 v2 v' : Value} {n1 n2 : Nat} {xs ys zs : List Value} {o : Obj}
theorem Two.alloc (h : Two base wr v1 v2 n1 n2 xs ys) (o : Obj) : Two base (wr.alloc o) v1 v2 n1 n2 xs ys := ⟨h.o1.alloc _, h.o2.alloc _, h.ap⟩
theorem Two.kept (h : Two base wr v1 v2 n1 n2 xs ys) (hk : Kept wr w1) : Two base w1 v1 v2 n1 n2 xs ys := ⟨ownsRow_far h.o1 hk (fun _ _ f => f), ownsRow_far h.o2 hk (fun _ _ f => f), h.ap⟩
theorem Two.add1 (h : Two base wr v1 v2 n1 n2 xs ys) (hown : w1.ownsRow base 3 1 v' (n1 + 1) zs) (hg : wr.grownBy w1 v1.ownBlock) (hat : v'.ownBlock = v1.ownBlock ∨ v'.ownBlock = some wr.heap.size) : Two base w1 v' v2 (n1 + 1) n2 zs ys := by
  have hU : Upd (fun j => v1.ownBlock = some j) wr w1 := Upd.grown (Upd.refl _ _) hg (fun j hj => .inl hj)
  refine ⟨hown, ownsRow_far h.o2 hU (fun k h1 h2 => h.ap k h2 h1), fun j h1 h2 => ?_⟩
  rcases hat with e | e
  · rw [e] at h1; exact h.ap j h1 h2
  · rw [e] at h1; cases h1; have := (World.ownsRow.lt h.o2 _ h2).2; omega
theorem Two.add2 (h : Two base wr v1 v2 n1 n2 xs ys) (hown : w1.ownsRow base 3 1 v' (n2 + 1) zs) (hg : wr.grownBy w1 v2.ownBlock) (hat : v'.ownBlock = v2.ownBlock ∨ v'.ownBlock = some wr.heap.size) : Two base w1 v1 v' n1 (n2 + 1) xs zs := by
  have hU : Upd (fun j => v2.ownBlock = some j) wr w1 := Upd.grown (Upd.refl _ _) hg (fun j hj => .inl hj)
  refine ⟨ownsRow_far h.o1 hU (fun k h1 h2 => h.ap k h1 h2), hown, fun j h1 h2 => ?_⟩
  rcases hat with e | e
  · rw [e] at h2; exact h.ap j h1 h2
  · rw [e] at h2; cases h2; have := (World.ownsRow.lt h.o1 _ h1).2; omega
end
theorem Two.set1 {base : Nat} {wr : World} {g c n n2 : Nat} {v2 : Value} {xs ys : List Value} (h : Two base wr (.slice (some ⟨g, 0, none⟩) n c) v2 n n2 xs ys) (j : Nat) (u : Value) : Two base (wr.setCell ⟨g, j, none⟩ u) (.slice (some ⟨g, 0, none⟩) n c) v2 n n2 (xs.set j u) ys :=
  ⟨(World.ownsRow.stored h.o1 j u).1, ownsRow_far h.o2 (updCell _ g j u) (fun k h1 h2 => by subst h2; exact h.ap _ rfl h1), h.ap⟩
theorem Two.set2 {base : Nat} {wr : World} {g c n n1 : Nat} {v1 : Value} {xs ys : List Value} (h : Two base wr v1 (.slice (some ⟨g, 0, none⟩) n c) n1 n xs ys) (j : Nat) (u : Value) : Two base (wr.setCell ⟨g, j, none⟩ u) v1 (.slice (some ⟨g, 0, none⟩) n c) n1 n xs (ys.set j u) :=
  ⟨ownsRow_far h.o1 (updCell _ g j u) (fun k h1 h2 => by subst h2; exact h.ap _ h1 rfl), (World.ownsRow.stored h.o2 j u).1, h.ap⟩
theorem own_addr {w : World} {base n : Nat} {e : TypeId} {a : Option Addr} {c : Nat} {vs : List Value} (h : w.ownsRow base e 1 (.slice a n c) n vs) (hn : 0 < n) : ∃ g, a = some ⟨g, 0, none⟩ := by
  rcases h.2 with ⟨_, h0⟩ | ⟨g', cap', cur, e1, _⟩
  · omega
  · cases e1; exact ⟨g', rfl⟩
theorem Blk.fillT {w : World} {b k n : Nat} {T : TypeId} (h : Blk w b ((filled (List.replicate n true) false k).map Value.bool).toArray T) (hk : k < n) : Blk (w.setCell ⟨b, k, none⟩ (.bool true)) b ((filled (List.replicate n true) false (k + 1)).map Value.bool).toArray T := by
  have := h.fill (f := Value.bool) (by simpa using hk)
  rw [List.getElem_replicate] at this
  exact this
theorem New_okN (n : Nat) (a : Option Addr) (c m : Nat) (xs : List Int) (w : World) (hm : xs.length = m) (h1 : 1 ≤ n) (h2 : n ≤ 64) (h : Rd w a (xs.map (Value.int .i64))) (hx : m ≤ 1000000000) :
    Calls Try.prog 8 #[.int .i64 (n : Int), .slice a m c] w (NewIs n xs w) := by subst hm; exact New_ok n a c xs w h1 h2 h hx
theorem Next_noneN {w : World} {bd : Nat → Prop} {sb tb : Nat} {s : SS} (hS : Sc w bd sb tb s) (hbd : ∀ k, bd k → k < w.heap.size) (a : Option Addr) (c m : Nat) (dl : List Bool) (hm : dl.length = m) (hd : Rd w a (dl.map Value.bool))
    (hda : ∀ b off, a = some ⟨b, off, none⟩ → dl.map Value.bool ≠ [] → ¬ (b = sb ∨ b = tb)) (he : s.ended < 4611686018427387904) (hv : s.who dl = none) :
    Calls Try.prog 10 #[.pointer (some ⟨sb, 0, none⟩), .slice a m c] w fun e w' => e = .returned (.tuple #[.int .i64 0, .bool false]) ∧ Kept w w' := by subst hm; exact Next_none hS hbd a c dl hd hda he hv
theorem Next_nil {w : World} {bd : Nat → Prop} {sb tb : Nat} {s : SS} (hS : Sc w bd sb tb s) (hbd : ∀ k, bd k → k < w.heap.size) (he : s.ended < 4611686018427387904) (v : Nat) (hv : s.who [] = some v) (t : SS) (ht : s.step [] = t) :
    Calls Try.prog 10 #[.pointer (some ⟨sb, 0, none⟩), .slice none 0 0] w fun e w' => e = .returned (.tuple #[.int .i64 (v : Int), .bool true]) ∧ Sc w' bd sb tb t ∧ Upd (fun k => k = sb ∨ k = tb) w w' :=
  Next_some hS hbd none 0 [] (.inl rfl) (fun _ _ e => by cases e) he v hv t ht
end Go.Proofs.Ytacacnjpfflbnaa
