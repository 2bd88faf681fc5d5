/- What a step of the reference's machine holds (printed by gen_refstep11.py). -/
import Derived.Test.YtdgkemadhooogaaDeqRun
import Derived.Test.YtdgkemadhooogaaRefBank
import Derived.Test.YtdgkemadhooogaaRef10
import Derived.Test.YtdgkemadhooogaaAwake11
import Derived.Deep.RegionHeld3
import Derived.Deep.CutRange
import Derived.StillTailTactics
import Derived.Deep.MidRow
namespace Go.Proofs.Ytdgkemadhooogaa
set_option linter.unusedVariables false
set_option linter.unusedSimpArgs false
open Go.RowKit
attribute [local go_sem] cell?_ext

theorem refLoadN {g cap N : Nat} {xs : List Int} {w : World} (hr : RB w g cap xs) (hN : xs.length = N) (i r : Int) (hb : bget xs i = r) (hm : N ≤ 1000000) :
    Calls Try.prog 53 #[.slice (some ⟨g, 0, none⟩) N cap, .int .i64 i] w fun e w' => e = .returned (.int .i64 r) ∧ w = w' := by
  subst hN hb; exact refLoad_any hr i hm
def PutN (N : Nat) (xs : List Int) (w : World) (e : Ending) (w' : World) : Prop := ∃ g cap, e = .returned (.slice (some ⟨g, 0, none⟩) N cap) ∧ RB w' g cap xs ∧ w.heap.size ≤ g ∧ Kept w w'
theorem refPutN {g cap N : Nat} {xs ys : List Int} {w : World} (hr : RB w g cap xs) (hN : xs.length = N) (i v : Int) (hy : bput xs i v = ys) (hm : N ≤ 1000000) :
    Calls Try.prog 87 #[.slice (some ⟨g, 0, none⟩) N cap, .int .i64 i, .int .i64 v] w (PutN N ys w) := by
  subst hN hy
  refine (refPut_any hr i v hm).mono fun e w' ⟨g', c', h1, h2⟩ => ⟨g', c', ?_, h2⟩
  rw [h1, length_bput]
theorem refTop_g {l : Lay} {k : Int} {tp r : Nat} (hG : Geo l k tp r) (w : World) : Calls Try.prog 54 #[l.val, .int .i64 k] w fun e w' => e = .returned (.int .i64 (tp : Int)) ∧ Kept w w' := by
  have h1 := hG.room_le
  rw [← hG.top]
  exact refTop_any l k w hG.d0 hG.d1 (by omega) (by omega) hG.k0 hG.k1
theorem refBottom_g {l : Lay} {k : Int} {tp r : Nat} (hG : Geo l k tp r) (w : World) : Calls Try.prog 55 #[l.val, .int .i64 k] w fun e w' => e = .returned (.int .i64 ((tp : Int) + 1)) ∧ Kept w w' := by
  have h1 := hG.room_le
  rw [← hG.top]
  exact refBottom_any l k w hG.d0 hG.d1 (by omega) (by omega) hG.k0 hG.k1
theorem refSlot_g {l : Lay} {k : Int} {tp r : Nat} (hG : Geo l k tp r) (j : Int) (h0 : 0 ≤ j) (h9 : j ≤ 1000000) (w : World) : Calls Try.prog 56 #[l.val, .int .i64 k, .int .i64 j] w fun e w' => e = .returned (.int .i64 (slot tp r j)) ∧ Kept w w' := by
  obtain ⟨n, rfl⟩ := Int.eq_ofNat_of_zero_le h0
  have h1 := hG.room_le
  unfold slot
  rw [← hG.top]
  exact refSlot_any l k r n w hG.d0 hG.d1 hG.r13 hG.room hG.k0 hG.k1 (by omega)
/-- The cells of the reference's machine. -/
def RMA (l : Lay) (k v kn a t b x : Int) (dn gt of : Bool) : List Value :=
  .int .i64 kn :: .int .i64 a :: .int .i64 k :: .int .i64 l.verts :: .int .i64 l.arcs :: .int .i64 l.workers :: .int .i64 l.room :: .int .i64 l.res :: .int .i64 l.ex :: .int .i64 l.h :: .int .i64 l.flag :: .int .i64 l.pending :: .int .i64 l.ask :: .int .i64 l.count :: .int .i64 l.sense :: .int .i64 l.deques :: .int .i64 l.size :: .int .i64 v :: .int .i64 t :: .int .i64 b :: .int .i64 x :: .bool dn :: .bool gt :: .bool of :: []
structure RS (w : World) (g0 b2 b4 : Nat) (l : Lay) (k v kn a t b x : Int) (dn gt of : Bool) (g cap : Nat) (xs : List Int) (W : World) : Prop where
  m : Blk W b2 (RMA l k v kn a t b x dn gt of).toArray 73
  r : Blk W b4 #[.int .i64 0, .int .i64 0, .int .i64 0, .int .i64 0, .int .i64 0, .int .i64 0, .int .i64 0, .int .i64 0, .int .i64 0, .int .i64 0, .int .i64 0, .int .i64 0, .int .i64 0, .int .i64 0, .int .i64 0, .int .i64 0, .int .i64 0, .int .i64 0, .int .i64 0, .int .i64 0, .int .i64 0, .bool false, .bool false, .bool false] 73
  rb : RB W g cap xs
  kp : Kept w W
  ne : w.heap.size ≤ b2 ∧ w.heap.size ≤ b4 ∧ ¬ b2 = b4 ∧ ¬ b2 = g ∧ ¬ b4 = g
  gn : g = g0 ∨ w.heap.size ≤ g
/-- What the reference's step answers. -/
def RefEnd (N : Nat) (l : Lay) (k v kn a t b x : Int) (dn gt of : Bool) (xs : List Int) (g0 : Nat) (w : World) (e : Ending) (w' : World) : Prop := ∃ g cap, e = .returned (.tuple #[.agg (RMA l k v kn a t b x dn gt of).toArray, .slice (some ⟨g, 0, none⟩) N cap]) ∧ RB w' g cap xs ∧ Kept w w' ∧ (g = g0 ∨ w.heap.size ≤ g)
section
variable {w W W' : World} {g0 b2 b4 g cap : Nat} {l : Lay} {k v kn a t b x : Int} {dn gt of : Bool} {xs : List Int}
theorem RS.kept (h : RS w g0 b2 b4 l k v kn a t b x dn gt of g cap xs W) (hk : Kept W W') : RS w g0 b2 b4 l k v kn a t b x dn gt of g cap xs W' := ⟨h.m.kept hk, h.r.kept hk, h.rb.kept hk, h.kp.trans hk, h.ne, h.gn⟩
theorem RS.mem (h : RS w g0 b2 b4 l k v kn a t b x dn gt of g cap xs W) (hk : Kept W W') {g' cap' : Nat} {ys : List Int} (hr : RB W' g' cap' ys) (hg : W.heap.size ≤ g') : RS w g0 b2 b4 l k v kn a t b x dn gt of g' cap' ys W' := by
  have h1 := h.m.lt
  have h2 := h.r.lt
  have h3 := h.ne
  exact ⟨h.m.kept hk, h.r.kept hk, hr, h.kp.trans hk, by omega, .inr (Nat.le_trans h.kp.size hg)⟩
theorem RS.upd (h : RS w g0 b2 b4 l k v kn a t b x dn gt of g cap xs W) {u : Value} {i : Nat} {kn' a' t' b' x' : Int} {dn' gt' of' : Bool} (hv : (RMA l k v kn a t b x dn gt of).set i u = RMA l k v kn' a' t' b' x' dn' gt' of') :
    RS w g0 b2 b4 l k v kn' a' t' b' x' dn' gt' of' g cap xs (W.setCell ⟨b2, i, none⟩ u) := by
  have h3 := h.ne
  have hu : Upd (fun k => k = b2) W (W.setCell ⟨b2, i, none⟩ u) := updCell W b2 i u
  refine ⟨?_, h.r.upd hu (fun e => by omega), h.rb.upd hu (fun e => by omega), h.kp.then hu (fun i hi e => by omega), h3, h.gn⟩
  have := h.m.set i u
  rw [List.setIfInBounds_toArray, hv] at this
  exact this
theorem RS.start (hr : RB w g cap xs) : RS w g w.heap.size (w.heap.size + 1) l k v kn a t b x dn gt of g cap xs ((w.alloc (.cells (RMA l k v kn a t b x dn gt of).toArray 73)).alloc (.cells #[.int .i64 0, .int .i64 0, .int .i64 0, .int .i64 0, .int .i64 0, .int .i64 0, .int .i64 0, .int .i64 0, .int .i64 0, .int .i64 0, .int .i64 0, .int .i64 0, .int .i64 0, .int .i64 0, .int .i64 0, .int .i64 0, .int .i64 0, .int .i64 0, .int .i64 0, .int .i64 0, .int .i64 0, .bool false, .bool false, .bool false] 73)) := by
  have h1 := hr.lt
  have hk : Kept w ((w.alloc (.cells (RMA l k v kn a t b x dn gt of).toArray 73)).alloc (.cells #[.int .i64 0, .int .i64 0, .int .i64 0, .int .i64 0, .int .i64 0, .int .i64 0, .int .i64 0, .int .i64 0, .int .i64 0, .int .i64 0, .int .i64 0, .int .i64 0, .int .i64 0, .int .i64 0, .int .i64 0, .int .i64 0, .int .i64 0, .int .i64 0, .int .i64 0, .int .i64 0, .int .i64 0, .bool false, .bool false, .bool false] 73)) := ((Upd.refl _ _).alloc _).alloc _
  have h2 := Blk.new (w.alloc (.cells (RMA l k v kn a t b x dn gt of).toArray 73)) #[.int .i64 0, .int .i64 0, .int .i64 0, .int .i64 0, .int .i64 0, .int .i64 0, .int .i64 0, .int .i64 0, .int .i64 0, .int .i64 0, .int .i64 0, .int .i64 0, .int .i64 0, .int .i64 0, .int .i64 0, .int .i64 0, .int .i64 0, .int .i64 0, .int .i64 0, .int .i64 0, .int .i64 0, .bool false, .bool false, .bool false] 73
  rw [World.size_alloc] at h2
  exact ⟨(Blk.new _ _ _).alloc _, h2, hr.kept hk, hk, by omega, .inl rfl⟩
theorem RS.end9 (h : RS w g0 b2 b4 l k v kn a t b x dn gt of g cap xs W) (N : Nat) (hu : Upd (fun i => i = b4) W W') : RefEnd N l k v kn a t b x dn gt of xs g0 w (.returned (.tuple #[.agg (RMA l k v kn a t b x dn gt of).toArray, .slice (some ⟨g, 0, none⟩) N cap])) W' := by
  have h3 := h.ne
  exact ⟨g, cap, rfl, h.rb.upd hu (fun e => by omega), h.kp.then hu (fun i hi e => by omega), h.gn⟩
end
end Go.Proofs.Ytdgkemadhooogaa
