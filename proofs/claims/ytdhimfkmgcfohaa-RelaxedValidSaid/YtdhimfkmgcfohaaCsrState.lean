/- The state of acequiaref02.Make (printed by gen_csrstate.py). No walk. -/
import Derived.Test.YtdhimfkmgcfohaaCsr
import Derived.Test.YtdhimfkmgcfohaaPush
namespace Go.Proofs.Ytdhimfkmgcfohaa
set_option linter.unusedVariables false
open Go.RowKit

theorem infoInt : (Try.prog.info? 3).map (fun i => (i.zero, i.size, i.bytes)) = some (some (.int .i64 0), 1, 8) := by kernel_rfl
theorem infoLong : (Try.prog.info? 2).map (fun i => (i.zero, i.size, i.bytes)) = some (some (.int .i64 0), 1, 8) := by kernel_rfl
theorem infoBool : (Try.prog.info? 4).map (fun i => (i.zero, i.size, i.bytes)) = some (some (.bool false), 1, 1) := by kernel_rfl
def nv (l : List Nat) : List Value := l.map fun (n : Nat) => .int .i64 (n : Int)
def hv (es : List En) : List Value := es.map fun e => .int .i64 e.h
def cv (es : List En) : List Value := es.map fun e => .int .i64 e.c
def kv (es : List En) : List Value := es.map fun e => .int .i64 (e.k : Int)
def bv (es : List En) : List Value := es.map fun e => .bool e.b
theorem row_setbox {w : World} {b : Nat} {arr : Array Value} {T e : TypeId} {base n size : Nat} {v : Value} {xs : List Value} (hb : Blk w b arr T) (h : w.ownsRow base e size v n xs) (he : e ≠ T) (i : Nat) (u : Value) : (w.setCell ⟨b, i, none⟩ u).ownsRow base e size v n xs :=
  ownsRow_far h (Upd.setCell (S := fun k => k = b) (Upd.refl _ _) (.inl rfl) _) (fun k h1 h2 => by subst h2; exact blk_row_ne hb h he h1)
structure CF (w : World) (nb rb cb Bs : Nat) (N S T : Int) (sl v3 v4 v5 v6 v7 v8 : Value) (x3 x4 x5 x6 x7 x8 : List Value) (wr : World) : Prop where
  kp : Kept w wr
  prm : Blk wr nb #[.int .i64 N, .int .i64 S, .int .i64 T, sl] 24
  res : Blk wr rb #[.int .i64 0, .int .i64 0, .int .i64 0, .slice none 0 0, .slice none 0 0, .slice none 0 0, .slice none 0 0, .slice none 0 0, .slice none 0 0] 32
  box : Blk wr cb #[.int .i64 N, .int .i64 S, .int .i64 T, v3, v4, v5, v6, v7, v8] 32
  o3 : wr.ownsRow Bs 3 1 v3 x3.length x3
  o4 : wr.ownsRow Bs 3 1 v4 x4.length x4
  o5 : wr.ownsRow Bs 3 1 v5 x5.length x5
  o6 : wr.ownsRow Bs 2 1 v6 x6.length x6
  o7 : wr.ownsRow Bs 3 1 v7 x7.length x7
  o8 : wr.ownsRow Bs 4 1 v8 x8.length x8
  f34 : FarV v3 v4
  f35 : FarV v3 v5
  f37 : FarV v3 v7
  f45 : FarV v4 v5
  f47 : FarV v4 v7
  f57 : FarV v5 v7
  lt : w.heap.size ≤ Bs ∧ Bs ≤ wr.heap.size ∧ w.heap.size ≤ cb ∧ ¬ cb = nb ∧ ¬ cb = rb
section
variable {w : World} {nb rb cb Bs : Nat} {N S T : Int} {sl v3 v4 v5 v6 v7 v8 : Value} {x3 x4 x5 x6 x7 x8 : List Value} {W w' : World}
theorem CF.kept (h : CF w nb rb cb Bs N S T sl v3 v4 v5 v6 v7 v8 x3 x4 x5 x6 x7 x8 W) (hk : Kept W w') : CF w nb rb cb Bs N S T sl v3 v4 v5 v6 v7 v8 x3 x4 x5 x6 x7 x8 w' :=
  ⟨h.kp.trans hk, h.prm.kept hk, h.res.kept hk, h.box.kept hk, ownsRow_upd h.o3 hk (fun _ _ f => f), ownsRow_upd h.o4 hk (fun _ _ f => f), ownsRow_upd h.o5 hk (fun _ _ f => f), ownsRow_upd h.o6 hk (fun _ _ f => f), ownsRow_upd h.o7 hk (fun _ _ f => f), ownsRow_upd h.o8 hk (fun _ _ f => f), h.f34, h.f35, h.f37, h.f45, h.f47, h.f57, by have := h.lt; have := hk.size; omega⟩
theorem CF.push3 (h : CF w nb rb cb Bs N S T sl v3 v4 v5 v6 v7 v8 x3 x4 x5 x6 x7 x8 W) {v3' : Value} {u : Value} (ho : w'.ownsRow Bs 3 1 v3' (x3.length + 1) (x3 ++ [u])) (hg : Grew W w' v3 v3') :
    CF w nb rb cb Bs N S T sl v3' v4 v5 v6 v7 v8 (x3 ++ [u]) x4 x5 x6 x7 x8 (w'.setCell ⟨cb, 3, none⟩ v3') :=
  ⟨(hg.kept h.kp h.o3 h.lt.1).then (Upd.setCell (S := fun k => k = cb) (Upd.refl _ _) (.inl rfl) _) (fun i hi e => by have := h.lt.2.2.1; omega),
   (hg.blk h.prm h.o3 (by decide)).other (by have := h.lt.2.2.2.1; exact fun e => this e.symm) _, (hg.blk h.res h.o3 (by decide)).other (by have := h.lt.2.2.2.2; exact fun e => this e.symm) _,
   (by have h2 := (hg.blk h.box h.o3 (by decide)).set 3 v3'; simpa using h2),
   (by have h2 := row_setbox (hg.blk h.box h.o3 (by decide)) ho (by decide) 3 v3'; rw [show (x3 ++ [u]).length = x3.length + 1 by simp]; exact h2), (row_setbox (hg.blk h.box h.o3 (by decide)) (hg.row h.o4 (h.f34)) (by decide) 3 v3'), (row_setbox (hg.blk h.box h.o3 (by decide)) (hg.row h.o5 (h.f35)) (by decide) 3 v3'), (row_setbox (hg.blk h.box h.o3 (by decide)) (hg.row h.o6 (rows_far h.o3 h.o6 (by decide))) (by decide) 3 v3'), (row_setbox (hg.blk h.box h.o3 (by decide)) (hg.row h.o7 (h.f37)) (by decide) 3 v3'), (row_setbox (hg.blk h.box h.o3 (by decide)) (hg.row h.o8 (rows_far h.o3 h.o8 (by decide))) (by decide) 3 v3'),
   (hg.far h.o4 h.f34), (hg.far h.o5 h.f35), (hg.far h.o7 h.f37), h.f45, h.f47, h.f57,
   ⟨h.lt.1, by have h1 := h.lt.2.1; have h2 := hg.upd.size; have h3 : (w'.setCell ⟨cb, 3, none⟩ v3').heap.size = w'.heap.size := by simp [World.setCell]
               omega, h.lt.2.2⟩⟩
theorem CF.mid3 (h : CF w nb rb cb Bs N S T sl v3 v4 v5 v6 v7 v8 x3 x4 x5 x6 x7 x8 W) {v3' : Value} (hg : Grew W w' v3 v3') : Blk w' cb #[.int .i64 N, .int .i64 S, .int .i64 T, v3, v4, v5, v6, v7, v8] 32 := hg.blk h.box h.o3 (by decide)
theorem CF.arc3 (h : CF w nb rb cb Bs N S T sl v3 v4 v5 v6 v7 v8 x3 x4 x5 x6 x7 x8 W) {v3' : Value} (hg : Grew W w' v3 v3') {xb : Nat} {av : Array Value} (ha : Blk W xb av 68) : Blk (w'.setCell ⟨cb, 3, none⟩ v3') xb av 68 :=
  (hg.blk ha h.o3 (by decide)).other (fun e => by have h2 : xb = cb := e; subst h2; exact absurd (ha.same h.box).2 (by decide)) _

theorem CF.push4 (h : CF w nb rb cb Bs N S T sl v3 v4 v5 v6 v7 v8 x3 x4 x5 x6 x7 x8 W) {v4' : Value} {u : Value} (ho : w'.ownsRow Bs 3 1 v4' (x4.length + 1) (x4 ++ [u])) (hg : Grew W w' v4 v4') :
    CF w nb rb cb Bs N S T sl v3 v4' v5 v6 v7 v8 x3 (x4 ++ [u]) x5 x6 x7 x8 (w'.setCell ⟨cb, 4, none⟩ v4') :=
  ⟨(hg.kept h.kp h.o4 h.lt.1).then (Upd.setCell (S := fun k => k = cb) (Upd.refl _ _) (.inl rfl) _) (fun i hi e => by have := h.lt.2.2.1; omega),
   (hg.blk h.prm h.o4 (by decide)).other (by have := h.lt.2.2.2.1; exact fun e => this e.symm) _, (hg.blk h.res h.o4 (by decide)).other (by have := h.lt.2.2.2.2; exact fun e => this e.symm) _,
   (by have h2 := (hg.blk h.box h.o4 (by decide)).set 4 v4'; simpa using h2),
   (row_setbox (hg.blk h.box h.o4 (by decide)) (hg.row h.o3 (h.f34.symm)) (by decide) 4 v4'), (by have h2 := row_setbox (hg.blk h.box h.o4 (by decide)) ho (by decide) 4 v4'; rw [show (x4 ++ [u]).length = x4.length + 1 by simp]; exact h2), (row_setbox (hg.blk h.box h.o4 (by decide)) (hg.row h.o5 (h.f45)) (by decide) 4 v4'), (row_setbox (hg.blk h.box h.o4 (by decide)) (hg.row h.o6 (rows_far h.o4 h.o6 (by decide))) (by decide) 4 v4'), (row_setbox (hg.blk h.box h.o4 (by decide)) (hg.row h.o7 (h.f47)) (by decide) 4 v4'), (row_setbox (hg.blk h.box h.o4 (by decide)) (hg.row h.o8 (rows_far h.o4 h.o8 (by decide))) (by decide) 4 v4'),
   (hg.far h.o3 h.f34.symm).symm, h.f35, h.f37, (hg.far h.o5 h.f45), (hg.far h.o7 h.f47), h.f57,
   ⟨h.lt.1, by have h1 := h.lt.2.1; have h2 := hg.upd.size; have h3 : (w'.setCell ⟨cb, 4, none⟩ v4').heap.size = w'.heap.size := by simp [World.setCell]
               omega, h.lt.2.2⟩⟩
theorem CF.mid4 (h : CF w nb rb cb Bs N S T sl v3 v4 v5 v6 v7 v8 x3 x4 x5 x6 x7 x8 W) {v4' : Value} (hg : Grew W w' v4 v4') : Blk w' cb #[.int .i64 N, .int .i64 S, .int .i64 T, v3, v4, v5, v6, v7, v8] 32 := hg.blk h.box h.o4 (by decide)
theorem CF.arc4 (h : CF w nb rb cb Bs N S T sl v3 v4 v5 v6 v7 v8 x3 x4 x5 x6 x7 x8 W) {v4' : Value} (hg : Grew W w' v4 v4') {xb : Nat} {av : Array Value} (ha : Blk W xb av 68) : Blk (w'.setCell ⟨cb, 4, none⟩ v4') xb av 68 :=
  (hg.blk ha h.o4 (by decide)).other (fun e => by have h2 : xb = cb := e; subst h2; exact absurd (ha.same h.box).2 (by decide)) _

theorem CF.push5 (h : CF w nb rb cb Bs N S T sl v3 v4 v5 v6 v7 v8 x3 x4 x5 x6 x7 x8 W) {v5' : Value} {u : Value} (ho : w'.ownsRow Bs 3 1 v5' (x5.length + 1) (x5 ++ [u])) (hg : Grew W w' v5 v5') :
    CF w nb rb cb Bs N S T sl v3 v4 v5' v6 v7 v8 x3 x4 (x5 ++ [u]) x6 x7 x8 (w'.setCell ⟨cb, 5, none⟩ v5') :=
  ⟨(hg.kept h.kp h.o5 h.lt.1).then (Upd.setCell (S := fun k => k = cb) (Upd.refl _ _) (.inl rfl) _) (fun i hi e => by have := h.lt.2.2.1; omega),
   (hg.blk h.prm h.o5 (by decide)).other (by have := h.lt.2.2.2.1; exact fun e => this e.symm) _, (hg.blk h.res h.o5 (by decide)).other (by have := h.lt.2.2.2.2; exact fun e => this e.symm) _,
   (by have h2 := (hg.blk h.box h.o5 (by decide)).set 5 v5'; simpa using h2),
   (row_setbox (hg.blk h.box h.o5 (by decide)) (hg.row h.o3 (h.f35.symm)) (by decide) 5 v5'), (row_setbox (hg.blk h.box h.o5 (by decide)) (hg.row h.o4 (h.f45.symm)) (by decide) 5 v5'), (by have h2 := row_setbox (hg.blk h.box h.o5 (by decide)) ho (by decide) 5 v5'; rw [show (x5 ++ [u]).length = x5.length + 1 by simp]; exact h2), (row_setbox (hg.blk h.box h.o5 (by decide)) (hg.row h.o6 (rows_far h.o5 h.o6 (by decide))) (by decide) 5 v5'), (row_setbox (hg.blk h.box h.o5 (by decide)) (hg.row h.o7 (h.f57)) (by decide) 5 v5'), (row_setbox (hg.blk h.box h.o5 (by decide)) (hg.row h.o8 (rows_far h.o5 h.o8 (by decide))) (by decide) 5 v5'),
   h.f34, (hg.far h.o3 h.f35.symm).symm, h.f37, (hg.far h.o4 h.f45.symm).symm, h.f47, (hg.far h.o7 h.f57),
   ⟨h.lt.1, by have h1 := h.lt.2.1; have h2 := hg.upd.size; have h3 : (w'.setCell ⟨cb, 5, none⟩ v5').heap.size = w'.heap.size := by simp [World.setCell]
               omega, h.lt.2.2⟩⟩
theorem CF.mid5 (h : CF w nb rb cb Bs N S T sl v3 v4 v5 v6 v7 v8 x3 x4 x5 x6 x7 x8 W) {v5' : Value} (hg : Grew W w' v5 v5') : Blk w' cb #[.int .i64 N, .int .i64 S, .int .i64 T, v3, v4, v5, v6, v7, v8] 32 := hg.blk h.box h.o5 (by decide)
theorem CF.arc5 (h : CF w nb rb cb Bs N S T sl v3 v4 v5 v6 v7 v8 x3 x4 x5 x6 x7 x8 W) {v5' : Value} (hg : Grew W w' v5 v5') {xb : Nat} {av : Array Value} (ha : Blk W xb av 68) : Blk (w'.setCell ⟨cb, 5, none⟩ v5') xb av 68 :=
  (hg.blk ha h.o5 (by decide)).other (fun e => by have h2 : xb = cb := e; subst h2; exact absurd (ha.same h.box).2 (by decide)) _

theorem CF.push6 (h : CF w nb rb cb Bs N S T sl v3 v4 v5 v6 v7 v8 x3 x4 x5 x6 x7 x8 W) {v6' : Value} {u : Value} (ho : w'.ownsRow Bs 2 1 v6' (x6.length + 1) (x6 ++ [u])) (hg : Grew W w' v6 v6') :
    CF w nb rb cb Bs N S T sl v3 v4 v5 v6' v7 v8 x3 x4 x5 (x6 ++ [u]) x7 x8 (w'.setCell ⟨cb, 6, none⟩ v6') :=
  ⟨(hg.kept h.kp h.o6 h.lt.1).then (Upd.setCell (S := fun k => k = cb) (Upd.refl _ _) (.inl rfl) _) (fun i hi e => by have := h.lt.2.2.1; omega),
   (hg.blk h.prm h.o6 (by decide)).other (by have := h.lt.2.2.2.1; exact fun e => this e.symm) _, (hg.blk h.res h.o6 (by decide)).other (by have := h.lt.2.2.2.2; exact fun e => this e.symm) _,
   (by have h2 := (hg.blk h.box h.o6 (by decide)).set 6 v6'; simpa using h2),
   (row_setbox (hg.blk h.box h.o6 (by decide)) (hg.row h.o3 (rows_far h.o6 h.o3 (by decide))) (by decide) 6 v6'), (row_setbox (hg.blk h.box h.o6 (by decide)) (hg.row h.o4 (rows_far h.o6 h.o4 (by decide))) (by decide) 6 v6'), (row_setbox (hg.blk h.box h.o6 (by decide)) (hg.row h.o5 (rows_far h.o6 h.o5 (by decide))) (by decide) 6 v6'), (by have h2 := row_setbox (hg.blk h.box h.o6 (by decide)) ho (by decide) 6 v6'; rw [show (x6 ++ [u]).length = x6.length + 1 by simp]; exact h2), (row_setbox (hg.blk h.box h.o6 (by decide)) (hg.row h.o7 (rows_far h.o6 h.o7 (by decide))) (by decide) 6 v6'), (row_setbox (hg.blk h.box h.o6 (by decide)) (hg.row h.o8 (rows_far h.o6 h.o8 (by decide))) (by decide) 6 v6'),
   h.f34, h.f35, h.f37, h.f45, h.f47, h.f57,
   ⟨h.lt.1, by have h1 := h.lt.2.1; have h2 := hg.upd.size; have h3 : (w'.setCell ⟨cb, 6, none⟩ v6').heap.size = w'.heap.size := by simp [World.setCell]
               omega, h.lt.2.2⟩⟩
theorem CF.mid6 (h : CF w nb rb cb Bs N S T sl v3 v4 v5 v6 v7 v8 x3 x4 x5 x6 x7 x8 W) {v6' : Value} (hg : Grew W w' v6 v6') : Blk w' cb #[.int .i64 N, .int .i64 S, .int .i64 T, v3, v4, v5, v6, v7, v8] 32 := hg.blk h.box h.o6 (by decide)
theorem CF.arc6 (h : CF w nb rb cb Bs N S T sl v3 v4 v5 v6 v7 v8 x3 x4 x5 x6 x7 x8 W) {v6' : Value} (hg : Grew W w' v6 v6') {xb : Nat} {av : Array Value} (ha : Blk W xb av 68) : Blk (w'.setCell ⟨cb, 6, none⟩ v6') xb av 68 :=
  (hg.blk ha h.o6 (by decide)).other (fun e => by have h2 : xb = cb := e; subst h2; exact absurd (ha.same h.box).2 (by decide)) _

theorem CF.push7 (h : CF w nb rb cb Bs N S T sl v3 v4 v5 v6 v7 v8 x3 x4 x5 x6 x7 x8 W) {v7' : Value} {u : Value} (ho : w'.ownsRow Bs 3 1 v7' (x7.length + 1) (x7 ++ [u])) (hg : Grew W w' v7 v7') :
    CF w nb rb cb Bs N S T sl v3 v4 v5 v6 v7' v8 x3 x4 x5 x6 (x7 ++ [u]) x8 (w'.setCell ⟨cb, 7, none⟩ v7') :=
  ⟨(hg.kept h.kp h.o7 h.lt.1).then (Upd.setCell (S := fun k => k = cb) (Upd.refl _ _) (.inl rfl) _) (fun i hi e => by have := h.lt.2.2.1; omega),
   (hg.blk h.prm h.o7 (by decide)).other (by have := h.lt.2.2.2.1; exact fun e => this e.symm) _, (hg.blk h.res h.o7 (by decide)).other (by have := h.lt.2.2.2.2; exact fun e => this e.symm) _,
   (by have h2 := (hg.blk h.box h.o7 (by decide)).set 7 v7'; simpa using h2),
   (row_setbox (hg.blk h.box h.o7 (by decide)) (hg.row h.o3 (h.f37.symm)) (by decide) 7 v7'), (row_setbox (hg.blk h.box h.o7 (by decide)) (hg.row h.o4 (h.f47.symm)) (by decide) 7 v7'), (row_setbox (hg.blk h.box h.o7 (by decide)) (hg.row h.o5 (h.f57.symm)) (by decide) 7 v7'), (row_setbox (hg.blk h.box h.o7 (by decide)) (hg.row h.o6 (rows_far h.o7 h.o6 (by decide))) (by decide) 7 v7'), (by have h2 := row_setbox (hg.blk h.box h.o7 (by decide)) ho (by decide) 7 v7'; rw [show (x7 ++ [u]).length = x7.length + 1 by simp]; exact h2), (row_setbox (hg.blk h.box h.o7 (by decide)) (hg.row h.o8 (rows_far h.o7 h.o8 (by decide))) (by decide) 7 v7'),
   h.f34, h.f35, (hg.far h.o3 h.f37.symm).symm, h.f45, (hg.far h.o4 h.f47.symm).symm, (hg.far h.o5 h.f57.symm).symm,
   ⟨h.lt.1, by have h1 := h.lt.2.1; have h2 := hg.upd.size; have h3 : (w'.setCell ⟨cb, 7, none⟩ v7').heap.size = w'.heap.size := by simp [World.setCell]
               omega, h.lt.2.2⟩⟩
theorem CF.mid7 (h : CF w nb rb cb Bs N S T sl v3 v4 v5 v6 v7 v8 x3 x4 x5 x6 x7 x8 W) {v7' : Value} (hg : Grew W w' v7 v7') : Blk w' cb #[.int .i64 N, .int .i64 S, .int .i64 T, v3, v4, v5, v6, v7, v8] 32 := hg.blk h.box h.o7 (by decide)
theorem CF.arc7 (h : CF w nb rb cb Bs N S T sl v3 v4 v5 v6 v7 v8 x3 x4 x5 x6 x7 x8 W) {v7' : Value} (hg : Grew W w' v7 v7') {xb : Nat} {av : Array Value} (ha : Blk W xb av 68) : Blk (w'.setCell ⟨cb, 7, none⟩ v7') xb av 68 :=
  (hg.blk ha h.o7 (by decide)).other (fun e => by have h2 : xb = cb := e; subst h2; exact absurd (ha.same h.box).2 (by decide)) _

theorem CF.push8 (h : CF w nb rb cb Bs N S T sl v3 v4 v5 v6 v7 v8 x3 x4 x5 x6 x7 x8 W) {v8' : Value} {u : Value} (ho : w'.ownsRow Bs 4 1 v8' (x8.length + 1) (x8 ++ [u])) (hg : Grew W w' v8 v8') :
    CF w nb rb cb Bs N S T sl v3 v4 v5 v6 v7 v8' x3 x4 x5 x6 x7 (x8 ++ [u]) (w'.setCell ⟨cb, 8, none⟩ v8') :=
  ⟨(hg.kept h.kp h.o8 h.lt.1).then (Upd.setCell (S := fun k => k = cb) (Upd.refl _ _) (.inl rfl) _) (fun i hi e => by have := h.lt.2.2.1; omega),
   (hg.blk h.prm h.o8 (by decide)).other (by have := h.lt.2.2.2.1; exact fun e => this e.symm) _, (hg.blk h.res h.o8 (by decide)).other (by have := h.lt.2.2.2.2; exact fun e => this e.symm) _,
   (by have h2 := (hg.blk h.box h.o8 (by decide)).set 8 v8'; simpa using h2),
   (row_setbox (hg.blk h.box h.o8 (by decide)) (hg.row h.o3 (rows_far h.o8 h.o3 (by decide))) (by decide) 8 v8'), (row_setbox (hg.blk h.box h.o8 (by decide)) (hg.row h.o4 (rows_far h.o8 h.o4 (by decide))) (by decide) 8 v8'), (row_setbox (hg.blk h.box h.o8 (by decide)) (hg.row h.o5 (rows_far h.o8 h.o5 (by decide))) (by decide) 8 v8'), (row_setbox (hg.blk h.box h.o8 (by decide)) (hg.row h.o6 (rows_far h.o8 h.o6 (by decide))) (by decide) 8 v8'), (row_setbox (hg.blk h.box h.o8 (by decide)) (hg.row h.o7 (rows_far h.o8 h.o7 (by decide))) (by decide) 8 v8'), (by have h2 := row_setbox (hg.blk h.box h.o8 (by decide)) ho (by decide) 8 v8'; rw [show (x8 ++ [u]).length = x8.length + 1 by simp]; exact h2),
   h.f34, h.f35, h.f37, h.f45, h.f47, h.f57,
   ⟨h.lt.1, by have h1 := h.lt.2.1; have h2 := hg.upd.size; have h3 : (w'.setCell ⟨cb, 8, none⟩ v8').heap.size = w'.heap.size := by simp [World.setCell]
               omega, h.lt.2.2⟩⟩
theorem CF.mid8 (h : CF w nb rb cb Bs N S T sl v3 v4 v5 v6 v7 v8 x3 x4 x5 x6 x7 x8 W) {v8' : Value} (hg : Grew W w' v8 v8') : Blk w' cb #[.int .i64 N, .int .i64 S, .int .i64 T, v3, v4, v5, v6, v7, v8] 32 := hg.blk h.box h.o8 (by decide)
theorem CF.arc8 (h : CF w nb rb cb Bs N S T sl v3 v4 v5 v6 v7 v8 x3 x4 x5 x6 x7 x8 W) {v8' : Value} (hg : Grew W w' v8 v8') {xb : Nat} {av : Array Value} (ha : Blk W xb av 68) : Blk (w'.setCell ⟨cb, 8, none⟩ v8') xb av 68 :=
  (hg.blk ha h.o8 (by decide)).other (fun e => by have h2 : xb = cb := e; subst h2; exact absurd (ha.same h.box).2 (by decide)) _
end
/-- A row that has been made, and lies from base on. -/
structure CsrV (w : World) (base n : Nat) (ys : List Ar) (v3 v4 v5 v6 v7 v8 : Value) : Prop where
  o3 : w.ownsRow base 3 1 v3 (n + 1) (nv (firsts (n + 1) ys))
  o4 : w.ownsRow base 3 1 v4 (enAll n ys).length (hv (enAll n ys))
  o5 : w.ownsRow base 3 1 v5 (enAll n ys).length (nv (revs (enAll n ys) (enAll n ys).length))
  o6 : w.ownsRow base 2 1 v6 (enAll n ys).length (cv (enAll n ys))
  o7 : w.ownsRow base 3 1 v7 (enAll n ys).length (kv (enAll n ys))
  o8 : w.ownsRow base 4 1 v8 (enAll n ys).length (bv (enAll n ys))
theorem CsrV.kept {w w' : World} {base n : Nat} {ys : List Ar} {v3 v4 v5 v6 v7 v8 : Value} (h : CsrV w base n ys v3 v4 v5 v6 v7 v8) (hk : Kept w w') : CsrV w' base n ys v3 v4 v5 v6 v7 v8 :=
  ⟨ownsRow_upd h.o3 hk (fun _ _ f => f), ownsRow_upd h.o4 hk (fun _ _ f => f), ownsRow_upd h.o5 hk (fun _ _ f => f), ownsRow_upd h.o6 hk (fun _ _ f => f), ownsRow_upd h.o7 hk (fun _ _ f => f), ownsRow_upd h.o8 hk (fun _ _ f => f)⟩
end Go.Proofs.Ytdhimfkmgcfohaa
