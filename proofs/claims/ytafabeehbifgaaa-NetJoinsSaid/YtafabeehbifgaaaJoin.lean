/- net.Join: what it computes; the state of its loop. No walk. -/
import Derived.Test.YtafabeehbifgaaaNetOwn
import Derived.Test.YtafabeehbifgaaaNetRules
import Derived.Test.YtafabeehbifgaaaMapJ
namespace Go.Proofs.Ytafabeehbifgaaa
set_option linter.unusedVariables false
open Go.RowKit

/-- Which arc has these ends, first. -/
def idx : List Ar → Int → Int → Option Nat
  | [], _, _ => none
  | a :: ys, f, t => if a.f = f ∧ a.t = t then some 0 else (idx ys f t).map (· + 1)
theorem idx_some : ∀ {ys : List Ar} {f t : Int} {i : Nat}, idx ys f t = some i → ∃ h : i < ys.length, ys[i].f = f ∧ ys[i].t = t
  | [], f, t, i, h => by simp [idx] at h
  | a :: ys, f, t, i, h => by
    unfold idx at h
    split at h
    · rename_i h1; cases h; exact ⟨by simp, h1⟩
    · obtain ⟨j, hj, rfl⟩ := Option.map_eq_some_iff.1 h
      obtain ⟨h1, h2⟩ := idx_some hj
      exact ⟨by simpa using h1, by simpa using h2⟩
theorem idx_set : ∀ (ys : List Ar) (i : Nat) (h : i < ys.length) (c f t : Int), idx (ys.set i ⟨ys[i].f, ys[i].t, c⟩) f t = idx ys f t
  | [], i, h, c, f, t => by simp at h
  | a :: ys, 0, h, c, f, t => rfl
  | a :: ys, i + 1, h, c, f, t => by
    simp only [List.set_cons_succ, List.getElem_cons_succ, idx]
    rw [idx_set ys i (by simpa using h) c f t]
theorem idx_append : ∀ (ys : List Ar) (a : Ar) (f t : Int), idx (ys ++ [a]) f t = match idx ys f t with | some i => some i | none => if a.f = f ∧ a.t = t then some ys.length else none
  | [], a, f, t => by simp [idx]
  | b :: ys, a, f, t => by
    simp only [List.cons_append, idx]
    rw [idx_append ys a f t]
    split
    · rfl
    · cases idx ys f t with
      | some i => rfl
      | none => by_cases h : a.f = f ∧ a.t = t <;> simp [h]
def idxG (ys : List Ar) (f t : Int) : Option Int := (idx ys f t).map fun i => (i : Int)
theorem idxG_append (ys : List Ar) (a : Ar) (h : idx ys a.f a.t = none) : idxG (ys ++ [a]) = fun f' t' => if f' = a.f ∧ t' = a.t then some (ys.length : Int) else idxG ys f' t' := by
  funext f' t'
  unfold idxG
  rw [idx_append]
  by_cases e : f' = a.f ∧ t' = a.t
  · obtain ⟨rfl, rfl⟩ := e
    simp [h]
  · rw [if_neg e]
    cases hx : idx ys f' t' with
    | some i => rfl
    | none => simp; intro h1 h2; exact absurd ⟨h1.symm, h2.symm⟩ e
theorem idxG_set (ys : List Ar) (i : Nat) (h : i < ys.length) (c : Int) : idxG (ys.set i ⟨ys[i].f, ys[i].t, c⟩) = idxG ys := by
  funext f' t'
  unfold idxG
  rw [idx_set ys i h]
theorem cells_new (w : World) (arr : Array Value) (e : TypeId) : ∀ (j : Nat) (u : Value), arr.toList[j]? = some u → (w.alloc (.cells arr e)).cell? ((⟨w.heap.size, 0, none⟩ : Addr).add j) = some u := by
  intro j u hu
  rw [Addr.add_lit, Nat.zero_add, (Blk.new w arr e).cell]
  simpa using hu
theorem Own.capAt {w : World} {base gb n c : Nat} {ys : List Ar} (h : Own w base (.slice (some ⟨gb, 0, none⟩) n c) ys) (i : Nat) (hi : i < ys.length) : w.cell? ⟨gb, i * 3 + 2, none⟩ = some (.int .i64 ys[i].c) := by
  obtain ⟨b, off, e, _, _, h2⟩ := h.at.2.at i hi
  cases e
  simpa using h2
/-- One arc more. -/
def joinStep (out : List Ar) (a : Ar) : List Ar × Int :=
  if a.f = a.t then (out, -1) else
  match idx out a.f a.t with
  | some i => (out.set i ⟨a.f, a.t, (out.getD i ⟨0, 0, 0⟩).c + a.c⟩, i)
  | none => (out ++ [a], out.length)
def joinGo : List Ar → List Int → List Ar → List Ar × List Int
  | out, ofl, [] => (out, ofl)
  | out, ofl, a :: ys => joinGo (joinStep out a).1 (ofl ++ [(joinStep out a).2]) ys
theorem capsOf_append (xs ys : List Ar) : capsOf (xs ++ ys) = capsOf xs + capsOf ys := by
  induction xs with
  | nil => simp [capsOf]
  | cons x xs ih => simp [capsOf, ih]; omega
theorem capsOf_set : ∀ (ys : List Ar) (i : Nat) (h : i < ys.length) (f t c : Int), capsOf (ys.set i ⟨f, t, c⟩) = capsOf ys - ys[i].c + c
  | [], i, h, f, t, c => by simp at h
  | a :: ys, 0, h, f, t, c => by simp [capsOf]; omega
  | a :: ys, i + 1, h, f, t, c => by
    simp only [List.set_cons_succ, List.getElem_cons_succ, capsOf]
    rw [capsOf_set ys i (by simpa using h)]; omega
theorem capsOf_nonneg : ∀ (ys : List Ar), (∀ x ∈ ys, 0 ≤ x.c) → 0 ≤ capsOf ys
  | [], _ => Int.le_refl _
  | x :: ys, h => by have := capsOf_nonneg ys (fun y hy => h y (List.mem_cons_of_mem _ hy)); have := h x (by simp); simp only [capsOf]; omega
theorem capsOf_ge : ∀ (ys : List Ar), (∀ x ∈ ys, 0 ≤ x.c) → ∀ x ∈ ys, x.c ≤ capsOf ys
  | [], _, x, hx => by cases hx
  | y :: ys, h, x, hx => by
    have h0 := h y (by simp)
    have hr : ∀ z ∈ ys, 0 ≤ z.c := fun z hz => h z (List.mem_cons_of_mem _ hz)
    have h1 := capsOf_nonneg ys hr
    simp only [capsOf]
    simp at hx
    rcases hx with rfl | hx
    · omega
    · have := capsOf_ge ys hr x hx; omega
/-- What may be said of arcs that were looked at: nothing is too much. -/
structure Fine (N : Int) (out ys : List Ar) : Prop where
  co : ∀ x ∈ out, 0 ≤ x.c
  cy : ∀ x ∈ ys, 0 ≤ x.c
  sum : capsOf out + capsOf ys ≤ 4611686018427387904
  vy : ∀ x ∈ ys, 0 ≤ x.f ∧ x.f < N ∧ 0 ≤ x.t ∧ x.t < N
theorem chk_zero {N S T : Int} {ys : List Ar} (h : chkOf N S T ys = 0) : 2 ≤ N ∧ N ≤ 4096 ∧ Fine N [] ys ∧ inN N S = true ∧ inN N T = true ∧ S ≠ T ∧ ys.length ≤ 16384 := by
  unfold chkOf at h
  split at h; · cases h
  split at h; · cases h
  split at h; · cases h
  split at h; · cases h
  split at h; · cases h
  split at h; · cases h
  rename_i h0 h1 h2 h3 h4 h5
  simp only [Bool.not_eq_false] at h0 h1 h2 h3 h4 h5
  simp only [rule, decide_eq_true_eq, Bool.and_eq_true] at h0 h1 h2
  simp only [rule, List.all_eq_true, decide_eq_true_eq, Bool.and_eq_true] at h3 h4
  simp only [rule, sumB] at h5
  obtain ⟨m, hm⟩ := Option.isSome_iff_exists.1 h5
  obtain ⟨k1, k2, k3⟩ := leftOf_inv ys _ _ hm
  refine ⟨h0.1, h0.2, ⟨by simp, h4, ?_, ?_⟩, h2.1, h2.2.1, h2.2.2, h1⟩
  · have := k3 (by omega); simp only [capsOf]; omega
  · intro x hx
    have := h3 x hx
    simp only [inN, decide_eq_true_eq] at this
    exact ⟨this.1.1, this.1.2, this.2.1, this.2.2⟩
theorem Fine.skip {N : Int} {out ys : List Ar} {a : Ar} (h : Fine N out (a :: ys)) : Fine N out ys :=
  ⟨h.co, fun x hx => h.cy x (List.mem_cons_of_mem _ hx), by have := h.sum; have := h.cy a (by simp); simp only [capsOf] at *; omega, fun x hx => h.vy x (List.mem_cons_of_mem _ hx)⟩
theorem Fine.more {N : Int} {out ys : List Ar} {a : Ar} (h : Fine N out (a :: ys)) : Fine N (out ++ [a]) ys :=
  ⟨fun x hx => by simp at hx; rcases hx with hx | rfl; exact h.co x hx; exact h.cy _ (by simp), h.skip.cy, by have := h.sum; rw [capsOf_append]; simp only [capsOf] at *; omega, h.skip.vy⟩
theorem Fine.add {N : Int} {out ys : List Ar} {a : Ar} (h : Fine N out (a :: ys)) (i : Nat) (hi : i < out.length) (f t : Int) : Fine N (out.set i ⟨f, t, out[i].c + a.c⟩) ys := by
  have h0 := h.cy a (by simp)
  have h1 := h.co out[i] (List.getElem_mem _)
  refine ⟨fun x hx => ?_, h.skip.cy, ?_, h.skip.vy⟩
  · rcases List.mem_or_eq_of_mem_set hx with hx | rfl
    · exact h.co x hx
    · show 0 ≤ out[i].c + a.c; omega
  · have := h.sum; rw [capsOf_set out i hi]; simp only [capsOf] at *; omega
theorem Fine.room {N : Int} {out ys : List Ar} {a : Ar} (h : Fine N out (a :: ys)) (i : Nat) (hi : i < out.length) : 0 ≤ out[i].c ∧ 0 ≤ a.c ∧ out[i].c + a.c ≤ 4611686018427387904 := by
  have h0 := h.cy a (by simp)
  have h1 := h.co out[i] (List.getElem_mem _)
  have h2 := capsOf_ge out h.co out[i] (List.getElem_mem _)
  have h3 := capsOf_nonneg ys h.skip.cy
  have := h.sum
  simp only [capsOf] at this
  omega
theorem ownsRow_far {w w' : World} {S : Nat → Prop} {base n size : Nat} {e : TypeId} {v : Value} {xs : List Value} (h : w.ownsRow base e size v n xs) (hu : Upd S w w') (hs : ∀ k, v.ownBlock = some k → ¬ S k) : w'.ownsRow base e size v n xs := by
  refine ⟨h.1, ?_⟩
  rcases h.2 with h2 | ⟨g, cap, cur, hv, hg, hh, r⟩
  · exact .inl h2
  · subst hv
    exact .inr ⟨g, cap, cur, rfl, hg, (hu.block _ (Array.getElem?_eq_some_iff.1 hh).1 (hs g rfl)).trans hh, r⟩
theorem rows_ne {w : World} {b1 b2 s1 s2 n1 n2 : Nat} {e1 e2 : TypeId} {v1 v2 : Value} {x1 x2 : List Value} (h1 : w.ownsRow b1 e1 s1 v1 n1 x1) (h2 : w.ownsRow b2 e2 s2 v2 n2 x2) (he : e1 ≠ e2) : ∀ k, v1.ownBlock = some k → v2.ownBlock = some k → False := by
  intro k hk1 hk2
  rcases h1.2 with ⟨rfl, _⟩ | ⟨g, cap, cur, rfl, _, hh, _⟩
  · cases hk1
  · rcases h2.2 with ⟨rfl, _⟩ | ⟨g', cap', cur', rfl, _, hh', _⟩
    · cases hk2
    · cases hk1; cases hk2
      have := hh.symm.trans hh'
      simp at this
      exact he this.2
/-- The state of Join's loop. -/
structure JS (w0 : World) (nb rb ob mb Bs : Nat) (N S T : Int) (va vn vo vof : Value) (out : List Ar) (ofl : List Int) (g : Int → Int → Option Int) (m : Nat) (wr : World) : Prop where
  kp : Kept w0 wr
  prm : Blk wr nb #[.int .i64 N, .int .i64 S, .int .i64 T, va] 24
  res : Blk wr rb #[.int .i64 0, .int .i64 0, .int .i64 0, .slice none 0 0] 24
  net : Blk wr ob #[.int .i64 N, .int .i64 S, .int .i64 T, vn] 24
  own : Own wr Bs vo out
  ofr : wr.ownsRow Bs 3 1 vof ofl.length (ofl.map (Value.int .i64))
  map : MK wr mb m g
  lt : w0.heap.size ≤ nb ∧ nb < rb ∧ rb < ob ∧ ob < mb ∧ mb < Bs ∧ Bs ≤ wr.heap.size
section
variable {w0 : World} {nb rb ob mb Bs : Nat} {N S T : Int} {va vn vo vof : Value} {out : List Ar} {ofl : List Int} {g : Int → Int → Option Int} {m : Nat} {wr w' : World}
theorem JS.kept (h : JS w0 nb rb ob mb Bs N S T va vn vo vof out ofl g m wr) (hk : Kept wr w') : JS w0 nb rb ob mb Bs N S T va vn vo vof out ofl g m w' :=
  ⟨h.kp.trans hk, h.prm.kept hk, h.res.kept hk, h.net.kept hk, h.own.kept hk, ownsRow_far h.ofr hk (fun _ _ f => f), h.map.upd hk (fun f => f), by have := h.lt; have := hk.size; omega⟩
/-- The row of numbers has grown. -/
theorem JS.appF (h : JS w0 nb rb ob mb Bs N S T va vn vo vof out ofl g m wr) {vof' : Value} {x : Int} (hr : w'.ownsRow Bs 3 1 vof' (ofl.length + 1) (ofl.map (Value.int .i64) ++ [.int .i64 x])) (hg : wr.grownBy w' vof.ownBlock) :
    JS w0 nb rb ob mb Bs N S T va vn vo vof' out (ofl ++ [x]) g m w' := by
  have hu : Upd (fun k => vof.ownBlock = some k) wr w' := Upd.grown (Upd.refl _ _) hg (fun k hk => .inl hk)
  have hb : ∀ k, k < Bs → ¬ vof.ownBlock = some k := fun k hk he => by have := (World.ownsRow.lt h.ofr k he).1; omega
  have hl := h.lt
  refine ⟨h.kp.then hu (fun k hk he => hb k (by omega) he), h.prm.upd hu (hb _ (by omega)), h.res.upd hu (hb _ (by omega)), h.net.upd hu (hb _ (by omega)),
    ownsRow_far h.own hu (fun k h1 h2 => rows_ne h.own h.ofr (by decide) k h1 h2), by simpa using hr, h.map.upd hu (hb _ (by omega)), by have := hu.size; omega⟩
/-- The row of arcs has grown. -/
theorem JS.appO (h : JS w0 nb rb ob mb Bs N S T va vn vo vof out ofl g m wr) {vo' : Value} {x : Ar} (hr : w'.ownsRow Bs 31 3 vo' (out.length + 1) (acells out ++ [.int .i64 x.f, .int .i64 x.t, .int .i64 x.c])) (hg : wr.grownBy w' vo.ownBlock) :
    JS w0 nb rb ob mb Bs N S T va vn vo' vof (out ++ [x]) ofl g m w' := by
  have hu : Upd (fun k => vo.ownBlock = some k) wr w' := Upd.grown (Upd.refl _ _) hg (fun k hk => .inl hk)
  have hb : ∀ k, k < Bs → ¬ vo.ownBlock = some k := fun k hk he => by have := (World.ownsRow.lt h.own k he).1; omega
  have hl := h.lt
  refine ⟨h.kp.then hu (fun k hk he => hb k (by omega) he), h.prm.upd hu (hb _ (by omega)), h.res.upd hu (hb _ (by omega)), h.net.upd hu (hb _ (by omega)),
    ?_, ownsRow_far h.ofr hu (fun k h1 h2 => rows_ne h.ofr h.own (by decide) k h1 h2), h.map.upd hu (hb _ (by omega)), by have := hu.size; omega⟩
  unfold Own
  rw [acells_append, List.length_append]
  exact hr
/-- The map was written. -/
theorem JS.putM (h : JS w0 nb rb ob mb Bs N S T va vn vo vof out ofl g m wr) {g' : Int → Int → Option Int} {m' : Nat} (hm : MK w' mb m' g') (hu : Upd (fun k => k = mb) wr w') : JS w0 nb rb ob mb Bs N S T va vn vo vof out ofl g' m' w' := by
  have hl := h.lt
  exact ⟨h.kp.then hu (fun k hk he => by omega), h.prm.upd hu (by omega), h.res.upd hu (by omega), h.net.upd hu (by omega),
    ownsRow_far h.own hu (fun k h1 h2 => by have := (World.ownsRow.lt h.own k h1).1; omega), ownsRow_far h.ofr hu (fun k h1 h2 => by have := (World.ownsRow.lt h.ofr k h1).1; omega), hm, by have := hu.size; omega⟩
/-- The net's row was set. -/
theorem JS.setN (h : JS w0 nb rb ob mb Bs N S T va vn vo vof out ofl g m wr) (v : Value) : JS w0 nb rb ob mb Bs N S T va v vo vof out ofl g m (wr.setCell ⟨ob, 3, none⟩ v) := by
  have hl := h.lt
  have hu : Upd (fun k => k = ob) wr (wr.setCell ⟨ob, 3, none⟩ v) := Upd.setCell (S := fun k => k = ob) (Upd.refl _ _) (.inl rfl) _
  refine ⟨h.kp.then hu (fun k hk he => by omega), h.prm.upd hu (by omega), h.res.upd hu (by omega), ?_,
    ownsRow_far h.own hu (fun k h1 h2 => by have := (World.ownsRow.lt h.own k h1).1; omega), ownsRow_far h.ofr hu (fun k h1 h2 => by have := (World.ownsRow.lt h.ofr k h1).1; omega), h.map.upd hu (by omega), by have := hu.size; omega⟩
  have := h.net.set 3 v
  simpa using this
/-- A capacity was set. -/
theorem JS.setCap {gb n c : Nat} (h : JS w0 nb rb ob mb Bs N S T va vn (.slice (some ⟨gb, 0, none⟩) n c) vof out ofl g m wr) (i : Nat) (hi : i < out.length) (x : Int) :
    JS w0 nb rb ob mb Bs N S T va vn (.slice (some ⟨gb, 0, none⟩) n c) vof (out.set i ⟨out[i].f, out[i].t, x⟩) ofl g m (wr.setCell ⟨gb, i * 3 + 2, none⟩ (.int .i64 x)) := by
  have hl := h.lt
  have hge := (World.ownsRow.lt h.own gb rfl).1
  have hu : Upd (fun k => k = gb) wr (wr.setCell ⟨gb, i * 3 + 2, none⟩ (.int .i64 x)) := Upd.setCell (S := fun k => k = gb) (Upd.refl _ _) (.inl rfl) _
  exact ⟨h.kp.then hu (fun k hk he => by omega), h.prm.upd hu (by omega), h.res.upd hu (by omega), h.net.upd hu (by omega),
    h.own.setC i hi x, ownsRow_far h.ofr hu (fun k h1 h2 => rows_ne h.ofr h.own (by decide) k h1 (by subst h2; rfl)), h.map.upd hu (by omega), by have := hu.size; omega⟩
end
theorem row_form {w : World} {base n size : Nat} {e : TypeId} {v : Value} {xs : List Value} (h : w.ownsRow base e size v n xs) : ∃ a c, v = .slice a n c := by
  rcases h.2 with ⟨rfl, rfl⟩ | ⟨g, cap, cur, rfl, _⟩
  · exact ⟨none, 0, rfl⟩
  · exact ⟨_, _, rfl⟩
/-- What Join hands back. -/
def JoinOut (N S T : Int) (out : List Ar) (ofl : List Int) (w : World) (e : Ending) (w' : World) : Prop := ∃ ao co vof, e = .returned (.tuple #[.agg #[.int .i64 N, .int .i64 S, .int .i64 T, .slice ao out.length co], vof]) ∧
  Own w' w.heap.size (.slice ao out.length co) out ∧ w'.ownsRow w.heap.size 3 1 vof ofl.length (ofl.map (Value.int .i64)) ∧ Kept w w'
end Go.Proofs.Ytafabeehbifgaaa
