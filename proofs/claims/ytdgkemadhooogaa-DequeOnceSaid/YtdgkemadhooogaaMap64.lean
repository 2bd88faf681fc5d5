/- A map[int64]int that the call makes, whose keys are numbers below a bound: a list of numbers, and which keys are there. No walk. -/
import Derived.Test.YtdgkemadhooogaaProg
import Derived.Test.YtdgkemadhooogaaBase2
import Derived.Maps.OwnSet
import Derived.Maps.RangeWalk
namespace Go.Proofs.Ytdgkemadhooogaa
set_option linter.unusedVariables false
open Go.RowKit Go.Maps

theorem lawI : Keyed Try.prog 2 := int_keyed Try.underlying2
theorem zeroI (w : World) : (zeroValue 3).run Try.prog w = .ok (.int .i64 0) w := by kernel_rfl
/-- At key i the map has h[i]; l says which keys are there. -/
structure MD (D : DataW Unit) (h : List Int) (l : List Bool) : Prop where
  at_ : ∀ i : Nat, i < h.length → D.atKey (.int .i64 (i : Int)) (.lit (.int .i64 0)) = .lit (.int .i64 (h.getD i 0))
  has : ∀ i : Nat, i < h.length → Maps.has D (.int .i64 (i : Int)) = l.getD i false
  key : ∀ x : Int, Maps.has D (.int .i64 x) = true → ∃ i : Nat, i < h.length ∧ x = (i : Int)
  size : Maps.size D = l.count true
  len : l.length = h.length
def Mp (w : World) (b m : Nat) (h : List Int) (l : List Bool) : Prop := ∃ D, w.ownsMap Try.prog 2 (plainElem (H := Unit) Try.prog 3) b m D ∧ MD D h l
theorem MD.new (n : Nat) : MD (.map []) (List.replicate n 0) (List.replicate n false) := by
  refine ⟨fun i hi => ?_, fun i hi => ?_, fun x hx => ?_, ?_, ?_⟩
  · have h : i < n := by simpa using hi
    simp [h]; rfl
  · have h : i < n := by simpa using hi
    simp [Maps.has, h]
  · simp [Maps.has] at hx
  · simp [Maps.size, List.count_replicate]
  · simp
theorem Mp.new (w : World) (n : Nat) : Mp (w.alloc (.map #[] 0)) w.heap.size 0 (List.replicate n 0) (List.replicate n false) := ⟨_, World.ownsMap_made _ _ _ _, MD.new n⟩
theorem ownsMap_upd {w w' : World} {S : Nat → Prop} {b m : Nat} {D : DataW Unit} (h : w.ownsMap Try.prog 2 (plainElem (H := Unit) Try.prog 3) b m D) (hu : Upd S w w') (hs : ¬ S b) : w'.ownsMap Try.prog 2 (plainElem (H := Unit) Try.prog 3) b m D := by
  have hlt := h.lt
  obtain ⟨es, clock, hb, r⟩ := h
  exact ⟨es, clock, (hu.block b hlt hs).trans hb, r⟩
theorem Mp.upd {w w' : World} {S : Nat → Prop} {b m : Nat} {h : List Int} {l : List Bool} (hm : Mp w b m h l) (hu : Upd S w w') (hs : ¬ S b) : Mp w' b m h l := by
  obtain ⟨D, ho, hd⟩ := hm
  exact ⟨D, ownsMap_upd ho hu hs, hd⟩
theorem Mp.lt {w : World} {b m : Nat} {h : List Int} {l : List Bool} (hm : Mp w b m h l) : b < w.heap.size := by
  obtain ⟨D, ho, hd⟩ := hm
  exact ho.lt
theorem count_put (l : List Bool) (i : Nat) (hi : i < l.length) : (l.set i true).count true = if l.getD i false then l.count true else l.count true + 1 := by
  induction l generalizing i with
  | nil => simp at hi
  | cons x xs ih =>
    cases i with
    | zero => cases x <;> simp
    | succ j =>
      have := ih j (by simpa using hi)
      simp only [List.set_cons_succ, List.getD_cons_succ, List.count_cons]
      rw [this]
      split <;> omega
theorem MD.put {D : DataW Unit} {h : List Int} {l : List Bool} (hd : MD D h l) (ht : Tidy D) (i : Nat) (hi : i < h.length) (v : Int) : MD (D.put (.int .i64 (i : Int)) (.lit (.int .i64 v))) (h.set i v) (l.set i true) := by
  have hll := hd.len
  refine ⟨fun j hj => ?_, fun j hj => ?_, fun x hx => ?_, ?_, ?_⟩
  · have hj : j < h.length := by simpa using hj
    by_cases e : j = i
    · subst e
      rw [atKey_put_same ht.isMap (show WideAt.IsKeyLit (.int .i64 (j : Int)) from trivial)]; simp [hi]
    · rw [atKey_put_other (by intro f; cases f; exact e rfl), hd.at_ j hj]
      simp [List.getD, Ne.symm e]
  · have hj : j < h.length := by simpa using hj
    by_cases e : j = i
    · subst e
      rw [has_put_same ht.isMap (show WideAt.IsKeyLit (.int .i64 (j : Int)) from trivial)]; simp [List.getD, hll, hi]
    · rw [has_put_other (by intro f; cases f; exact e rfl), hd.has j hj]
      simp [List.getD, Ne.symm e]
  · by_cases e : x = (i : Int)
    · exact ⟨i, by simpa using hi, e⟩
    · rw [has_put_other (by intro f; cases f; exact e rfl)] at hx
      obtain ⟨j, hj, e2⟩ := hd.key x hx
      exact ⟨j, by simpa using hj, e2⟩
  · rw [size_put ht, hd.has i hi, count_put l i (by omega), hd.size]
  · simpa using hll
/-- A key that is ranged over: it is one of the list. -/
theorem MD.entry {D : DataW Unit} {h : List Int} {l : List Bool} (hd : MD D h l) {x c : Int} (hx : Maps.has D (.int .i64 x) = true) (hc : ∀ zd, D.atKey (.int .i64 x) zd = .lit (.int .i64 c)) : ∃ i : Nat, i < h.length ∧ x = (i : Int) ∧ c = h.getD i 0 := by
  obtain ⟨i, hi, rfl⟩ := hd.key x hx
  have := hd.at_ i hi
  rw [hc] at this
  cases this
  exact ⟨i, hi, rfl, rfl⟩
theorem grown_upd {w w' : World} {b : Nat} (h : w.grownBy w' (some b)) : Upd (fun k => k = b) w w' :=
  Upd.grown (Upd.refl _ _) h (fun j hj => .inl (by cases hj; rfl))
theorem grown_kept {w w' : World} (h : w.grownBy w' none) : Kept w w' :=
  Upd.grown (Upd.refl _ _) h (fun j hj => by cases hj)
theorem Mp.look {w : World} {b m : Nat} {h : List Int} {l : List Bool} (hm : Mp w b m h l) (i : Nat) (hi : i < h.length) (hb : (i : Int) ≤ 1000000000) {c : Int} (hc : h.getD i 0 = c) : (Instr.lookup 32 (.map (some b)) (.int .i64 (i : Int)) false).run Try.prog w = .ok (.int .i64 c) w := by
  obtain ⟨D, ho, hd⟩ := hm
  obtain ⟨c', hrun, hat, _⟩ := ho.lookup_int lawI Try.underlying32 Try.underlying3 (zeroI w) (keyOf_int_mk Try.underlying2 (WalkArith.wf_i64 (n := (i : Int)) (by omega)))
  rw [hd.at_ i hi] at hat
  cases hat
  rw [hrun, ← hc]
/-- 'm[i] = u'. -/
theorem wpList_put (w : World) {ops : Array Oper} {rest : List Oper} {o : Oper} {a : Act} {Q : Exit → Act → World → Prop} (hg : o.guard = none) (m x v : Operand) (hop : o.op = Op.mapUpdate 32 m x v) {b c : Nat} {h : List Int} {l : List Bool}
    (hm : a.eval m = .map (some b)) (hown : Mp w b c h l) (hn : c < maxLen) (i : Nat) (u : Int) (hx : a.eval x = .int .i64 (i : Int)) (hv : a.eval v = .int .i64 u) (hi : i < h.length) (hb : (i : Int) ≤ 1000000000) (hu : (Lit.int .i64 u).wf = true)
    (hK : ∀ w', Mp w' b (c + 1) (h.set i u) (l.set i true) → Upd (fun k => k = b) w w' → wpList Try.prog ops Q rest (a.put o.dst undef) w') : wpList Try.prog ops Q (o :: rest) a w := by
  obtain ⟨D, ho, hd⟩ := hown
  refine wpList_mapUpdate_own _ hg _ _ _ 32 hop 2 3 lawI Try.underlying32 (plainElem (H := Unit) Try.prog 3) b c D hm ho hn _ _ _ hx hv (keyOf_int_mk Try.underlying2 (WalkArith.wf_i64 (n := (i : Int)) (by omega))) _ [] (plainElem_int Try.underlying3 hu) ?_
  intro w' ho' hg'
  exact hK w' ⟨_, ho', hd.put (ho.tidy lawI) i hi u⟩ (grown_upd hg')
theorem Mp.lookx {w : World} {b m : Nat} {h : List Int} {l : List Bool} (hm : Mp w b m h l) {x : Int} (i : Nat) (hx : x = (i : Int)) (hi : i < h.length) (hb : (i : Int) ≤ 1000000000) {c : Int} (hc : h.getD i 0 = c) : (Instr.lookup 32 (.map (some b)) (.int .i64 x) false).run Try.prog w = .ok (.int .i64 c) w := by
  subst hx; exact hm.look i hi hb hc
theorem wpList_putx (w : World) {ops : Array Oper} {rest : List Oper} {o : Oper} {a : Act} {Q : Exit → Act → World → Prop} (hg : o.guard = none) (m x v : Operand) (hop : o.op = Op.mapUpdate 32 m x v) {b c : Nat} {h : List Int} {l : List Bool}
    (hm : a.eval m = .map (some b)) (hown : Mp w b c h l) (hn : c < maxLen) {kx : Int} (i : Nat) (u : Int) (hx : a.eval x = .int .i64 kx) (hv : a.eval v = .int .i64 u) (hk : kx = (i : Int)) (hi : i < h.length) (hb : (i : Int) ≤ 1000000000) (hu : (Lit.int .i64 u).wf = true)
    (hK : ∀ w', Mp w' b (c + 1) (h.set i u) (l.set i true) → Upd (fun k => k = b) w w' → wpList Try.prog ops Q rest (a.put o.dst undef) w') : wpList Try.prog ops Q (o :: rest) a w := by
  subst hk; exact wpList_put w hg m x v hop hm hown hn i u hx hv hi hb hu hK
/-- 'len(m)'. -/
theorem wpList_lenm (w : World) {ops : Array Oper} {rest : List Oper} {o : Oper} {a : Act} {Q : Exit → Act → World → Prop} (hg : o.guard = none) (m : Operand) (hop : o.op = Op.call { callee := Callee.builtin Builtin.len, args := #[m], argTypes := #[32] })
    {b c : Nat} {h : List Int} {l : List Bool} (hm : a.eval m = .map (some b)) (hown : Mp w b c h l) {n : Int} (hn : ((l.count true : Nat) : Int) = n)
    (hK : wpList Try.prog ops Q rest (a.put o.dst (.int .i64 n)) w) : wpList Try.prog ops Q (o :: rest) a w := by
  obtain ⟨D, ho, hd⟩ := hown
  refine wpList_len_own _ hg _ 32 hop 2 3 Try.underlying32 (plainElem (H := Unit) Try.prog 3) b _ _ hm ho ?_
  rw [hd.size, hn]
  exact hK
theorem count_off (l : List Bool) (i : Nat) (hi : i < l.length) : (l.set i false).count true + (if l.getD i false then 1 else 0) = l.count true := by
  induction l generalizing i with
  | nil => simp at hi
  | cons x xs ih =>
    cases i with
    | zero => cases x <;> simp
    | succ j =>
      have := ih j (by simpa using hi)
      simp only [List.set_cons_succ, List.getD_cons_succ, List.count_cons]
      omega
theorem MD.del {D : DataW Unit} {h : List Int} {l : List Bool} (hd : MD D h l) (ht : Tidy D) (i : Nat) (hi : i < h.length) : MD (D.del (.int .i64 (i : Int))) (h.set i 0) (l.set i false) := by
  have hll := hd.len
  refine ⟨fun j hj => ?_, fun j hj => ?_, fun x hx => ?_, ?_, ?_⟩
  · have hj : j < h.length := by simpa using hj
    by_cases e : j = i
    · subst e
      rw [atKey_del_same]; simp [hi]
    · rw [atKey_del_other (by intro f; cases f; exact e rfl), hd.at_ j hj]
      simp [List.getD, Ne.symm e]
  · have hj : j < h.length := by simpa using hj
    by_cases e : j = i
    · subst e
      rw [has_del_same]; simp [List.getD, hll, hi]
    · rw [has_del_other (by intro f; cases f; exact e rfl), hd.has j hj]
      simp [List.getD, Ne.symm e]
  · by_cases e : x = (i : Int)
    · exact ⟨i, by simpa using hi, e⟩
    · rw [has_del_other (by intro f; cases f; exact e rfl)] at hx
      obtain ⟨j, hj, e2⟩ := hd.key x hx
      exact ⟨j, by simpa using hj, e2⟩
  · have h1 := size_del (k := .int .i64 (i : Int)) ht
    rw [hd.has i hi, hd.size] at h1
    have h2 := count_off l i (by omega)
    omega
  · simpa using hll
/-- 'delete(m, i)'. -/
theorem wpList_delx (w : World) {ops : Array Oper} {rest : List Oper} {o : Oper} {a : Act} {Q : Exit → Act → World → Prop} (hg : o.guard = none) (m x : Operand) (hop : o.op = Op.call { callee := Callee.builtin Builtin.delete, args := #[m, x], argTypes := #[32, 2] }) {b c : Nat} {h : List Int} {l : List Bool}
    (hm : a.eval m = .map (some b)) (hown : Mp w b c h l) {kx : Int} (i : Nat) (hx : a.eval x = .int .i64 kx) (hk : kx = (i : Int)) (hi : i < h.length) (hb : (i : Int) ≤ 1000000000)
    (hK : ∀ w', Mp w' b c (h.set i 0) (l.set i false) → Upd (fun k => k = b) w w' → wpList Try.prog ops Q rest (a.put o.dst (.tuple #[])) w') : wpList Try.prog ops Q (o :: rest) a w := by
  subst hk
  obtain ⟨D, ho, hd⟩ := hown
  refine wpList_delete_own _ hg m x 32 2 hop 3 lawI Try.underlying32 (plainElem (H := Unit) Try.prog 3) b c D hm ho _ _ hx (keyOf_int_mk Try.underlying2 (WalkArith.wf_i64 (n := (i : Int)) (by omega))) ?_
  intro w' ho' ht'
  exact hK w' ⟨_, ho', hd.del (ho.tidy lawI) i hi⟩ (grown_upd ht'.grown)
end Go.Proofs.Ytdgkemadhooogaa
