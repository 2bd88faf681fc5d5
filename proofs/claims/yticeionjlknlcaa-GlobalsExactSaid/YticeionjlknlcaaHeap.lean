/- container/heap upon repair's queue. -/
import Derived.Test.YticeionjlknlcaaBase2
import Derived.Test.YticeionjlknlcaaRd
import Derived.Deep.MidRow
import Derived.Test.YticeionjlknlcaaPush
import Derived.Handy
import Derived.Test.YticeionjlknlcaaProg
import Derived.Deep.LoopGhost
import Derived.Deep.CutRange
import Derived.Deep.RegionHeld3
import Derived.Test.YticeionjlknlcaaRegion
import Derived.Great.BuildSlice
namespace Go.Proofs.Yticeionjlknlcaa
set_option linter.unusedVariables false
open Go.RowKit

theorem Blk.newAt (w : World) (arr : Array Value) (T : TypeId) (k : Nat) (h : k = w.heap.size) : Blk (w.alloc (.cells arr T)) k arr T := by subst h; exact Blk.new w arr T
theorem rowk_at {α : Type} (k : Nat) : ∀ (ls : List (List α)), (∀ l ∈ ls, l.length = k) → ∀ i j, j < k → (h : i < ls.length) → ls.flatten[i * k + j]? = (ls[i])[j]?
  | [], _, i, j, _, h => by simp at h
  | l :: ls, hl, 0, j, hj, h => by
    have : l.length = k := hl l (by simp)
    simp [List.getElem?_append_left (show j < l.length by omega)]
  | l :: ls, hl, i + 1, j, hj, h => by
    have h0 : l.length = k := hl l (by simp)
    have := rowk_at k ls (fun x hx => hl x (by simp [hx])) i j hj (by simpa using h)
    rw [List.flatten_cons, List.getElem?_append_right (by rw [h0, Nat.add_mul]; omega), h0, show (i + 1) * k + j - k = i * k + j by rw [Nat.add_mul]; omega, this]
    simp
theorem rowk_set {α : Type} (k : Nat) (v : α) : ∀ (ls : List (List α)), (∀ l ∈ ls, l.length = k) → ∀ i j, j < k → (h : i < ls.length) → ls.flatten.set (i * k + j) v = (ls.set i ((ls[i]).set j v)).flatten
  | [], _, i, j, _, h => by simp at h
  | l :: ls, hl, 0, j, hj, h => by
    have : l.length = k := hl l (by simp)
    simp [List.set_append_left _ _ (show j < l.length by omega)]
  | l :: ls, hl, i + 1, j, hj, h => by
    have h0 : l.length = k := hl l (by simp)
    have := rowk_set k v ls (fun x hx => hl x (by simp [hx])) i j hj (by simpa using h)
    rw [List.flatten_cons, List.set_append_right _ _ (by rw [h0, Nat.add_mul]; omega), h0, show (i + 1) * k + j - k = i * k + j by rw [Nat.add_mul]; omega, this]
    simp

/-- A block of rows of k cells. -/
structure Rows (w : World) (b k : Nat) (T : TypeId) (ls : List (List Value)) : Prop where
  blk : Blk w b ls.flatten.toArray T
  len : ∀ l ∈ ls, l.length = k
theorem Rows.upd {w w' : World} {b k : Nat} {T : TypeId} {ls : List (List Value)} {S : Nat → Prop} (h : Rows w b k T ls) (hu : Upd S w w') (hs : ¬ S b) : Rows w' b k T ls := ⟨h.blk.upd hu hs, h.len⟩
theorem Rows.kept {w w' : World} {b k : Nat} {T : TypeId} {ls : List (List Value)} (h : Rows w b k T ls) (hu : Kept w w') : Rows w' b k T ls := h.upd hu (fun f => f)
theorem Rows.cell {w : World} {b k : Nat} {T : TypeId} {ls : List (List Value)} (h : Rows w b k T ls) {i o : Nat} {l : List Value} (hi : ls[i]? = some l) (ho : o = i * k) (j : Nat) (hj : j < k) : w.cell? ⟨b, o + j, none⟩ = l[j]? := by
  subst ho
  obtain ⟨h1, rfl⟩ := List.getElem?_eq_some_iff.1 hi
  rw [h.blk.cell]
  simpa using rowk_at k ls h.len i j hj h1
theorem Rows.put {w : World} {b k i j : Nat} {T : TypeId} {ls : List (List Value)} (h : Rows w b k T ls) (hi : i < ls.length) (hj : j < k) (v : Value) : Rows (w.setCell ⟨b, i * k + j, none⟩ v) b k T (ls.set i ((ls[i]).set j v)) := by
  refine ⟨?_, fun l hl => ?_⟩
  · have := h.blk.set (i * k + j) v
    rw [List.setIfInBounds_toArray, rowk_set k v ls h.len i j hj hi] at this
    exact this
  · rcases List.mem_or_eq_of_mem_set hl with h1 | rfl
    · exact h.len l h1
    · rw [List.length_set]; exact h.len _ (List.getElem_mem hi)
/-- A row, overwritten from cell j on. -/
def ow : List Value → Nat → List Value → List Value
  | l, _, [] => l
  | l, j, v :: vs => ow (l.set j v) (j + 1) vs
theorem ow_full : ∀ (vs l : List Value) (j : Nat), l.length = j + vs.length → ow l j vs = l.take j ++ vs
  | [], l, j, h => by simp at h; simp [ow, ← h]
  | v :: vs, l, j, h => by
    have h' : l.length = j + vs.length + 1 := by simpa [Nat.add_assoc] using h
    rw [ow, ow_full vs (l.set j v) (j + 1) (by simp; omega)]
    have hj : j < l.length := by omega
    rw [List.take_succ_eq_append_getElem (by simpa using hj), List.take_set_of_le (Nat.le_refl _)]
    simp
theorem Rows.over {b k i : Nat} {T : TypeId} : ∀ (vs : List Value) (w : World) (ls : List (List Value)) (l : List Value) (j : Nat), Rows w b k T ls → ls[i]? = some l → j + vs.length ≤ k → Rows (w.setCells b (i * k + j) vs) b k T (ls.set i (ow l j vs)) ∧ Upd (fun x => x = b) w (w.setCells b (i * k + j) vs)
  | [], w, ls, l, j, h, hi, hj => by
    obtain ⟨h1, rfl⟩ := List.getElem?_eq_some_iff.1 hi
    refine ⟨?_, Upd.refl _ _⟩
    show Rows w b k T (ls.set i ls[i])
    rw [List.set_getElem_self]
    exact h
  | v :: vs, w, ls, l, j, h, hi, hj => by
    obtain ⟨h1, rfl⟩ := List.getElem?_eq_some_iff.1 hi
    have hj' : j + (vs.length + 1) ≤ k := by simpa using hj
    have hp := h.put h1 (by omega) v (j := j)
    have h2 := Rows.over vs (w.setCell ⟨b, i * k + j, none⟩ v) (ls.set i ((ls[i]).set j v)) ((ls[i]).set j v) (j + 1) hp (List.getElem?_set_self h1) (by omega)
    rw [List.set_set] at h2
    exact ⟨h2.1, ((Upd.refl _ _).setCell (S := fun x => x = b) (p := ⟨b, i * k + j, none⟩) (.inl rfl) v).trans h2.2⟩
/-- .. at the operation. -/
theorem wp_row {P : Program} {w : World} {o : Oper} {a : Act} {K : Act → World → Prop} {Q : Exit → Act → World → Prop} (ty : TypeId) (x y : Operand) (ho : o.op = .store ty x y)
    {b k i f : Nat} {T : TypeId} {ls : List (List Value)} (vs : List Value) (hx : a.eval x = .pointer (some ⟨b, f, none⟩)) (hy : a.eval y = .agg vs.toArray) (h : Rows w b k T ls) (hi : i < ls.length) (hf : f = i * k) (hl : vs.length = k) (hz : (P.info? ty).map (·.size) = some k) (h1 : ∀ v ∈ vs, v.oneCell' = true)
    (hK : ∀ w', Rows w' b k T (ls.set i vs) → Upd (fun x => x = b) w w' → K (a.put o.dst undef) w') : Oper.wp P o a w K Q := by
  subst hf
  have hr : ls[i]? = some ls[i] := List.getElem?_eq_getElem hi
  have hll := h.len _ (List.getElem_mem hi)
  refine wp_store_mid ty x y ho b (i * k) vs.toArray hx hy ?_ (by simpa [hl] using hz) (all_oneCell_toArray h1) ?_
  · intro j hj
    have hj : j < k := by simpa [hl] using hj
    rw [h.cell hr rfl j hj]
    exact ⟨by simp [hll, hj], h.blk.free _⟩
  · have h2 := Rows.over vs w ls ls[i] 0 h hr (by omega)
    rw [ow_full vs ls[i] 0 (by omega)] at h2
    simp only [List.take_zero, List.nil_append, Nat.add_zero] at h2
    exact hK _ h2.1 h2.2
/-- A row is stored whole. -/
theorem wpList_row {P : Program} {w : World} {ops : Array Oper} {rest : List Oper} {o : Oper} {a : Act} {Q : Exit → Act → World → Prop} (hg : o.guard = none) (ty : TypeId) (x y : Operand) (ho : o.op = .store ty x y)
    {b k i f : Nat} {T : TypeId} {ls : List (List Value)} (vs : List Value) (hx : a.eval x = .pointer (some ⟨b, f, none⟩)) (hy : a.eval y = .agg vs.toArray) (h : Rows w b k T ls) (hi : i < ls.length) (hf : f = i * k) (hl : vs.length = k) (hz : (P.info? ty).map (·.size) = some k) (h1 : ∀ v ∈ vs, v.oneCell' = true)
    (hK : ∀ w', Rows w' b k T (ls.set i vs) → Upd (fun x => x = b) w w' → wpList P ops Q rest (a.put o.dst undef) w') : wpList P ops Q (o :: rest) a w := by
  subst hf
  have hr : ls[i]? = some ls[i] := List.getElem?_eq_getElem hi
  have hll := h.len _ (List.getElem_mem hi)
  refine wpList_store_mid hg ty x y ho b (i * k) vs.toArray hx hy ?_ (by simpa [hl] using hz) (all_oneCell_toArray h1) ?_
  · intro j hj
    have hj : j < k := by simpa [hl] using hj
    rw [h.cell hr rfl j hj]
    exact ⟨by simp [hll, hj], h.blk.free _⟩
  · have h2 := Rows.over vs w ls ls[i] 0 h hr (by omega)
    rw [ow_full vs ls[i] 0 (by omega)] at h2
    simp only [List.take_zero, List.nil_append, Nat.add_zero] at h2
    exact hK _ h2.1 h2.2

end Go.Proofs.Yticeionjlknlcaa
namespace Go.Proofs.Yticeionjlknlcaa
set_option linter.unusedVariables false
set_option linter.unusedSimpArgs false
open Go.RowKit

/-- A spot's cells. -/
def spc (x : Int × Int) : List Value := [.int .i64 x.1, .int .i64 x.2]
def spcs (xs : List (Int × Int)) : List Value := (xs.map spc).flatten
theorem spc_len (xs : List (Int × Int)) : ∀ l ∈ xs.map spc, l.length = 2 := by
  intro l hl
  obtain ⟨x, -, rfl⟩ := List.mem_map.1 hl
  rfl
theorem spcs_len (xs : List (Int × Int)) : (spcs xs).length = xs.length * 2 := by
  induction xs with
  | nil => rfl
  | cons x xs ih => show (spc x ++ spcs xs).length = _; rw [List.length_append, ih]; simp [spc]; omega
theorem chop2 {α : Type} : ∀ (k : Nat) (l : List α), l.length = k * 2 → ∃ ls : List (List α), (∀ x ∈ ls, x.length = 2) ∧ ls.flatten = l
  | 0, l, h => ⟨[], by simp, by rw [List.eq_nil_of_length_eq_zero (show l.length = 0 by omega)]; rfl⟩
  | k + 1, l, h => by
    obtain ⟨ls, h1, h2⟩ := chop2 k (l.drop 2) (by rw [List.length_drop]; omega)
    refine ⟨l.take 2 :: ls, fun x hx => ?_, by rw [List.flatten_cons, h2, List.take_append_drop]⟩
    rcases List.mem_cons.1 hx with e | e
    · rw [e, List.length_take]; omega
    · exact h1 x e
/-- A row of one's own, as rows in a block. -/
theorem own_rows {w : World} {B k g cap : Nat} {xs : List (Int × Int)} (h : w.ownsRow B 78 2 (.slice (some ⟨g, 0, none⟩) k cap) k (spcs xs)) :
    ∃ ls, Rows w g 2 78 (xs.map spc ++ ls) ∧ xs.length = k ∧ ∀ (W : World) (ys : List (Int × Int)), Rows W g 2 78 (ys.map spc ++ ls) → ys.length = k → W.ownsRow B 78 2 (.slice (some ⟨g, 0, none⟩) k cap) k (spcs ys) := by
  have hl := h.1
  rw [spcs_len] at hl
  rcases h.2 with ⟨e, -⟩ | ⟨g', cap', cur, e, hb, hh, hle, hmx, hsz, ht⟩
  · cases e
  · cases e
    obtain ⟨ls, h1, h2⟩ := chop2 (cap - k) (cur.toList.drop (k * 2)) (by rw [List.length_drop, Array.length_toList, hsz, Nat.sub_mul])
    have h3 : ls.flatten.length = (cap - k) * 2 := by rw [h2, List.length_drop, Array.length_toList, hsz, Nat.sub_mul]
    refine ⟨ls, ⟨?_, fun l hl => ?_⟩, by omega, fun W ys hR hy => ⟨by rw [spcs_len, hy], .inr ⟨g, cap, _, rfl, hb, hR.blk, hle, hmx, ?_, ?_⟩⟩⟩
    · have e : (xs.map spc ++ ls).flatten = cur.toList := by
        rw [List.flatten_append, h2]
        show spcs xs ++ _ = _
        rw [← ht, List.take_append_drop]
      rw [e]
      exact hh
    · rcases List.mem_append.1 hl with e | e
      · exact spc_len xs l e
      · exact h1 l e
    · have h4 : (spcs ys).length = k * 2 := by rw [spcs_len, hy]
      rw [List.size_toArray, List.flatten_append, List.length_append, h3]
      show (spcs ys).length + _ = _
      rw [h4, ← Nat.add_mul]
      congr 1
      omega
    · rw [List.flatten_append]
      show (spcs ys ++ _).take _ = _
      rw [List.take_append_of_le_length (by rw [spcs_len, hy]; exact Nat.le_refl _), List.take_of_length_le (by rw [spcs_len, hy]; exact Nat.le_refl _)]
theorem row_at {xs : List (Int × Int)} {ls : List (List Value)} {i : Nat} {x : Int × Int} (h : xs[i]? = some x) : (xs.map spc ++ ls)[i]? = some (spc x) := by
  have h1 := (List.getElem?_eq_some_iff.1 h).1
  rw [List.getElem?_append_left (by rw [List.length_map]; exact h1), List.getElem?_map, h]
  rfl
/-- Two rows are exchanged: none, one, two stores. -/
def SWR (w : World) (g : Nat) (L : List (List Value)) (i j : Nat) (x y : List Value) (b13 b15 : Bool) (W : World) : Prop :=
  Upd (fun k => k = g) w W ∧ ((b13 = false ∧ b15 = false ∧ Rows W g 2 78 L) ∨ (b13 = true ∧ b15 = false ∧ Rows W g 2 78 (L.set i y)) ∨ (b13 = true ∧ b15 = true ∧ Rows W g 2 78 ((L.set i y).set j x)))
section
variable {w W W' : World} {g i j : Nat} {L : List (List Value)} {x y : List Value} {b13 b15 : Bool}
theorem SWR.kept (h : SWR w g L i j x y b13 b15 W) (k : Kept W W') : SWR w g L i j x y b13 b15 W' := by
  obtain ⟨h0, h⟩ := h
  refine ⟨h0.then k (fun _ _ f => f.elim), ?_⟩
  rcases h with ⟨a, b, c⟩ | ⟨a, b, c⟩ | ⟨a, b, c⟩
  · exact .inl ⟨a, b, c.kept k⟩
  · exact .inr (.inl ⟨a, b, c.kept k⟩)
  · exact .inr (.inr ⟨a, b, c.kept k⟩)
theorem SWR.first (h : SWR w g L i j x y b13 b15 W) (e : b13 = false) : Rows W g 2 78 L := by
  rcases h.2 with ⟨a, b, c⟩ | ⟨a, b, c⟩ | ⟨a, b, c⟩
  · exact c
  · rw [e] at a; cases a
  · rw [e] at a; cases a
theorem SWR.early (h : SWR w g L i j x y false b15 W) : Rows W g 2 78 L := h.first rfl
theorem SWR.mid (h : SWR w g L i j x y b13 b15 W) (e : b13 = true) (e2 : b15 = false) : Rows W g 2 78 (L.set i y) := by
  rcases h.2 with ⟨a, b, c⟩ | ⟨a, b, c⟩ | ⟨a, b, c⟩
  · rw [e] at a; cases a
  · exact c
  · rw [e2] at b; cases b
theorem SWR.one (h : SWR w g L i j x y b13 b15 W) (e : b13 = false) (hR : Rows W' g 2 78 (L.set i y)) (hU : Upd (fun k => k = g) W W') : SWR w g L i j x y true b15 W' := by
  refine ⟨h.1.trans hU, .inr (.inl ⟨rfl, ?_, hR⟩)⟩
  rcases h.2 with ⟨a, b, c⟩ | ⟨a, b, c⟩ | ⟨a, b, c⟩
  · exact b
  · rw [e] at a; cases a
  · rw [e] at a; cases a
theorem SWR.two (h : SWR w g L i j x y b13 b15 W) (e : b13 = true) (e2 : b15 = false) (hR : Rows W' g 2 78 ((L.set i y).set j x)) (hU : Upd (fun k => k = g) W W') : SWR w g L i j x y b13 true W' :=
  ⟨h.1.trans hU, .inr (.inr ⟨e, rfl, hR⟩)⟩
theorem SWR.fin {xs : List (Int × Int)} {ls : List (List Value)} {p q : Int × Int} (h : SWR w g (xs.map spc ++ ls) i j (spc p) (spc q) true true W) (hi : i < xs.length ∧ j < xs.length) : Rows W g 2 78 (((xs.set i q).set j p).map spc ++ ls) ∧ Upd (fun k => k = g) w W := by
  obtain ⟨h0, h⟩ := h
  rcases h with ⟨a, b, c⟩ | ⟨a, b, c⟩ | ⟨a, b, c⟩
  · cases a
  · cases b
  · refine ⟨?_, h0⟩
    rw [List.map_set, List.map_set, ← List.set_append_left _ _ (by rw [List.length_set, List.length_map]; exact hi.2), ← List.set_append_left _ _ (by rw [List.length_map]; exact hi.1)]
    exact c
end
/-- repair's queue: a row in a box. -/
structure QF (w : World) (qb base : Nat) (v : Value) (xs : List (Int × Int)) : Prop where
  box : Blk w qb #[v] 75
  row : w.ownsRow base 78 2 v xs.length (spcs xs)
  lo : qb < base
  up : base ≤ w.heap.size
/-- What turned: the box, the row; the row lies where it lay, or in a new block. -/
structure QS (qb : Nat) (v v' : Value) (w w' : World) : Prop where
  upd : Upd (fun k => k = qb ∨ v.ownBlock = some k) w w'
  new : ∀ k, v'.ownBlock = some k → v.ownBlock = some k ∨ w.heap.size ≤ k
theorem QS.refl (qb : Nat) (v : Value) (w : World) : QS qb v v w w := ⟨Upd.refl _ _, fun k h => .inl h⟩
theorem QS.trans {qb : Nat} {v v' v'' : Value} {w w' w'' : World} (h : QS qb v v' w w') (k : QS qb v' v'' w' w'') : QS qb v v'' w w'' :=
  ⟨h.upd.then k.upd (fun i hi e => by
    rcases e with e | e
    · exact .inl e
    · rcases h.new i e with e2 | e2
      · exact .inr e2
      · omega), fun i e => by
    rcases k.new i e with e2 | e2
    · exact h.new i e2
    · exact .inr (Nat.le_trans h.upd.size e2)⟩
theorem QS.kept {qb : Nat} {v : Value} {w w' : World} (k : Kept w w') : QS qb v v w w' := ⟨k.wide fun _ _ f => f.elim, fun i e => .inl e⟩
theorem QF.kept {w w' : World} {qb base : Nat} {v : Value} {xs : List (Int × Int)} (h : QF w qb base v xs) (k : Kept w w') : QF w' qb base v xs := ⟨h.box.kept k, ownsRow_upd h.row k (fun _ _ f => f), h.lo, Nat.le_trans h.up k.size⟩
theorem QF.form {w : World} {qb base : Nat} {v : Value} {xs : List (Int × Int)} (h : QF w qb base v xs) : ∃ a c, v = .slice a xs.length c := row_form h.row
theorem QF.cell {w : World} {qb base : Nat} {v : Value} {xs : List (Int × Int)} (h : QF w qb base v xs) : w.cell? ⟨qb, 0, none⟩ = some v := by rw [h.box.cell]; rfl
theorem rlen_any (a : Option Addr) (n c : Nat) (w : World) : Calls Try.prog 43 #[.slice a n c] w fun e w' => e = .returned (.int .i64 n) ∧ w = w' := by
  go_enter Try.func43, Try.ntmps43
  go_wp2_with fail
  go_ret
  exact ⟨rfl, rfl⟩

set_option maxRecDepth 100000 in
theorem meth_emb (name : String) (fid : FuncId) (hinfo : (Try.prog.info? 71).map (fun i => (i.methods.find? (·.name == name)).map (fun m => (m.path.toList.map (fun s => (s.struct, s.index, s.deref)), m.func))) = some (some ([(75, 0, true)], some (fid, false))))
    (w : World) (qb : Nat) (a : Option Addr) (n c : Nat) (hc : w.cell? ⟨qb, 0, none⟩ = some (.slice a n c)) :
    Sem.run Try.prog (Go.method 260 71 (.pointer (some ⟨qb, 0, none⟩)) name) w = .ok (fid, .slice a n c) w := by
  have h := hinfo
  cases hi : Try.prog.info? 71 with
  | none => rw [hi] at h; cases h
  | some i =>
    rw [hi] at h
    simp only [Option.map_some, Option.some.injEq] at h
    cases hm : i.methods.find? (·.name == name) with
    | none => rw [hm] at h; cases h
    | some m =>
      rw [hm] at h
      simp only [Option.map_some, Option.some.injEq, Prod.mk.injEq] at h
      obtain ⟨h1, h2⟩ := h
      obtain ⟨nm, sig, path, func⟩ := m
      simp only at h1 h2
      subst h2
      obtain ⟨st, hst, h3⟩ : ∃ st, path.toList = [st] ∧ (st.struct, st.index, st.deref) = (75, 0, true) := by
        generalize path.toList = l at h1
        cases l with
        | nil => cases h1
        | cons x xs =>
          cases xs with
          | nil => simp only [List.map_cons, List.map_nil, List.cons.injEq, and_true] at h1; exact ⟨x, rfl, h1⟩
          | cons y ys => simp at h1
      simp only [Prod.mk.injEq] at h3
      have hpe : path.isEmpty = false := by
        cases he : path.isEmpty with
        | false => rfl
        | true => simp [Array.isEmpty_iff.1 he] at hst
      obtain ⟨s1, s2, s3⟩ := h3
      have hprog : Sem.run Try.prog program w = .ok Try.prog w := rfl
      show Sem.run _ (Go.method (259 + 1) _ _ _) w = _
      rw [Go.method]
      simp only [Sem.run_bind, typeInfo, hprog, Result.andThen_ok, hi, Sem.run_pure, hm, hst, follow, s1, s2, s3, hpe, if_true, Place.get, asAddr]
      clear hm hst hpe h1 hinfo
      go_simp
      simp only [receiverAt, Sem.run_bind, run_underlying Try.underlying73, Result.andThen_ok, Place.get]
      go_simp
set_option maxRecDepth 100000 in
set_option maxHeartbeats 4000000 in
theorem swap_any {w : World} {B k g cap : Nat} {xs : List (Int × Int)} (h : w.ownsRow B 78 2 (.slice (some ⟨g, 0, none⟩) k cap) k (spcs xs)) (i j : Nat) (x y : Int × Int) (hx : xs[i]? = some x) (hy : xs[j]? = some y) (hk : k ≤ 1000000) :
    Calls Try.prog 119 #[.slice (some ⟨g, 0, none⟩) k cap, .int .i64 i, .int .i64 j] w fun e w' => e = .returned (.tuple #[]) ∧ w'.ownsRow B 78 2 (.slice (some ⟨g, 0, none⟩) k cap) k (spcs ((xs.set i y).set j x)) ∧ Upd (fun b => b = g) w w' := by
  obtain ⟨ls, hR, hl, hback⟩ := own_rows h
  have HXi : Hid ((xs.map spc ++ ls)[i]? = some (spc x)) := Lib.hid (row_at hx)
  have HXj : Hid ((xs.map spc ++ ls)[j]? = some (spc y)) := Lib.hid (row_at hy)
  have i1 : (i : Int) < (k : Int) := by have := (List.getElem?_eq_some_iff.1 hx).1; omega
  have j1 : (j : Int) < (k : Int) := by have := (List.getElem?_eq_some_iff.1 hy).1; omega
  have i0 : (0 : Int) ≤ (i : Int) := by omega
  have j0 : (0 : Int) ≤ (j : Int) := by omega
  have hLs : Hid (i < (xs.map spc).length ∧ j < (xs.map spc).length) := Lib.hid (by rw [List.length_map]; omega)
  have hz2 : Hid ((Try.prog.info? 78).map (·.size) = some 2) := Lib.hid (by kernel_rfl)
  have HL := Lib.hid hl
  have HLL : Hid (i < xs.length ∧ j < xs.length) := Lib.hid (by omega)
  have HB := Lib.hid hback
  have HS0 : Hid (SWR w g (xs.map spc ++ ls) i j (spc x) (spc y) false false w) := Lib.hid ⟨Upd.refl _ _, .inl ⟨rfl, rfl, hR⟩⟩
  clear hR hback hl h hx hy
  go_enter Try.func119, Try.ntmps119
  go_upto_region 0 with (fail)
  refine wp_region_inv (fun l us W => ∃ (b0 b1 b2 b3 b4 b5 b6 b7 b8 b9 b10 b11 b12 b13 b14 b15 : Bool) (v6 v7 v8 v9 v10 v11 v12 v13 v14 v15 v16 v17 v18 v19 : Value), l = #[b0, b1, b2, b3, b4, b5, b6, b7, b8, b9, b10, b11, b12, b13, b14, b15] ∧ us = [v6, v7, v8, v9, v10, v11, v12, v13, v14, v15, v16, v17, v18, v19] ∧ Hid (SWR w g (xs.map spc ++ ls) i j (spc x) (spc y) b13 b15 W) ∧
      Hid (b0 = true → v6 = .slice (some ⟨g, 0, none⟩) k cap) ∧
      Hid (b1 = true → v7 = .int .i64 (i : Int)) ∧
      Hid (b2 = true → v8 = .slice (some ⟨g, 0, none⟩) k cap) ∧
      Hid (b3 = true → v9 = .int .i64 (j : Int)) ∧
      Hid (b4 = true → v10 = .slice (some ⟨g, 0, none⟩) k cap) ∧
      Hid (b5 = true → v11 = .int .i64 (j : Int)) ∧
      Hid (b6 = true → v12 = .pointer (some ⟨g, j * 2, none⟩)) ∧
      Hid (b7 = true → v13 = .agg #[.int .i64 y.1, .int .i64 y.2]) ∧
      Hid (b8 = true → v14 = .slice (some ⟨g, 0, none⟩) k cap) ∧
      Hid (b9 = true → v15 = .int .i64 (i : Int)) ∧
      Hid (b10 = true → v16 = .pointer (some ⟨g, i * 2, none⟩)) ∧
      Hid (b11 = true → v17 = .agg #[.int .i64 x.1, .int .i64 x.2]) ∧
      Hid (b12 = true → v18 = .pointer (some ⟨g, i * 2, none⟩)) ∧
      Hid (b14 = true → v19 = .pointer (some ⟨g, j * 2, none⟩)) ∧
      Hid (b13 = true → b7 = true ∧ b11 = true)) [6, 7, 8, 9, 10, 11, 12, 13, 14, 15, 16, 17, 18, 19] [undef, undef, undef, undef, undef, undef, undef, undef, undef, undef, undef, undef, undef, undef] (by kernel_rfl) (by kernel_rfl) (by simp only [putAll, Act.put, List.setIfInBounds_toArray, List.set_cons_zero, List.set_cons_succ]) ?_ ?_ ?_
  · exact ⟨false, false, false, false, false, false, false, false, false, false, false, false, false, false, false, false, _, _, _, _, _, _, _, _, _, _, _, _, _, _, rfl, rfl, Lib.hid (HS0.out.kept (Upd.refl _ _).drew), Lib.hid (by simp), Lib.hid (by simp), Lib.hid (by simp), Lib.hid (by simp), Lib.hid (by simp), Lib.hid (by simp), Lib.hid (by simp), Lib.hid (by simp), Lib.hid (by simp), Lib.hid (by simp), Lib.hid (by simp), Lib.hid (by simp), Lib.hid (by simp), Lib.hid (by simp), Lib.hid (by simp)⟩
  · rintro i l us W ⟨b0, b1, b2, b3, b4, b5, b6, b7, b8, b9, b10, b11, b12, b13, b14, b15, v6, v7, v8, v9, v10, v11, v12, v13, v14, v15, v16, v17, v18, v19, rfl, rfl, hI, h0, h1, h2, h3, h4, h5, h6, h7, h8, h9, h10, h11, h12, h14, x13⟩ hr
    have hi : i = 0 ∨ i = 1 ∨ i = 2 ∨ i = 3 ∨ i = 4 ∨ i = 5 ∨ i = 6 ∨ i = 7 ∨ i = 8 ∨ i = 9 ∨ i = 10 ∨ i = 11 ∨ i = 12 ∨ i = 13 ∨ i = 14 ∨ i = 15 := by
      have := ready_lt hr
      simp at this
      omega
    rcases hi with rfl | rfl | rfl | rfl | rfl | rfl | rfl | rfl | rfl | rfl | rfl | rfl | rfl | rfl | rfl | rfl
    · skip
      obtain ⟨hn, hd⟩ := ready_at hr rfl
      simp [Region.binds] at hn hd
      refine wpOp_step rfl (fun K' hK => ?_)
      simp only [putAll, Act.put, List.setIfInBounds_toArray, List.set_cons_zero, List.set_cons_succ]
      go_simp
      exact hK _ _ ⟨_, by simp only [putAll, Act.put, List.setIfInBounds_toArray, List.set_cons_zero, List.set_cons_succ], true, b1, b2, b3, b4, b5, b6, b7, b8, b9, b10, b11, b12, b13, b14, b15, _, _, _, _, _, _, _, _, _, _, _, _, _, _, rfl, rfl, hI, Lib.hid (fun _ => rfl), h1, h2, h3, h4, h5, h6, h7, h8, h9, h10, h11, h12, h14, x13⟩
    · skip
      obtain ⟨hn, hd⟩ := ready_at hr rfl
      simp [Region.binds] at hn hd
      refine wpOp_step rfl (fun K' hK => ?_)
      simp only [putAll, Act.put, List.setIfInBounds_toArray, List.set_cons_zero, List.set_cons_succ]
      go_simp
      exact hK _ _ ⟨_, by simp only [putAll, Act.put, List.setIfInBounds_toArray, List.set_cons_zero, List.set_cons_succ], b0, true, b2, b3, b4, b5, b6, b7, b8, b9, b10, b11, b12, b13, b14, b15, _, _, _, _, _, _, _, _, _, _, _, _, _, _, rfl, rfl, hI, h0, Lib.hid (fun _ => rfl), h2, h3, h4, h5, h6, h7, h8, h9, h10, h11, h12, h14, x13⟩
    · skip
      obtain ⟨hn, hd⟩ := ready_at hr rfl
      simp [Region.binds] at hn hd
      refine wpOp_step rfl (fun K' hK => ?_)
      simp only [putAll, Act.put, List.setIfInBounds_toArray, List.set_cons_zero, List.set_cons_succ]
      go_simp
      exact hK _ _ ⟨_, by simp only [putAll, Act.put, List.setIfInBounds_toArray, List.set_cons_zero, List.set_cons_succ], b0, b1, true, b3, b4, b5, b6, b7, b8, b9, b10, b11, b12, b13, b14, b15, _, _, _, _, _, _, _, _, _, _, _, _, _, _, rfl, rfl, hI, h0, h1, Lib.hid (fun _ => rfl), h3, h4, h5, h6, h7, h8, h9, h10, h11, h12, h14, x13⟩
    · skip
      obtain ⟨hn, hd⟩ := ready_at hr rfl
      simp [Region.binds] at hn hd
      refine wpOp_step rfl (fun K' hK => ?_)
      simp only [putAll, Act.put, List.setIfInBounds_toArray, List.set_cons_zero, List.set_cons_succ]
      go_simp
      exact hK _ _ ⟨_, by simp only [putAll, Act.put, List.setIfInBounds_toArray, List.set_cons_zero, List.set_cons_succ], b0, b1, b2, true, b4, b5, b6, b7, b8, b9, b10, b11, b12, b13, b14, b15, _, _, _, _, _, _, _, _, _, _, _, _, _, _, rfl, rfl, hI, h0, h1, h2, Lib.hid (fun _ => rfl), h4, h5, h6, h7, h8, h9, h10, h11, h12, h14, x13⟩
    · skip
      obtain ⟨hn, hd⟩ := ready_at hr rfl
      simp [Region.binds] at hn hd
      refine wpOp_step rfl (fun K' hK => ?_)
      simp only [putAll, Act.put, List.setIfInBounds_toArray, List.set_cons_zero, List.set_cons_succ]
      go_simp
      exact hK _ _ ⟨_, by simp only [putAll, Act.put, List.setIfInBounds_toArray, List.set_cons_zero, List.set_cons_succ], b0, b1, b2, b3, true, b5, b6, b7, b8, b9, b10, b11, b12, b13, b14, b15, _, _, _, _, _, _, _, _, _, _, _, _, _, _, rfl, rfl, hI, h0, h1, h2, h3, Lib.hid (fun _ => rfl), h5, h6, h7, h8, h9, h10, h11, h12, h14, x13⟩
    · skip
      obtain ⟨hn, hd⟩ := ready_at hr rfl
      simp [Region.binds] at hn hd
      refine wpOp_step rfl (fun K' hK => ?_)
      simp only [putAll, Act.put, List.setIfInBounds_toArray, List.set_cons_zero, List.set_cons_succ]
      go_simp
      exact hK _ _ ⟨_, by simp only [putAll, Act.put, List.setIfInBounds_toArray, List.set_cons_zero, List.set_cons_succ], b0, b1, b2, b3, b4, true, b6, b7, b8, b9, b10, b11, b12, b13, b14, b15, _, _, _, _, _, _, _, _, _, _, _, _, _, _, rfl, rfl, hI, h0, h1, h2, h3, h4, Lib.hid (fun _ => rfl), h6, h7, h8, h9, h10, h11, h12, h14, x13⟩
    · skip
      obtain ⟨hn, hd⟩ := ready_at hr rfl
      simp [Region.binds] at hn hd
      obtain rfl := h4.out (by simp [hd])
      obtain rfl := h5.out (by simp [hd])
      refine wpOp_step rfl (fun K' hK => ?_)
      simp only [putAll, Act.put, List.setIfInBounds_toArray, List.set_cons_zero, List.set_cons_succ]
      go_simp
      exact hK _ _ ⟨_, by simp only [putAll, Act.put, List.setIfInBounds_toArray, List.set_cons_zero, List.set_cons_succ], b0, b1, b2, b3, b4, b5, true, b7, b8, b9, b10, b11, b12, b13, b14, b15, _, _, _, _, _, _, _, _, _, _, _, _, _, _, rfl, rfl, hI, h0, h1, h2, h3, h4, h5, Lib.hid (fun _ => rfl), h7, h8, h9, h10, h11, h12, h14, x13⟩
    · skip
      obtain ⟨hn, hd⟩ := ready_at hr rfl
      simp [Region.binds] at hn hd
      obtain rfl := h6.out (by simp [hd])
      have hb : b13 = false := by cases b13 with | false => rfl | true => (have := (x13.out rfl).1; rw [hn] at this; cases this)
      subst hb
      have hR := hI.out.early
      have d0 : W.cell? ⟨g, j * 2, none⟩ = some (.int .i64 y.1) := by have := hR.cell (i := j) (o := j * 2) HXj.out rfl 0 (by omega); simpa [spc] using this
      have d1 : W.cell? ⟨g, j * 2 + 1, none⟩ = some (.int .i64 y.2) := by have := hR.cell (i := j) (o := j * 2) HXj.out rfl 1 (by omega); simpa [spc] using this
      refine wpOp_step rfl (fun K' hK => ?_)
      simp only [putAll, Act.put, List.setIfInBounds_toArray, List.set_cons_zero, List.set_cons_succ]
      go_simp
      exact hK _ _ ⟨_, by simp only [putAll, Act.put, List.setIfInBounds_toArray, List.set_cons_zero, List.set_cons_succ], b0, b1, b2, b3, b4, b5, b6, true, b8, b9, b10, b11, b12, false, b14, b15, _, _, _, _, _, _, _, _, _, _, _, _, _, _, rfl, rfl, hI, h0, h1, h2, h3, h4, h5, h6, Lib.hid (fun _ => rfl), h8, h9, h10, h11, h12, h14, Lib.hid (fun h => (by cases h))⟩
    · skip
      obtain ⟨hn, hd⟩ := ready_at hr rfl
      simp [Region.binds] at hn hd
      refine wpOp_step rfl (fun K' hK => ?_)
      simp only [putAll, Act.put, List.setIfInBounds_toArray, List.set_cons_zero, List.set_cons_succ]
      go_simp
      exact hK _ _ ⟨_, by simp only [putAll, Act.put, List.setIfInBounds_toArray, List.set_cons_zero, List.set_cons_succ], b0, b1, b2, b3, b4, b5, b6, b7, true, b9, b10, b11, b12, b13, b14, b15, _, _, _, _, _, _, _, _, _, _, _, _, _, _, rfl, rfl, hI, h0, h1, h2, h3, h4, h5, h6, h7, Lib.hid (fun _ => rfl), h9, h10, h11, h12, h14, x13⟩
    · skip
      obtain ⟨hn, hd⟩ := ready_at hr rfl
      simp [Region.binds] at hn hd
      refine wpOp_step rfl (fun K' hK => ?_)
      simp only [putAll, Act.put, List.setIfInBounds_toArray, List.set_cons_zero, List.set_cons_succ]
      go_simp
      exact hK _ _ ⟨_, by simp only [putAll, Act.put, List.setIfInBounds_toArray, List.set_cons_zero, List.set_cons_succ], b0, b1, b2, b3, b4, b5, b6, b7, b8, true, b10, b11, b12, b13, b14, b15, _, _, _, _, _, _, _, _, _, _, _, _, _, _, rfl, rfl, hI, h0, h1, h2, h3, h4, h5, h6, h7, h8, Lib.hid (fun _ => rfl), h10, h11, h12, h14, x13⟩
    · skip
      obtain ⟨hn, hd⟩ := ready_at hr rfl
      simp [Region.binds] at hn hd
      obtain rfl := h8.out (by simp [hd])
      obtain rfl := h9.out (by simp [hd])
      refine wpOp_step rfl (fun K' hK => ?_)
      simp only [putAll, Act.put, List.setIfInBounds_toArray, List.set_cons_zero, List.set_cons_succ]
      go_simp
      exact hK _ _ ⟨_, by simp only [putAll, Act.put, List.setIfInBounds_toArray, List.set_cons_zero, List.set_cons_succ], b0, b1, b2, b3, b4, b5, b6, b7, b8, b9, true, b11, b12, b13, b14, b15, _, _, _, _, _, _, _, _, _, _, _, _, _, _, rfl, rfl, hI, h0, h1, h2, h3, h4, h5, h6, h7, h8, h9, Lib.hid (fun _ => rfl), h11, h12, h14, x13⟩
    · skip
      obtain ⟨hn, hd⟩ := ready_at hr rfl
      simp [Region.binds] at hn hd
      obtain rfl := h10.out (by simp [hd])
      have hb : b13 = false := by cases b13 with | false => rfl | true => (have := (x13.out rfl).2; rw [hn] at this; cases this)
      subst hb
      have hR := hI.out.early
      have d0 : W.cell? ⟨g, i * 2, none⟩ = some (.int .i64 x.1) := by have := hR.cell (i := i) (o := i * 2) HXi.out rfl 0 (by omega); simpa [spc] using this
      have d1 : W.cell? ⟨g, i * 2 + 1, none⟩ = some (.int .i64 x.2) := by have := hR.cell (i := i) (o := i * 2) HXi.out rfl 1 (by omega); simpa [spc] using this
      refine wpOp_step rfl (fun K' hK => ?_)
      simp only [putAll, Act.put, List.setIfInBounds_toArray, List.set_cons_zero, List.set_cons_succ]
      go_simp
      exact hK _ _ ⟨_, by simp only [putAll, Act.put, List.setIfInBounds_toArray, List.set_cons_zero, List.set_cons_succ], b0, b1, b2, b3, b4, b5, b6, b7, b8, b9, b10, true, b12, false, b14, b15, _, _, _, _, _, _, _, _, _, _, _, _, _, _, rfl, rfl, hI, h0, h1, h2, h3, h4, h5, h6, h7, h8, h9, h10, Lib.hid (fun _ => rfl), h12, h14, Lib.hid (fun h => (by cases h))⟩
    · skip
      obtain ⟨hn, hd⟩ := ready_at hr rfl
      simp [Region.binds] at hn hd
      obtain rfl := h0.out (by simp [hd])
      obtain rfl := h1.out (by simp [hd])
      refine wpOp_step rfl (fun K' hK => ?_)
      simp only [putAll, Act.put, List.setIfInBounds_toArray, List.set_cons_zero, List.set_cons_succ]
      go_simp
      exact hK _ _ ⟨_, by simp only [putAll, Act.put, List.setIfInBounds_toArray, List.set_cons_zero, List.set_cons_succ], b0, b1, b2, b3, b4, b5, b6, b7, b8, b9, b10, b11, true, b13, b14, b15, _, _, _, _, _, _, _, _, _, _, _, _, _, _, rfl, rfl, hI, h0, h1, h2, h3, h4, h5, h6, h7, h8, h9, h10, h11, Lib.hid (fun _ => rfl), h14, x13⟩
    · skip
      obtain ⟨hn, hd⟩ := ready_at hr rfl
      simp [Region.binds] at hn hd
      obtain rfl := h12.out (by simp [hd])
      obtain rfl := h7.out (by simp [hd])
      have hR := hI.out.first hn
      refine wpOp_step (o := ⟨none, .store 78 (.tmp 18) (.tmp 13), 0, "repair.go:21", _, none⟩) rfl (fun K' hK => ?_)
      simp only [putAll, Act.put, List.setIfInBounds_toArray, List.set_cons_zero, List.set_cons_succ]
      refine wp_row 78 (.tmp 18) (.tmp 13) rfl (k := 2) (i := i) (f := i * 2) (spc y) rfl rfl hR (by simp only [List.length_set, List.length_append]; have := hLs.out; omega) rfl rfl hz2.out (by intro u hu; simp [spc] at hu; rcases hu with rfl | rfl <;> rfl) ?_
      intro W2 hP1 hP2
      change K' (Act.put _ none _) W2
      exact hK _ _ ⟨_, by simp only [putAll, Act.put, List.setIfInBounds_toArray, List.set_cons_zero, List.set_cons_succ], b0, b1, b2, b3, b4, b5, b6, b7, b8, b9, b10, b11, b12, true, b14, b15, _, _, _, _, _, _, _, _, _, _, _, _, _, _, rfl, rfl, (Lib.hid (hI.out.one hn hP1 hP2)), h0, h1, h2, h3, h4, h5, h6, h7, h8, h9, h10, h11, h12, h14, Lib.hid (fun _ => (by simp [hd]))⟩
    · skip
      obtain ⟨hn, hd⟩ := ready_at hr rfl
      simp [Region.binds] at hn hd
      obtain rfl := h2.out (by simp [hd])
      obtain rfl := h3.out (by simp [hd])
      refine wpOp_step rfl (fun K' hK => ?_)
      simp only [putAll, Act.put, List.setIfInBounds_toArray, List.set_cons_zero, List.set_cons_succ]
      go_simp
      exact hK _ _ ⟨_, by simp only [putAll, Act.put, List.setIfInBounds_toArray, List.set_cons_zero, List.set_cons_succ], b0, b1, b2, b3, b4, b5, b6, b7, b8, b9, b10, b11, b12, b13, true, b15, _, _, _, _, _, _, _, _, _, _, _, _, _, _, rfl, rfl, hI, h0, h1, h2, h3, h4, h5, h6, h7, h8, h9, h10, h11, h12, Lib.hid (fun _ => rfl), x13⟩
    · skip
      obtain ⟨hn, hd⟩ := ready_at hr rfl
      simp [Region.binds] at hn hd
      obtain rfl := h14.out (by simp [hd])
      obtain rfl := h11.out (by simp [hd])
      have e13 : b13 = true := (by simp [hd])
      have hR := hI.out.mid e13 hn
      refine wpOp_step (o := ⟨none, .store 78 (.tmp 19) (.tmp 17), 0, "repair.go:21", _, none⟩) rfl (fun K' hK => ?_)
      simp only [putAll, Act.put, List.setIfInBounds_toArray, List.set_cons_zero, List.set_cons_succ]
      refine wp_row 78 (.tmp 19) (.tmp 17) rfl (k := 2) (i := j) (f := j * 2) (spc x) rfl rfl hR (by simp only [List.length_set, List.length_append]; have := hLs.out; omega) rfl rfl hz2.out (by intro u hu; simp [spc] at hu; rcases hu with rfl | rfl <;> rfl) ?_
      intro W2 hP1 hP2
      change K' (Act.put _ none _) W2
      exact hK _ _ ⟨_, by simp only [putAll, Act.put, List.setIfInBounds_toArray, List.set_cons_zero, List.set_cons_succ], b0, b1, b2, b3, b4, b5, b6, b7, b8, b9, b10, b11, b12, b13, b14, true, _, _, _, _, _, _, _, _, _, _, _, _, _, _, rfl, rfl, (Lib.hid (hI.out.two e13 hn hP1 hP2)), h0, h1, h2, h3, h4, h5, h6, h7, h8, h9, h10, h11, h12, h14, x13⟩
  · rintro l us W ⟨b0, b1, b2, b3, b4, b5, b6, b7, b8, b9, b10, b11, b12, b13, b14, b15, v6, v7, v8, v9, v10, v11, v12, v13, v14, v15, v16, v17, v18, v19, rfl, rfl, hI, h0, h1, h2, h3, h4, h5, h6, h7, h8, h9, h10, h11, h12, h14, x13⟩ hall
    as_aux_lemma =>
    obtain rfl : b0 = true := by simpa using hall 0
    obtain rfl : b1 = true := by simpa using hall 1
    obtain rfl : b2 = true := by simpa using hall 2
    obtain rfl : b3 = true := by simpa using hall 3
    obtain rfl : b4 = true := by simpa using hall 4
    obtain rfl : b5 = true := by simpa using hall 5
    obtain rfl : b6 = true := by simpa using hall 6
    obtain rfl : b7 = true := by simpa using hall 7
    obtain rfl : b8 = true := by simpa using hall 8
    obtain rfl : b9 = true := by simpa using hall 9
    obtain rfl : b10 = true := by simpa using hall 10
    obtain rfl : b11 = true := by simpa using hall 11
    obtain rfl : b12 = true := by simpa using hall 12
    obtain rfl : b13 = true := by simpa using hall 13
    obtain rfl : b14 = true := by simpa using hall 14
    obtain rfl : b15 = true := by simpa using hall 15
    obtain rfl := h0.out rfl
    obtain rfl := h1.out rfl
    obtain rfl := h2.out rfl
    obtain rfl := h3.out rfl
    obtain rfl := h4.out rfl
    obtain rfl := h5.out rfl
    obtain rfl := h6.out rfl
    obtain rfl := h7.out rfl
    obtain rfl := h8.out rfl
    obtain rfl := h9.out rfl
    obtain rfl := h10.out rfl
    obtain rfl := h11.out rfl
    obtain rfl := h12.out rfl
    obtain rfl := h14.out rfl
    simp only [putAll, Act.put, List.setIfInBounds_toArray, List.set_cons_zero, List.set_cons_succ]
    have hF := hI.out.fin HLL.out
    go_wp2_with fail
    go_returns
    exact ⟨rfl, HB.out _ _ hF.1 (by simp [HL.out]), hF.2⟩
end Go.Proofs.Yticeionjlknlcaa
