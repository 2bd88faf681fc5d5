/- Rows of cells in a block; the state of BarrierTells. -/
import Derived.Test.YtghlpapljjcaeaaRefReady14
import Derived.Test.YtghlpapljjcaeaaAwake14
import Derived.Test.YtghlpapljjcaeaaSame11
import Derived.Test.YtghlpapljjcaeaaRd
import Derived.Deep.MidRow
namespace Go.Proofs.Ytghlpapljjcaeaa
set_option linter.unusedVariables false
open Go.RowKit

theorem set4 {l : List Value} (h : l.length = 4) (a0 a1 a2 a3 : Value) : ((((l).set 0 a0).set 1 a1).set 2 a2).set 3 a3 = [a0, a1, a2, a3] := by
  match l, h with
  | [x0, x1, x2, x3], _ => rfl
set_option maxHeartbeats 2000000 in
theorem Rows.put4 {w : World} {b o i : Nat} {T : TypeId} {ls : List (List Value)} (h : Rows w b 4 T ls) (hi : i < ls.length) (ho : o = i * 4) (a0 a1 a2 a3 : Value) :
    Rows ((((w.setCell ⟨b, o, none⟩ a0).setCell ⟨b, o + 1, none⟩ a1).setCell ⟨b, o + 2, none⟩ a2).setCell ⟨b, o + 3, none⟩ a3) b 4 T (ls.set i [a0, a1, a2, a3]) ∧ Upd (fun k => k = b) w ((((w.setCell ⟨b, o, none⟩ a0).setCell ⟨b, o + 1, none⟩ a1).setCell ⟨b, o + 2, none⟩ a2).setCell ⟨b, o + 3, none⟩ a3) := by
  refine ⟨?_, ((((Upd.refl (fun k => k = b) w).setCell (S := fun k => k = b) (p := ⟨b, o, none⟩) (.inl rfl) a0).setCell (S := fun k => k = b) (p := ⟨b, o + 1, none⟩) (.inl rfl) a1).setCell (S := fun k => k = b) (p := ⟨b, o + 2, none⟩) (.inl rfl) a2).setCell (S := fun k => k = b) (p := ⟨b, o + 3, none⟩) (.inl rfl) a3⟩
  subst ho
  have e := set4 (h.len _ (List.getElem_mem hi)) a0 a1 a2 a3
  have h1 := h.put (i := i) (j := 0) (by simpa using hi) (by omega) a0
  have h2 := h1.put (i := i) (j := 1) (by simpa using hi) (by omega) a1
  have h3 := h2.put (i := i) (j := 2) (by simpa using hi) (by omega) a2
  have h4 := h3.put (i := i) (j := 3) (by simpa using hi) (by omega) a3
  simp only [List.getElem_set_self, List.set_set, Nat.add_zero] at h4
  rw [e] at h4
  exact h4
/-- A row, overwritten from cell j on. -/
def ow : List Value → Nat → List Value → List Value
  | l, _, [] => l
  | l, j, v :: vs => ow (l.set j v) (j + 1) vs
theorem ow_full : ∀ (vs l : List Value) (j : Nat), l.length = j + vs.length → ow l j vs = l.take j ++ vs
  | [], l, j, h => by simp at h; simp [ow, ← h]
  | v :: vs, l, j, h => by
    have h' : l.length = j + vs.length + 1 := by simpa [Nat.add_assoc] using h
    rw [ow, ow_full vs (l.set j v) (j + 1) (by simp; omega)]
    have hj : j < l.length := by omega
    rw [List.take_succ_eq_append_getElem (by simpa using hj), List.take_set_of_le (Nat.le_refl _)]
    simp
theorem Rows.over {b k i : Nat} {T : TypeId} : ∀ (vs : List Value) (w : World) (ls : List (List Value)) (l : List Value) (j : Nat), Rows w b k T ls → ls[i]? = some l → j + vs.length ≤ k → Rows (w.setCells b (i * k + j) vs) b k T (ls.set i (ow l j vs)) ∧ Upd (fun x => x = b) w (w.setCells b (i * k + j) vs)
  | [], w, ls, l, j, h, hi, hj => by
    obtain ⟨h1, rfl⟩ := List.getElem?_eq_some_iff.1 hi
    refine ⟨?_, Upd.refl _ _⟩
    show Rows w b k T (ls.set i ls[i])
    rw [List.set_getElem_self]
    exact h
  | v :: vs, w, ls, l, j, h, hi, hj => by
    obtain ⟨h1, rfl⟩ := List.getElem?_eq_some_iff.1 hi
    have hj' : j + (vs.length + 1) ≤ k := by simpa using hj
    have hp := h.put h1 (by omega) v (j := j)
    have h2 := Rows.over vs (w.setCell ⟨b, i * k + j, none⟩ v) (ls.set i ((ls[i]).set j v)) ((ls[i]).set j v) (j + 1) hp (List.getElem?_set_self h1) (by omega)
    rw [List.set_set] at h2
    exact ⟨h2.1, ((Upd.refl _ _).setCell (S := fun x => x = b) (p := ⟨b, i * k + j, none⟩) (.inl rfl) v).trans h2.2⟩
/-- A row is stored whole. -/
theorem wpList_row {P : Program} {w : World} {ops : Array Oper} {rest : List Oper} {o : Oper} {a : Act} {Q : Exit → Act → World → Prop} (hg : o.guard = none) (ty : TypeId) (x y : Operand) (ho : o.op = .store ty x y)
    {b k i f : Nat} {T : TypeId} {ls : List (List Value)} (vs : List Value) (hx : a.eval x = .pointer (some ⟨b, f, none⟩)) (hy : a.eval y = .agg vs.toArray) (h : Rows w b k T ls) (hi : i < ls.length) (hf : f = i * k) (hl : vs.length = k) (hz : (P.info? ty).map (·.size) = some k) (h1 : ∀ v ∈ vs, v.oneCell' = true)
    (hK : ∀ w', Rows w' b k T (ls.set i vs) → Upd (fun x => x = b) w w' → wpList P ops Q rest (a.put o.dst undef) w') : wpList P ops Q (o :: rest) a w := by
  subst hf
  have hr : ls[i]? = some ls[i] := List.getElem?_eq_getElem hi
  have hll := h.len _ (List.getElem_mem hi)
  refine wpList_store_mid hg ty x y ho b (i * k) vs.toArray hx hy ?_ (by simpa [hl] using hz) (all_oneCell_toArray h1) ?_
  · intro j hj
    have hj : j < k := by simpa [hl] using hj
    rw [h.cell hr rfl j hj]
    exact ⟨by simp [hll, hj], h.blk.free _⟩
  · have h2 := Rows.over vs w ls ls[i] 0 h hr (by omega)
    rw [ow_full vs ls[i] 0 (by omega)] at h2
    simp only [List.take_zero, List.nil_append, Nat.add_zero] at h2
    exact hK _ h2.1 h2.2

/-- A machine of the reference. -/
structure RM where
  at_ : Int
  own : Int
  last : Bool
  done : Bool
def rcell (r : RM) : List Value := [.int .i64 r.at_, .int .i64 r.own, .bool r.last, .bool r.done]
def rrows (rs : List RM) : List (List Value) := rs.map rcell
theorem rrows_set (rs : List RM) (i : Nat) (r : RM) : (rrows rs).set i (rcell r) = rrows (rs.set i r) := by rw [rrows, rrows, List.map_set]
theorem rrows_at {rs : List RM} {i : Nat} {r : RM} (h : rs[i]? = some r) : (rrows rs)[i]? = some (rcell r) := by rw [rrows, List.getElem?_map, h]; rfl
theorem Rows.mach {w : World} {mb : Nat} {n s : Int} {ms : List MS} (h : Rows w mb 17 46 (ms.map (mcell n s))) : Mach w mb n s ms := ⟨[], by simpa using h⟩
/-- All machines are alike, and none is done. -/
def Rel (ms : List MS) (rs : List RM) (k : Nat) : Prop := ∀ (i : Nat) (m : MS) (r : RM), ms[i]? = some m → rs[i]? = some r → Rl m r.at_ r.own r.last ∧ r.done = false ∧ r.at_ ≤ (k : Int)
theorem Rel.set {ms : List MS} {rs : List RM} {k ix : Nat} (h : Rel ms rs k) {m : MS} {r : RM} (hm : Rl m r.at_ r.own r.last ∧ r.done = false ∧ r.at_ ≤ (k : Int) + 1) : Rel (ms.set ix m) (rs.set ix r) (k + 1) := by
  intro i m1 r1 h1 h2
  by_cases e : ix = i
  · subst e
    rw [List.getElem?_set] at h1 h2
    simp only [if_true] at h1 h2
    split at h1
    · cases h1
      split at h2
      · cases h2; exact ⟨hm.1, hm.2.1, by have := hm.2.2; omega⟩
      · cases h2
    · cases h1
  · rw [List.getElem?_set_ne e] at h1 h2
    obtain ⟨a, b, c⟩ := h i m1 r1 h1 h2
    exact ⟨a, b, by omega⟩
/-- The reference's bank behind a step: as it was, or newly laid. -/
structure RG (gm gb mb sb : Nat) (W : World) (g cap : Nat) (xs : List Int) : Prop where
  rb : RB W g cap xs
  fr : g = gm ∨ (¬ g = gb ∧ ¬ g = mb ∧ ¬ g = sb)
theorem RG.kept {gm gb mb sb g cap : Nat} {W W' : World} {xs : List Int} (h : RG gm gb mb sb W g cap xs) (hk : Kept W W') : RG gm gb mb sb W' g cap xs := ⟨h.rb.kept hk, h.fr⟩
theorem RG.upd {gm gb mb sb g cap : Nat} {W W' : World} {xs : List Int} (h : RG gm gb mb sb W g cap xs) (hU : Upd (fun k => k = sb) W W') (h1 : ¬ gm = sb) : RG gm gb mb sb W' g cap xs := ⟨h.rb.upd hU (fun e => by have := h.fr; omega), h.fr⟩
/-- What BarrierTells holds: the program's bank and machines, the reference's. -/
structure TS (w : World) (pb bb g mb sb gm cap n s : Nat) (L : List Int) (ms : List MS) (rs : List RM) (c q cm qm : Int) (W : World) : Prop where
  box : Blk W pb #[.int .i64 2, .int .i64 1, .int .i64 (n : Int), .int .i64 2, .int .i64 0, .int .i64 1, .int .i64 3, .int .i64 5, .int .i64 7, .int .i64 8, .int .i64 9, .int .i64 10, .int .i64 11, .int .i64 (s : Int)] 28
  bank : Bnk W bb g (bq L c q)
  mach : Mach W mb n s ms
  refs : Rows W sb 4 49 (rrows rs)
  mem : RB W gm cap (bq L cm qm)
  kp : Kept w W
  len : L.length = s
  n1 : w.heap.size ≤ g ∧ w.heap.size ≤ mb ∧ w.heap.size ≤ sb
  n2 : ¬ pb = g ∧ ¬ pb = mb ∧ ¬ pb = sb
  n3 : ¬ bb = mb ∧ ¬ bb = sb ∧ ¬ g = mb ∧ ¬ g = sb ∧ ¬ mb = sb
  n4 : ¬ gm = g ∧ ¬ gm = mb ∧ ¬ gm = sb
section
variable {w W W' : World} {pb bb g mb sb gm cap n s : Nat} {L : List Int} {ms : List MS} {rs : List RM} {c q cm qm : Int}
theorem TS.kept (h : TS w pb bb g mb sb gm cap n s L ms rs c q cm qm W) (hk : Kept W W') : TS w pb bb g mb sb gm cap n s L ms rs c q cm qm W' := ⟨h.box.kept hk, h.bank.kept hk, h.mach.kept hk, h.refs.kept hk, h.mem.kept hk, h.kp.trans hk, h.len, h.n1, h.n2, h.n3, h.n4⟩
theorem TS.setmem (h : TS w pb bb g mb sb gm cap n s L ms rs c q cm qm W) {gn cn : Nat} {c' q' : Int} (hr : RG gm g mb sb W gn cn (bq L c' q')) : TS w pb bb g mb sb gn cn n s L ms rs c q c' q' W := by
  refine ⟨h.box, h.bank, h.mach, h.refs, hr.rb, h.kp, h.len, h.n1, h.n2, h.n3, ?_⟩
  rcases hr.fr with rfl | hg
  · exact h.n4
  · exact hg
theorem TS.made (h : TS w pb bb g mb sb gm cap n s L ms rs c q cm qm W) {gn cn : Nat} {ys : List Int} (hr : RB W' gn cn ys) (hg : gn = gm ∨ W.heap.size ≤ gn) : RG gm g mb sb W' gn cn ys := by
  refine ⟨hr, ?_⟩
  have h1 := h.bank.row.lt
  have h2 := h.mach.lt
  have h3 := h.refs.blk.lt
  rcases hg with e | e
  · exact .inl e
  · exact .inr (by omega)
/-- The reference's memory, anew. -/
theorem TS.newmem (h : TS w pb bb g mb sb gm cap n s L ms rs c q cm qm W) (hk : Kept W W') {gn cn : Nat} {c' q' : Int} (hr : RB W' gn cn (bq L c' q')) (hg : gn = gm ∨ W.heap.size ≤ gn) : TS w pb bb g mb sb gn cn n s L ms rs c q c' q' W' := by
  refine ⟨h.box.kept hk, h.bank.kept hk, h.mach.kept hk, h.refs.kept hk, hr, h.kp.trans hk, h.len, h.n1, h.n2, h.n3, ?_⟩
  rcases hg with rfl | hg
  · exact h.n4
  · have h1 := h.bank.row.lt
    have h2 := h.mach.lt
    have h3 := h.refs.blk.lt
    omega
theorem TS.setref (h : TS w pb bb g mb sb gm cap n s L ms rs c q cm qm W) {i : Nat} {r : RM} (hR : Rows W' sb 4 49 ((rrows rs).set i (rcell r))) (hU : Upd (fun k => k = sb) W W') : TS w pb bb g mb sb gm cap n s L ms (rs.set i r) c q cm qm W' := by
  have h1 := h.n1
  have h2 := h.n2
  have h3 := h.n3
  have h4 := h.n4
  rw [rrows_set] at hR
  exact ⟨h.box.upd hU (fun e => by omega), h.bank.upd hU (fun e => by omega) (fun e => by omega), h.mach.upd hU (fun e => by omega), hR, h.mem.upd hU (fun e => by omega), h.kp.then hU (fun i hi e => by omega), h.len, h1, h2, h3, h4⟩
theorem TS.setmach (h : TS w pb bb g mb sb gm cap n s L ms rs c q cm qm W) {ms' : List MS} (hM : Mach W' mb n s ms') (hU : Upd (fun k => k = mb) W W') : TS w pb bb g mb sb gm cap n s L ms' rs c q cm qm W' := by
  have h1 := h.n1
  have h2 := h.n2
  have h3 := h.n3
  have h4 := h.n4
  exact ⟨h.box.upd hU (fun e => by omega), h.bank.upd hU (fun e => by omega) (fun e => by omega), hM, h.refs.upd hU (fun e => by omega), h.mem.upd hU (fun e => by omega), h.kp.then hU (fun i hi e => by omega), h.len, h1, h2, h3, h4⟩
theorem TS.stepped (h : TS w pb bb g mb sb gm cap n s L ms rs c q cm qm W) {ms' : List MS} {c' q' : Int} {z : Bool} {e : Ending} (hs : Stp mb bb g n s ms' (bq L c' q') z W e W') : TS w pb bb g mb sb gm cap n s L ms' rs c' q' cm qm W' := by
  obtain ⟨_, hM, hB, hU⟩ := hs
  have h1 := h.n1
  have h2 := h.n2
  have h3 := h.n3
  have h4 := h.n4
  exact ⟨h.box.upd hU (fun e => by omega), hB, hM, h.refs.upd hU (fun e => by omega), h.mem.upd hU (fun e => by omega), h.kp.then hU (fun i hi e => by omega), h.len, h1, h2, h3, h4⟩
end
end Go.Proofs.Ytghlpapljjcaeaa
