/- container/heap upon repair's queue: Less, Push, Pop. (printed by gen_heap2.py) -/
import Derived.Test.YticeionjlknlcaaPush
import Derived.Test.YticeionjlknlcaaHeap
namespace Go.Proofs.Yticeionjlknlcaa
set_option linter.unusedVariables false
open Go.RowKit

theorem run_append_fresh {P : Program} {W : World} (base : Nat) (t ty e : TypeId) (i : TypeInfo) (z : Value) (size bytes : Nat) (ht : P.underlying t = some (.slice e)) (hi : P.info? e = some i) (hz : i.zero = some z)
    (hsize : i.size = size) (hby : i.bytes = bytes) (hzs : z.cells.size = size) (hsz : 0 < size)
    (v : Value) (n : Nat) (xs : List Value) (hown : W.ownsRow base e size v n xs)
    (ad : Addr) (m c : Nat) (news : List Value) (hl : news.length = m * size) (hnews : ∀ j u, news[j]? = some u → W.cell? (ad.add j) = some u) (h1 : ∀ u ∈ news, u.oneCell' = true)
    (hm : 0 < n + m) (h63 : n + m ≤ maxLen) (hbytes : (n + m) * bytes ≤ 140737488355328) (hbase : base ≤ W.heap.size) :
    ∃ g cap w', (Builtin.append_ #[t, t] ty #[v, .slice (some ad) m c]).run P W = .ok (.slice (some ⟨g, 0, none⟩) (n + m) cap) w' ∧
      w'.ownsRow base e size (.slice (some ⟨g, 0, none⟩) (n + m) cap) (n + m) (xs ++ news) ∧ W.grownBy w' v.ownBlock ∧ (v.ownBlock = some g ∨ W.heap.size ≤ g) := by
  have key : ∀ b', W.ownsRow b' e size v n xs → b' ≤ W.heap.size → ∃ v' w', (Builtin.append_ #[t, t] ty #[v, .slice (some ad) m c]).run P W = .ok v' w' ∧ w'.ownsRow b' e size v' (n + m) (xs ++ news) ∧ W.grownBy w' v.ownBlock := by
    intro b' ho hb'
    obtain ⟨v', w', hr, h2, h3, _⟩ := run_append_own (P := P) W b' t ty e i z size bytes ht hi hz hsize hby hzs hsz v n xs ho ad m c news hl hnews h1 h63 hbytes hb'
    exact ⟨v', w', hr, h2, h3⟩
  obtain ⟨v', w', hr, h2, h3⟩ := key base hown hbase
  obtain ⟨g, cap, rfl, _⟩ := h2.form hm
  refine ⟨g, cap, w', hr, h2, h3, ?_⟩
  rcases hown.2 with ⟨rfl, rfl⟩ | ⟨g0, cap0, cur0, rfl, hb0, hg0, hnc, hcm, hcs, htake⟩
  · right
    have hx : xs = [] := List.eq_nil_of_length_eq_zero (by simpa using hown.1)
    subst hx
    obtain ⟨v2, w2, hr2, h22, _⟩ := key W.heap.size (World.ownsRow_nil _ _ _ _) (Nat.le_refl _)
    rw [hr] at hr2
    cases hr2
    exact (World.ownsRow.lt h22 g rfl).1
  · by_cases hroom : n + m ≤ cap0
    · left
      have hr2 := run_append_room (P := P) W t ty e i ht hi g0 n cap0 cur0 hg0 ad m c news (by rw [hsize]; exact hl) hnews h1 hroom (by
        rw [hsize, hcs, hl, ← Nat.add_mul]
        exact Nat.mul_le_mul_right _ hroom)
      rw [hr] at hr2
      cases hr2
      rfl
    · right
      have holds : ∀ j x, xs[j]? = some x → W.cell? ((⟨g0, 0, none⟩ : Addr).add j) = some x := hown.cells (g := g0) rfl
      have h63' : ((n + m : Nat) : Int) ≤ 9223372036854775807 := by unfold maxLen at h63; omega
      have hr2 := run_append_grow (P := P) W t ty e i z ht hi hz ⟨g0, 0, none⟩ n cap0 xs (by rw [hsize]; exact hown.1) holds ad m c news (by rw [hsize]; exact hl) hnews (by omega) h63' (growslice_fits (by omega) (by rw [hby]; exact hbytes))
      rw [hr] at hr2
      cases hr2
      exact Nat.le_refl _
/-- .. at the operation. -/
theorem wp_append_fresh {P : Program} {w : World} {o : Oper} {a : Act} {K : Act → World → Prop} {Q : Exit → Act → World → Prop} (s x : Operand) (t : TypeId)
    (ho : o.op = .call { callee := .builtin .append, args := #[s, x], argTypes := #[t, t] })
    (base : Nat) (e : TypeId) (i : TypeInfo) (z : Value) (size bytes : Nat) (ht : P.underlying t = some (.slice e)) (hi : P.info? e = some i) (hz : i.zero = some z)
    (hsize : i.size = size) (hby : i.bytes = bytes) (hzs : z.cells.size = size) (hsz : 0 < size)
    (v : Value) (n : Nat) (xs : List Value) (hs : a.eval s = v) (hown : w.ownsRow base e size v n xs)
    (ad : Addr) (m c : Nat) (news : List Value) (hx : a.eval x = .slice (some ad) m c) (hl : news.length = m * size) (hnews : ∀ j u, news[j]? = some u → w.cell? (ad.add j) = some u) (h1 : ∀ u ∈ news, u.oneCell' = true)
    (tot : Nat) (htot : n + m = tot) (hm : 0 < tot) (h63 : tot ≤ maxLen) (hbytes : tot * bytes ≤ 140737488355328) (hbase : base ≤ w.heap.size)
    (h : ∀ g cap w', w'.ownsRow base e size (.slice (some ⟨g, 0, none⟩) tot cap) tot (xs ++ news) → w.grownBy w' v.ownBlock → (v.ownBlock = some g ∨ w.heap.size ≤ g) → K (a.put o.dst (.slice (some ⟨g, 0, none⟩) tot cap)) w') :
    Oper.wp P o a w K Q := by
  subst htot
  obtain ⟨g, cap, w', hr, h2, h3, h4⟩ := run_append_fresh (P := P) (W := w) base t o.type e i z size bytes ht hi hz hsize hby hzs hsz v n xs hown ad m c news hl hnews h1 hm h63 hbytes hbase
  unfold Oper.wp execOp
  simp only [ho, resolve, invoke, builtin, Sem.run_bind, Sem.run_pure, Result.andThen_ok, List.map_toArray, List.map_cons, List.map_nil, hs, hx, hr]
  exact h g cap w' h2 h3 h4
end Go.Proofs.Yticeionjlknlcaa
namespace Go.Proofs.Yticeionjlknlcaa
set_option linter.unusedVariables false
set_option linter.unusedSimpArgs false
open Go.RowKit
attribute [local go_sem] cell?_ext

/-- It tells something, and changes nothing. -/
def SomeBool (w : World) (e : Ending) (w' : World) : Prop := ∃ z, e = .returned (.bool z) ∧ Kept w w'
set_option maxRecDepth 100000 in
theorem less_any {w : World} {B k g cap : Nat} {xs : List (Int × Int)} (h : w.ownsRow B 78 2 (.slice (some ⟨g, 0, none⟩) k cap) k (spcs xs)) (i j : Nat) (hi : i < k) (hj : j < k) (hk : k ≤ 1000000) :
    Calls Try.prog 116 #[.slice (some ⟨g, 0, none⟩) k cap, .int .i64 i, .int .i64 j] w (SomeBool w) := by
  obtain ⟨ls, hR, hl, hback⟩ := own_rows h
  obtain ⟨x, hx⟩ : ∃ x, xs[i]? = some x := ⟨_, List.getElem?_eq_getElem (by omega)⟩
  obtain ⟨y, hy⟩ : ∃ y, xs[j]? = some y := ⟨_, List.getElem?_eq_getElem (by omega)⟩
  have d0 : w.cell? ⟨g, i * 2, none⟩ = some (.int .i64 x.1) := by have := hR.cell (i := i) (o := i * 2) (row_at hx) rfl 0 (by omega); simpa [spc] using this
  have d1 : w.cell? ⟨g, j * 2, none⟩ = some (.int .i64 y.1) := by have := hR.cell (i := j) (o := j * 2) (row_at hy) rfl 0 (by omega); simpa [spc] using this
  have i1 : (i : Int) < (k : Int) := by omega
  have j1 : (j : Int) < (k : Int) := by omega
  have i0 : (0 : Int) ≤ (i : Int) := by omega
  have j0 : (0 : Int) ≤ (j : Int) := by omega
  generalize x.1 = a at d0
  generalize y.1 = b at d1
  clear hR hback hx hy hl h
  go_enter Try.func116, Try.ntmps116
  go_upto_region 1 with (fail)
  refine wp_region_kept (by kernel_rfl) (by kernel_rfl) ?_
  repeat (go_big_quiet_step (fail))
  refine wpQuiet_nil ?_
  intro w1 hk1
  go_wp2_with fail
  go_returns
  exact ⟨_, rfl, hk1⟩

theorem infoSpot : (Try.prog.info? 78).map (fun i => (i.zero, i.size, i.bytes)) = some (some (.agg #[.int .i64 0, .int .i64 0]), 2, 16) := by kernel_rfl
theorem fill_one2 (cells0 mc : Array Value) (h0 : cells0.size = 2) (hm : mc.size = 2) : Instr.fill (fun i => some (i * 2, 2)) cells0 [(0, .agg mc)] = some mc := by
  have := Go.Great.fill_whole (s := 2) (by omega) [.agg mc] cells0 (by simp [Value.cells, hm]) (by simp [h0])
  simpa [Value.cells] using this
theorem blk_news {w : World} {b : Nat} {vs : List Value} {T : TypeId} (h : Blk w b vs.toArray T) : ∀ (j : Nat) (u : Value), vs[j]? = some u → w.cell? ((⟨b, 0, none⟩ : Addr).add j) = some u := by
  intro j u hu
  rw [Addr.add_lit, Nat.zero_add, h.cell]
  simpa using hu
theorem spcs_push (xs : List (Int × Int)) (x : Int × Int) : spcs (xs ++ [x]) = spcs xs ++ [.int .i64 x.1, .int .i64 x.2] := by simp [spcs, spc]
/-- Ahead of the append. -/
def PE (w : World) (qb base : Nat) (a : Option Addr) (n c : Nat) (xs : List (Int × Int)) (W : World) : Prop :=
  W.cell? ⟨qb, 0, none⟩ = some (.slice a n c) ∧ W.ownsRow base 78 2 (.slice a n c) n (spcs xs) ∧ (Kept w W ∧ Blk W qb #[.slice a n c] 75 ∧ n = xs.length ∧ qb < base) ∧ base ≤ W.heap.size
/-- The region's state: built, appended, stored. -/
def PR (w : World) (qb base : Nat) (a : Option Addr) (n c : Nat) (xs : List (Int × Int)) (x1 x2 : Int) (b7 b8 b11 : Bool) (v11 v12 : Value) (W : World) : Prop :=
  (b7 = false ∧ b8 = false ∧ b11 = false ∧ PE w qb base a n c xs W) ∨
  (b7 = true ∧ b8 = false ∧ b11 = false ∧ PE w qb base a n c xs W ∧ ∃ bk, v11 = .slice (some ⟨bk, 0, none⟩) 1 1 ∧ Blk W bk #[.int .i64 x1, .int .i64 x2] 78) ∨
  (b7 = true ∧ b8 = true ∧ b11 = false ∧ ∃ g4 cap4, v12 = .slice (some ⟨g4, 0, none⟩) (n + 1) cap4 ∧ Blk W qb #[.slice a n c] 75 ∧ QF (W.setCell ⟨qb, 0, none⟩ v12) qb base v12 (xs ++ [(x1, x2)]) ∧ QS qb (.slice a n c) v12 w (W.setCell ⟨qb, 0, none⟩ v12)) ∨
  (b7 = true ∧ b8 = true ∧ b11 = true ∧ ∃ g4 cap4, v12 = .slice (some ⟨g4, 0, none⟩) (n + 1) cap4 ∧ QF W qb base v12 (xs ++ [(x1, x2)]) ∧ QS qb (.slice a n c) v12 w W)
section
variable {w : World} {qb base : Nat} {a : Option Addr} {n c : Nat} {xs : List (Int × Int)} {x1 x2 : Int} {b7 b8 b11 : Bool} {v11 v12 : Value} {W W' : World}
theorem PE.kept (h : PE w qb base a n c xs W) (k : Kept W W') : PE w qb base a n c xs W' := by
  obtain ⟨h1, h2, ⟨h3, h4, h5, h6⟩, h7⟩ := h
  exact ⟨(keptCells k _ (by rw [h1]; rfl)).trans h1, ownsRow_upd h2 k (fun _ _ f => f), ⟨h3.trans k, h4.kept k, h5, h6⟩, Nat.le_trans h7 k.size⟩
theorem PR.kept (h : PR w qb base a n c xs x1 x2 b7 false b11 v11 v12 W) (k : Kept W W') : PR w qb base a n c xs x1 x2 b7 false b11 v11 v12 W' := by
  rcases h with ⟨h1, h2, h3, h⟩ | ⟨h1, h2, h3, h, bk, h4, h5⟩ | ⟨-, h, -⟩ | ⟨-, h, -⟩
  · exact .inl ⟨h1, h2, h3, h.kept k⟩
  · exact .inr (.inl ⟨h1, h2, h3, h.kept k, bk, h4, h5.kept k⟩)
  · cases h
  · cases h
theorem PR.early (h : PR w qb base a n c xs x1 x2 b7 false b11 v11 v12 W) : PE w qb base a n c xs W := by
  rcases h with ⟨h1, h2, h3, h⟩ | ⟨h1, h2, h3, h, -⟩ | ⟨-, h, -⟩ | ⟨-, h, -⟩
  · exact h
  · exact h
  · cases h
  · cases h
theorem PR.built (h : PR w qb base a n c xs x1 x2 b7 b8 b11 v11 v12 W) (e7 : b7 = false) : PR w qb base a n c xs x1 x2 true b8 b11 (.slice (some ⟨W.heap.size, 0, none⟩) 1 1) v12 (W.alloc (.cells #[.int .i64 x1, .int .i64 x2] 78)) := by
  rcases h with ⟨h1, h2, h3, h⟩ | ⟨h, -⟩ | ⟨h, -⟩ | ⟨h, -⟩
  · exact .inr (.inl ⟨rfl, h2, h3, h.kept ((Upd.refl _ _).alloc _), _, rfl, Blk.new _ _ _⟩)
  · rw [e7] at h; cases h
  · rw [e7] at h; cases h
  · rw [e7] at h; cases h
theorem PR.mid (h : PR w qb base a n c xs x1 x2 b7 b8 b11 v11 v12 W) (e7 : b7 = true) (e8 : b8 = false) : b11 = false ∧ PE w qb base a n c xs W ∧ ∃ bk, v11 = .slice (some ⟨bk, 0, none⟩) 1 1 ∧ Blk W bk #[.int .i64 x1, .int .i64 x2] 78 := by
  rcases h with ⟨h, -⟩ | ⟨h1, h2, h3, h⟩ | ⟨-, h, -⟩ | ⟨-, h, -⟩
  · rw [e7] at h; cases h
  · exact ⟨h3, h⟩
  · rw [e8] at h; cases h
  · rw [e8] at h; cases h
theorem PR.appended {w4 : World} {g4 cap4 : Nat} (h0 : PR w qb base a n c xs x1 x2 b7 b8 b11 v11 v12 W) (e7 : b7 = true) (e8 : b8 = false) (e11 : b11 = false) (hg : W.grownBy w4 (Value.slice a n c).ownBlock)
    (ho : w4.ownsRow base 78 2 (.slice (some ⟨g4, 0, none⟩) (n + 1) cap4) (n + 1) (spcs xs ++ [.int .i64 x1, .int .i64 x2])) (hnw : (Value.slice a n c).ownBlock = some g4 ∨ W.heap.size ≤ g4) : PR w qb base a n c xs x1 x2 b7 true b11 v11 (.slice (some ⟨g4, 0, none⟩) (n + 1) cap4) w4 := by
  obtain ⟨-, ⟨h1, h2, ⟨h3, h4, h5, h6⟩, h7⟩, -⟩ := h0.mid e7 e8
  have hU : Upd (fun k => (Value.slice a n c).ownBlock = some k) W w4 := Upd.grown (Upd.refl _ _) hg (fun k hk => .inl hk)
  have hnq : ¬ (Value.slice a n c).ownBlock = some qb := fun e => by have := (World.ownsRow.lt h2 qb e).1; omega
  have hb : Blk w4 qb #[.slice a n c] 75 := h4.upd hU hnq
  have hV : Upd (fun k => k = qb) w4 (w4.setCell ⟨qb, 0, none⟩ (.slice (some ⟨g4, 0, none⟩) (n + 1) cap4)) := Upd.setCell (S := fun k => k = qb) (p := ⟨qb, 0, none⟩) (Upd.refl _ _) (.inl rfl) _
  refine .inr (.inr (.inl ⟨e7, rfl, e11, g4, cap4, rfl, hb, ⟨?_, ?_, h6, Nat.le_trans h7 (Nat.le_trans hU.size hV.size)⟩, ⟨?_, ?_⟩⟩))
  · have := hb.set 0 (.slice (some ⟨g4, 0, none⟩) (n + 1) cap4)
    simpa using this
  · rw [spcs_push, List.length_append, ← h5]
    exact ownsRow_upd ho hV (fun k hk e => by omega)
  · exact ((h3.wide (S' := fun k => k = qb ∨ (Value.slice a n c).ownBlock = some k) fun _ _ f => f.elim).then hU (fun i _ e => .inr e)).then hV (fun i _ e => .inl e)
  · intro k hk
    cases hk
    rcases hnw with h8 | h8
    · exact .inl h8
    · exact .inr (Nat.le_trans h3.size h8)
theorem PR.late (h : PR w qb base a n c xs x1 x2 b7 b8 b11 v11 v12 W) (e8 : b8 = true) (e11 : b11 = false) : ∃ g4 cap4, v12 = .slice (some ⟨g4, 0, none⟩) (n + 1) cap4 ∧ Blk W qb #[.slice a n c] 75 ∧ PR w qb base a n c xs x1 x2 b7 b8 true v11 v12 (W.setCell ⟨qb, 0, none⟩ v12) := by
  rcases h with ⟨-, h, -⟩ | ⟨-, h, -⟩ | ⟨h1, h2, h3, g4, cap4, h4, h5, h6, h7⟩ | ⟨-, -, h, -⟩
  · rw [e8] at h; cases h
  · rw [e8] at h; cases h
  · exact ⟨g4, cap4, h4, h5, .inr (.inr (.inr ⟨h1, h2, rfl, g4, cap4, h4, h6, h7⟩))⟩
  · rw [e11] at h; cases h
theorem PR.fin (h : PR w qb base a n c xs x1 x2 b7 b8 true v11 v12 W) : ∃ g4 cap4, v12 = .slice (some ⟨g4, 0, none⟩) (n + 1) cap4 ∧ QF W qb base v12 (xs ++ [(x1, x2)]) ∧ QS qb (.slice a n c) v12 w W := by
  rcases h with ⟨-, -, h, -⟩ | ⟨-, -, h, -⟩ | ⟨-, -, h, -⟩ | ⟨-, -, -, h⟩
  · cases h
  · cases h
  · cases h
  · exact h
end
set_option maxRecDepth 100000 in
set_option maxHeartbeats 8000000 in
theorem qpush_any {w : World} {qb base : Nat} {a : Option Addr} {n c : Nat} {xs : List (Int × Int)} (h : QF w qb base (.slice a n c) xs) (hn : n = xs.length) (x1 x2 : Int) (hk : n ≤ 1000000) :
    Calls Try.prog 118 #[.pointer (some ⟨qb, 0, none⟩), .iface 78 (.agg #[.int .i64 x1, .int .i64 x2])] w fun e w' => e = .returned (.tuple #[]) ∧ ∃ v', QF w' qb base v' (xs ++ [(x1, x2)]) ∧ QS qb (.slice a n c) v' w w' := by
  have HQ0 : ∀ v11 v12, Hid (PR w qb base a n c xs x1 x2 false false false v11 v12 w) := fun v11 v12 => Lib.hid (.inl ⟨rfl, rfl, rfl, h.cell, by subst hn; exact h.row, ⟨Upd.refl _ _, h.box, hn, h.lo⟩, h.up⟩)
  have HQ0 := HQ0 undef undef
  obtain ⟨j1, hi9, hz0, hz1, hz2⟩ := info_parts infoSpot
  clear h hn
  go_enter Try.func118, Try.ntmps118
  go_upto_region 0 with (fail)
  refine wp_region_inv (fun l us W => ∃ (b0 b1 b2 b3 b4 b5 b6 b7 b8 b9 b10 b11 : Bool) (v4 v5 v6 v7 v8 v9 v10 v11 v12 v13 v14 : Value), l = #[b0, b1, b2, b3, b4, b5, b6, b7, b8, b9, b10, b11] ∧ us = [v4, v5, v6, v7, v8, v9, v10, v11, v12, v13, v14] ∧ Hid (PR w qb base a n c xs x1 x2 b7 b8 b11 v11 v12 W) ∧
      Hid (b0 = true → v4 = .pointer (some ⟨qb, 0, none⟩)) ∧
      Hid (b1 = true → v5 = .pointer (some ⟨qb, 0, none⟩)) ∧
      Hid (b2 = true → v6 = .pointer (some ⟨qb, 0, none⟩)) ∧
      Hid (b3 = true → v7 = .pointer (some ⟨qb, 0, none⟩)) ∧
      Hid (b4 = true → v8 = .slice a n c) ∧
      Hid (b5 = true → v9 = .iface 78 (.agg #[.int .i64 x1, .int .i64 x2])) ∧
      Hid (b6 = true → v10 = .agg #[.int .i64 x1, .int .i64 x2]) ∧
      Hid (b9 = true → v13 = .pointer (some ⟨qb, 0, none⟩)) ∧
      Hid (b10 = true → v14 = .pointer (some ⟨qb, 0, none⟩)) ∧
      Hid (b8 = true → b4 = true)) [4, 5, 6, 7, 8, 9, 10, 11, 12, 13, 14] [undef, undef, undef, undef, undef, undef, undef, undef, undef, undef, undef] (by kernel_rfl) (by kernel_rfl) (by simp only [putAll, Act.put, List.setIfInBounds_toArray, List.set_cons_zero, List.set_cons_succ]) ?_ ?_ ?_
  · exact ⟨false, false, false, false, false, false, false, false, false, false, false, false, _, _, _, _, _, _, _, _, _, _, _, rfl, rfl, Lib.hid (HQ0.out.kept (Upd.refl _ _).drew), Lib.hid (by simp), Lib.hid (by simp), Lib.hid (by simp), Lib.hid (by simp), Lib.hid (by simp), Lib.hid (by simp), Lib.hid (by simp), Lib.hid (by simp), Lib.hid (by simp), Lib.hid (by simp)⟩
  · rintro i l us W ⟨b0, b1, b2, b3, b4, b5, b6, b7, b8, b9, b10, b11, v4, v5, v6, v7, v8, v9, v10, v11, v12, v13, v14, rfl, rfl, hI, h0, h1, h2, h3, h4, h5, h6, h9, h10, x8⟩ hr
    have hi : i = 0 ∨ i = 1 ∨ i = 2 ∨ i = 3 ∨ i = 4 ∨ i = 5 ∨ i = 6 ∨ i = 7 ∨ i = 8 ∨ i = 9 ∨ i = 10 ∨ i = 11 := by
      have := ready_lt hr
      simp at this
      omega
    rcases hi with rfl | rfl | rfl | rfl | rfl | rfl | rfl | rfl | rfl | rfl | rfl | rfl
    · skip
      obtain ⟨hn, hd⟩ := ready_at hr rfl
      simp [Region.binds] at hn hd
      refine wpOp_step rfl (fun K' hK => ?_)
      simp only [putAll, Act.put, List.setIfInBounds_toArray, List.set_cons_zero, List.set_cons_succ]
      go_simp
      exact hK _ _ ⟨_, by simp only [putAll, Act.put, List.setIfInBounds_toArray, List.set_cons_zero, List.set_cons_succ], true, b1, b2, b3, b4, b5, b6, b7, b8, b9, b10, b11, _, _, _, _, _, _, _, _, _, _, _, rfl, rfl, hI, Lib.hid (fun _ => rfl), h1, h2, h3, h4, h5, h6, h9, h10, x8⟩
    · skip
      obtain ⟨hn, hd⟩ := ready_at hr rfl
      simp [Region.binds] at hn hd
      refine wpOp_step rfl (fun K' hK => ?_)
      simp only [putAll, Act.put, List.setIfInBounds_toArray, List.set_cons_zero, List.set_cons_succ]
      go_simp
      exact hK _ _ ⟨_, by simp only [putAll, Act.put, List.setIfInBounds_toArray, List.set_cons_zero, List.set_cons_succ], b0, true, b2, b3, b4, b5, b6, b7, b8, b9, b10, b11, _, _, _, _, _, _, _, _, _, _, _, rfl, rfl, hI, h0, Lib.hid (fun _ => rfl), h2, h3, h4, h5, h6, h9, h10, x8⟩
    · skip
      obtain ⟨hn, hd⟩ := ready_at hr rfl
      simp [Region.binds] at hn hd
      obtain rfl := h1.out (by simp [hd])
      refine wpOp_step rfl (fun K' hK => ?_)
      simp only [putAll, Act.put, List.setIfInBounds_toArray, List.set_cons_zero, List.set_cons_succ]
      go_simp
      exact hK _ _ ⟨_, by simp only [putAll, Act.put, List.setIfInBounds_toArray, List.set_cons_zero, List.set_cons_succ], b0, b1, true, b3, b4, b5, b6, b7, b8, b9, b10, b11, _, _, _, _, _, _, _, _, _, _, _, rfl, rfl, hI, h0, h1, Lib.hid (fun _ => rfl), h3, h4, h5, h6, h9, h10, x8⟩
    · skip
      obtain ⟨hn, hd⟩ := ready_at hr rfl
      simp [Region.binds] at hn hd
      obtain rfl := h2.out (by simp [hd])
      refine wpOp_step rfl (fun K' hK => ?_)
      simp only [putAll, Act.put, List.setIfInBounds_toArray, List.set_cons_zero, List.set_cons_succ]
      go_simp
      exact hK _ _ ⟨_, by simp only [putAll, Act.put, List.setIfInBounds_toArray, List.set_cons_zero, List.set_cons_succ], b0, b1, b2, true, b4, b5, b6, b7, b8, b9, b10, b11, _, _, _, _, _, _, _, _, _, _, _, rfl, rfl, hI, h0, h1, h2, Lib.hid (fun _ => rfl), h4, h5, h6, h9, h10, x8⟩
    · skip
      obtain ⟨hn, hd⟩ := ready_at hr rfl
      simp [Region.binds] at hn hd
      obtain rfl := h3.out (by simp [hd])
      have hb8 : b8 = false := by cases b8 with | false => rfl | true => (have := x8.out rfl; rw [hn] at this; cases this)
      subst hb8
      have hc : W.cell? ⟨qb, 0, none⟩ = some (.slice a n c) := hI.out.early.1
      refine wpOp_step rfl (fun K' hK => ?_)
      simp only [putAll, Act.put, List.setIfInBounds_toArray, List.set_cons_zero, List.set_cons_succ]
      go_simp
      exact hK _ _ ⟨_, by simp only [putAll, Act.put, List.setIfInBounds_toArray, List.set_cons_zero, List.set_cons_succ], b0, b1, b2, b3, true, b5, b6, b7, false, b9, b10, b11, _, _, _, _, _, _, _, _, _, _, _, rfl, rfl, hI, h0, h1, h2, h3, Lib.hid (fun _ => rfl), h5, h6, h9, h10, Lib.hid (fun h => (by cases h))⟩
    · skip
      obtain ⟨hn, hd⟩ := ready_at hr rfl
      simp [Region.binds] at hn hd
      refine wpOp_step rfl (fun K' hK => ?_)
      simp only [putAll, Act.put, List.setIfInBounds_toArray, List.set_cons_zero, List.set_cons_succ]
      go_simp
      exact hK _ _ ⟨_, by simp only [putAll, Act.put, List.setIfInBounds_toArray, List.set_cons_zero, List.set_cons_succ], b0, b1, b2, b3, b4, true, b6, b7, b8, b9, b10, b11, _, _, _, _, _, _, _, _, _, _, _, rfl, rfl, hI, h0, h1, h2, h3, h4, Lib.hid (fun _ => rfl), h6, h9, h10, x8⟩
    · skip
      obtain ⟨hn, hd⟩ := ready_at hr rfl
      simp [Region.binds] at hn hd
      obtain rfl := h5.out (by simp [hd])
      refine wpOp_step rfl (fun K' hK => ?_)
      simp only [putAll, Act.put, List.setIfInBounds_toArray, List.set_cons_zero, List.set_cons_succ]
      go_simp
      exact hK _ _ ⟨_, by simp only [putAll, Act.put, List.setIfInBounds_toArray, List.set_cons_zero, List.set_cons_succ, Bool.false_eq_true, if_false], b0, b1, b2, b3, b4, b5, true, b7, b8, b9, b10, b11, _, _, _, _, _, _, _, _, _, _, _, rfl, rfl, hI, h0, h1, h2, h3, h4, h5, Lib.hid (fun _ => rfl), h9, h10, x8⟩
    · skip
      obtain ⟨hn, hd⟩ := ready_at hr rfl
      simp [Region.binds] at hn hd
      obtain rfl := h6.out (by simp [hd])
      refine wpOp_step rfl (fun K' hK => ?_)
      simp only [putAll, Act.put, List.setIfInBounds_toArray, List.set_cons_zero, List.set_cons_succ]
      refine wp_buildSlice 73 78 1 #[(0, .tmp 10)] rfl #[.int .i64 x1, .int .i64 x2] j1 (.agg #[.int .i64 0, .int .i64 0]) Try.underlying73 hi9 hz0 (by rw [hz1]; decide) (by rw [hz1]; decide) ?_ ?_
      · rw [hz1]
        refine (congrArg _ ?_).trans (fill_one2 _ #[.int .i64 x1, .int .i64 x2] (by simp) rfl)
        simp [Act.eval]
      have hb := hI.out.built hn
      generalize (W.alloc _) = W2 at hb ⊢
      change K' (Act.put _ (some 11) _) W2
      exact hK _ _ ⟨_, by simp only [putAll, Act.put, List.setIfInBounds_toArray, List.set_cons_zero, List.set_cons_succ], b0, b1, b2, b3, b4, b5, b6, true, b8, b9, b10, b11, _, _, _, _, _, _, _, _, _, _, _, rfl, rfl, (Lib.hid hb), h0, h1, h2, h3, h4, h5, h6, h9, h10, x8⟩
    · skip
      obtain ⟨hn, hd⟩ := ready_at hr rfl
      simp [Region.binds] at hn hd
      obtain rfl := h4.out (by simp [hd])
      have e7 : b7 = true := (by simp [hd])
      obtain ⟨e11, hE, bk, rfl, hbk⟩ := hI.out.mid e7 hn
      refine wpOp_step rfl (fun K' hK => ?_)
      simp only [putAll, Act.put, List.setIfInBounds_toArray, List.set_cons_zero, List.set_cons_succ]
      refine wp_append_fresh (.tmp 8) (.tmp 11) 73 rfl base 78 j1 (.agg #[.int .i64 0, .int .i64 0]) 2 16 Try.underlying73 hi9 hz0 hz1 hz2 rfl (by decide) (.slice a n c) n (spcs xs) (by simp [Act.eval]) hE.2.1 ⟨bk, 0, none⟩ 1 1 [.int .i64 x1, .int .i64 x2] (by simp [Act.eval]) rfl (blk_news hbk) (by intro u hu; simp at hu; rcases hu with rfl | rfl <;> rfl) (n + 1) rfl (by omega) (by unfold maxLen; omega) (by omega) hE.2.2.2 ?_
      intro g4 cap4 w4 hown hgrow hnw
      change K' (Act.put _ (some 12) _) w4
      exact hK _ _ ⟨_, by simp only [putAll, Act.put, List.setIfInBounds_toArray, List.set_cons_zero, List.set_cons_succ], b0, b1, b2, b3, b4, b5, b6, b7, true, b9, b10, b11, _, _, _, _, _, _, _, _, _, _, _, rfl, rfl, (Lib.hid (hI.out.appended (v11 := .slice (some ⟨bk, 0, none⟩) 1 1) e7 hn e11 hgrow hown hnw)), h0, h1, h2, h3, h4, h5, h6, h9, h10, Lib.hid (fun _ => (by simp [hd]))⟩
    · skip
      obtain ⟨hn, hd⟩ := ready_at hr rfl
      simp [Region.binds] at hn hd
      obtain rfl := h0.out (by simp [hd])
      refine wpOp_step rfl (fun K' hK => ?_)
      simp only [putAll, Act.put, List.setIfInBounds_toArray, List.set_cons_zero, List.set_cons_succ]
      go_simp
      exact hK _ _ ⟨_, by simp only [putAll, Act.put, List.setIfInBounds_toArray, List.set_cons_zero, List.set_cons_succ], b0, b1, b2, b3, b4, b5, b6, b7, b8, true, b10, b11, _, _, _, _, _, _, _, _, _, _, _, rfl, rfl, hI, h0, h1, h2, h3, h4, h5, h6, Lib.hid (fun _ => rfl), h10, x8⟩
    · skip
      obtain ⟨hn, hd⟩ := ready_at hr rfl
      simp [Region.binds] at hn hd
      obtain rfl := h9.out (by simp [hd])
      refine wpOp_step rfl (fun K' hK => ?_)
      simp only [putAll, Act.put, List.setIfInBounds_toArray, List.set_cons_zero, List.set_cons_succ]
      go_simp
      exact hK _ _ ⟨_, by simp only [putAll, Act.put, List.setIfInBounds_toArray, List.set_cons_zero, List.set_cons_succ], b0, b1, b2, b3, b4, b5, b6, b7, b8, b9, true, b11, _, _, _, _, _, _, _, _, _, _, _, rfl, rfl, hI, h0, h1, h2, h3, h4, h5, h6, h9, Lib.hid (fun _ => rfl), x8⟩
    · skip
      obtain ⟨hn, hd⟩ := ready_at hr rfl
      simp [Region.binds] at hn hd
      obtain rfl := h10.out (by simp [hd])
      obtain ⟨g4, cap4, rfl, hL⟩ := hI.out.late (by simp [hd]) hn
      have hc : W.cell? ⟨qb, 0, none⟩ = some (.slice a n c) := by rw [hL.1.cell]; rfl
      have hf := hL.1.free 0
      refine wpOp_step (o := ⟨none, .store 73 (.tmp 14) (.tmp 12), 0, "repair.go:28", _, none⟩) rfl (fun K' hK => ?_)
      simp only [putAll, Act.put, List.setIfInBounds_toArray, List.set_cons_zero, List.set_cons_succ]
      go_simp
      exact hK _ _ ⟨_, by simp only [putAll, Act.put, List.setIfInBounds_toArray, List.set_cons_zero, List.set_cons_succ], b0, b1, b2, b3, b4, b5, b6, b7, b8, b9, b10, true, _, _, _, _, _, _, _, _, _, _, _, rfl, rfl, (Lib.hid hL.2), h0, h1, h2, h3, h4, h5, h6, h9, h10, x8⟩
  · rintro l us W ⟨b0, b1, b2, b3, b4, b5, b6, b7, b8, b9, b10, b11, v4, v5, v6, v7, v8, v9, v10, v11, v12, v13, v14, rfl, rfl, hI, h0, h1, h2, h3, h4, h5, h6, h9, h10, x8⟩ hall
    as_aux_lemma =>
    obtain rfl : b0 = true := by simpa using hall 0
    obtain rfl : b1 = true := by simpa using hall 1
    obtain rfl : b2 = true := by simpa using hall 2
    obtain rfl : b3 = true := by simpa using hall 3
    obtain rfl : b4 = true := by simpa using hall 4
    obtain rfl : b5 = true := by simpa using hall 5
    obtain rfl : b6 = true := by simpa using hall 6
    obtain rfl : b7 = true := by simpa using hall 7
    obtain rfl : b8 = true := by simpa using hall 8
    obtain rfl : b9 = true := by simpa using hall 9
    obtain rfl : b10 = true := by simpa using hall 10
    obtain rfl : b11 = true := by simpa using hall 11
    obtain rfl := h0.out rfl
    obtain rfl := h1.out rfl
    obtain rfl := h2.out rfl
    obtain rfl := h3.out rfl
    obtain rfl := h4.out rfl
    obtain rfl := h5.out rfl
    obtain rfl := h6.out rfl
    obtain rfl := h9.out rfl
    obtain rfl := h10.out rfl
    obtain ⟨g4, cap4, rfl, hQ, hS⟩ := hI.out.fin
    clear hI HQ0 x8 hall
    simp only [putAll, Act.put, List.setIfInBounds_toArray, List.set_cons_zero, List.set_cons_succ]
    go_wp2_with fail
    go_returns
    exact ⟨rfl, _, hQ, hS⟩
end Go.Proofs.Yticeionjlknlcaa
