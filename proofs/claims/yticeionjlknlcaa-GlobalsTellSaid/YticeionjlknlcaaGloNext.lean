/- (*globals.search).next. (printed by gen_glonext.py) -/
import Derived.Test.YticeionjlknlcaaPart
import Derived.Test.YticeionjlknlcaaChunk
import Derived.Test.YticeionjlknlcaaSortC
import Derived.OrdersIn
import Derived.Deep.RegionHeld3
namespace Go.Proofs.Yticeionjlknlcaa
set_option linter.unusedVariables false
set_option linter.unusedSimpArgs false
open Go.RowKit Go.Shelf
attribute [local go_sem] Oper.semAt_some

theorem Blk.newAtG (w : World) (arr : Array Value) (T : TypeId) (k : Nat) (h : k = w.heap.size) : Blk (w.alloc (.cells arr T)) k arr T := by subst h; exact Blk.new w arr T
theorem Chunk_any (rb ro rk rwc sz : Nat) (w : World) (h1 : 1 ≤ sz) :
    Calls Try.prog 67 #[.slice (some ⟨rb, ro, none⟩) rk rwc, .int .i64 (sz : Int)] w fun e w' => e = .returned (.func (.func 79) #[] #[.pointer (some ⟨w.heap.size, 0, none⟩), .pointer (some ⟨w.heap.size + 1, 0, none⟩)]) ∧
      w' = (w.alloc (.cells #[.slice (some ⟨rb, ro, none⟩) rk rwc] 26)).alloc (.cells #[.int .i64 (sz : Int)] 3) := by
  have h2 : ¬ ((sz : Int) < 1) := by omega
  go_enter Try.func67, Try.ntmps67
  go_wp2
  go_ret
  exact ⟨rfl, rfl⟩
theorem Rd.chunk {w : World} {b off : Nat} {row : List Nat} (h : Rd w (some ⟨b, off, none⟩) (nv row)) (x d : Nat) : Rd w (some ⟨b, off + x, none⟩) (nv ((row.drop x).take d)) := by
  rcases h with h | ⟨b', off', e, hc⟩
  · left
    have : row = [] := by simpa [nv] using h
    subst this
    simp [nv]
  · cases e
    refine .inr ⟨b, off + x, rfl, fun i u hu => ?_⟩
    rw [Nat.add_assoc]
    refine hc (x + i) u ?_
    unfold nv at hu ⊢
    rw [List.getElem?_map, List.getElem?_take] at hu
    split at hu
    · rw [List.getElem?_drop] at hu
      rw [List.getElem?_map]
      exact hu
    · cases hu
theorem boxes_t {Bs Bn : Nat} {A B C : World} (h : Boxes Bs Bn A B) (k : Boxes Bs Bn B C) : Boxes Bs Bn A C := ⟨k.1.trans h.1, k.2.trans h.2⟩
theorem boxes_b {Bs Bn : Nat} {w : World} (h1 : Bs < w.heap.size) (h2 : Bn < w.heap.size) (W : World) (l : Nat) (o o' : Obj) (hl : w.heap.size ≤ l) (h : W.heap[l]? = some o) (hc : o.isCells = false) (hk : o.isWalk = false) : Boxes Bs Bn W (W.putObj l o') := by
  have hb := belowK_b (n₀ := w.heap.size) (w := w) (Nat.le_refl _) W l o o' hl h hc hk
  exact ⟨hb.cell (p := ⟨Bs, 0, none⟩) h1, hb.cell (p := ⟨Bn, 0, none⟩) h2⟩
theorem chunk_stops (n : Nat) (hn : 1 ≤ n) (Bs Bn b off k c sz : Nat) (hsz : 1 ≤ sz) (hsz2 : sz ≤ 1000) (hk : k ≤ 1000) (hkc : k ≤ c) (w : World)
    (hBs : w.cell? ⟨Bs, 0, none⟩ = some (.slice (some ⟨b, off, none⟩) k c)) (hBn : w.cell? ⟨Bn, 0, none⟩ = some (.int .i64 (sz : Int))) :
    SeqStopsK Fence.wide n Try.prog 79 #[.pointer (some ⟨Bs, 0, none⟩), .pointer (some ⟨Bn, 0, none⟩)] (fun x : Nat => #[.slice (some ⟨b, off + x, none⟩) (chLen k sz x) (chLen k sz x)]) (Boxes Bs Bn) (fun ys => ∃ q, ys = upto (fun j => j * sz) q ∧ k ≤ q * sz ∧ q ≤ k) (fun _ => True) k w := fun l J Jx W hW hJ _ hY h0 => by
  have l1 := World.block_lt_of_cell? w _ hBs
  have l2 := World.block_lt_of_cell? w _ hBn
  refine (chunk1_in n hn l Bs Bn b off k c sz hsz hsz2 hk hkc J Jx (fun pre A B hj hk => hJ pre A B none hj ⟨hk.os, hk.tape, hk.output, hk.size, fun i hi _ => hk.block i hi (fun f => f)⟩ (fun r e => by cases e)) hY W ((hW.cell (p := ⟨Bs, 0, none⟩) l1).trans hBs) ((hW.cell (p := ⟨Bn, 0, none⟩) l2).trans hBn) h0).mono ?_
  rintro e W' ⟨hv, h | ⟨pre, h⟩⟩
  · exact ⟨hv, .inl h⟩
  · exact ⟨hv, .inr ⟨pre, trivial, h⟩⟩
theorem row_grown {A B : World} {row : Option Nat} {base size n : Nat} {e : TypeId} {v : Value} {xs : List Value} (h : A.ownsRow base e size v n xs) (hg : A.grownBy B row) (hr : ∀ r, row = some r → ∃ o : Obj, A.heap[r]? = some o ∧ o.isCells = false) : B.ownsRow base e size v n xs := by
  refine ⟨h.1, h.2.imp id fun x => ?_⟩
  obtain ⟨g, cap, cur, e1, h1, h2, r⟩ := x
  refine ⟨g, cap, cur, e1, h1, ?_, r⟩
  rw [hg.block g (Array.getElem?_eq_some_iff.1 h2).1 (fun e => by
    obtain ⟨o, ho, hc⟩ := hr g e.symm
    rw [h2] at ho
    cases ho
    cases hc)]
  exact h2
theorem blk_grown {A B : World} {row : Option Nat} {b : Nat} {arr : Array Value} {T : TypeId} (h : Blk A b arr T) (hg : A.grownBy B row) (hr : ∀ r, row = some r → ∃ o : Obj, A.heap[r]? = some o ∧ o.isCells = false) : Blk B b arr T := by
  refine (hg.block b h.lt (fun e => ?_)).trans h
  obtain ⟨o, ho, hc⟩ := hr b e.symm
  rw [show A.heap[b]? = some (.cells arr T (0, 0)) from h] at ho
  cases ho
  cases hc
/-- The rows found so far, in a box. -/
def AllI (B0 b1 : Nat) (LL : List (List Nat)) (W : World) : Prop := ∃ aa ac vs, Blk W b1 #[.slice aa LL.length ac] 106 ∧ W.ownsRow B0 26 1 (.slice aa LL.length ac) LL.length vs ∧ ∀ (j : Nat) (l : List Nat), LL[j]? = some l → ∃ u, vs[j]? = some u ∧ W.ownsRow B0 3 1 u l.length (nv l)
structure NI (W0 : World) (b1 : Nat) (f : Nat → List Nat) (pre : List Nat) (W : World) : Prop where
  all : AllI W0.heap.size b1 (pre.map f) W
  upd : Upd (fun k => k = b1) W0 W
theorem NI.grown {W0 : World} {b1 : Nat} {f : Nat → List Nat} {pre : List Nat} {A B : World} {row : Option Nat} (h : NI W0 b1 f pre A) (hg : A.grownBy B row) (hr : ∀ r, row = some r → W0.heap.size ≤ r ∧ ∃ o : Obj, A.heap[r]? = some o ∧ o.isCells = false) : NI W0 b1 f pre B := by
  obtain ⟨aa, ac, vs, h1, h2, h3⟩ := h.all
  have hr' : ∀ r, row = some r → ∃ o : Obj, A.heap[r]? = some o ∧ o.isCells = false := fun r e => (hr r e).2
  refine ⟨⟨aa, ac, vs, blk_grown h1 hg hr', row_grown h2 hg hr', fun j l hj => ?_⟩, h.upd.grown hg (fun k e => .inr (hr k e).1)⟩
  obtain ⟨u, e1, e2⟩ := h3 j l hj
  exact ⟨u, e1, row_grown e2 hg hr'⟩
theorem NI.start (W0 : World) (b1 : Nat) (f : Nat → List Nat) (h : Blk W0 b1 #[.slice none 0 0] 106) : NI W0 b1 f [] W0 :=
  ⟨⟨none, 0, [], h, World.ownsRow_nil _ _ _ _, fun j l hj => by simp at hj⟩, Upd.refl _ _⟩
/-- One thing, just made, is appended to a row of one's own, of elements of one cell. -/
theorem run_pushw {P : Program} (W : World) (base : Nat) (t ty e : TypeId) (i : TypeInfo) (z : Value) (bytes : Nat) (ht : P.underlying t = some (.slice e)) (hi : P.info? e = some i) (hz : i.zero = some z)
    (hsize : i.size = 1) (hby : i.bytes = bytes) (hzs : z.cells.size = 1) (hb8 : bytes ≤ 1000)
    (v : Value) (n : Nat) (xs : List Value) (hown : W.ownsRow base e 1 v n xs) (u : Value) (h1 : u.oneCell' = true) (hn : n ≤ 2000000) (hbase : base ≤ W.heap.size) :
    ∃ g cap w', (Builtin.append_ #[t, t] ty #[v, .slice (some ⟨W.heap.size, 0, none⟩) 1 1]).run P (W.alloc (.cells #[u] e)) = .ok (.slice (some ⟨g, 0, none⟩) (n + 1) cap) w' ∧
      w'.ownsRow base e 1 (.slice (some ⟨g, 0, none⟩) (n + 1) cap) (n + 1) (xs ++ [u]) ∧ Grew W w' v (.slice (some ⟨g, 0, none⟩) (n + 1) cap) := by
  have hK := (Upd.refl (fun _ => False) W).alloc (.cells #[u] e)
  have hown' := hown.alloc (.cells #[u] e)
  have hnews : ∀ (j : Nat) (x : Value), [u][j]? = some x → (W.alloc (.cells #[u] e)).cell? ((⟨W.heap.size, 0, none⟩ : Addr).add j) = some x := cells_new W #[u] e
  have hone : ∀ x ∈ [u], x.oneCell' = true := by intro x hx; simp at hx; subst hx; exact h1
  have hsz : W.heap.size ≤ (W.alloc (.cells #[u] e)).heap.size := hK.size
  have hl63 : n + 1 ≤ maxLen := by unfold maxLen; omega
  have hbb : (n + 1) * bytes ≤ 140737488355328 := Nat.le_trans (Nat.mul_le_mul (show n + 1 ≤ 2000001 by omega) hb8) (by decide)
  have key : ∀ b', W.ownsRow b' e 1 v n xs → b' ≤ W.heap.size → ∃ v' w', (Builtin.append_ #[t, t] ty #[v, .slice (some ⟨W.heap.size, 0, none⟩) 1 1]).run P (W.alloc (.cells #[u] e)) = .ok v' w' ∧ w'.ownsRow b' e 1 v' (n + 1) (xs ++ [u]) ∧ (W.alloc (.cells #[u] e)).grownBy w' v.ownBlock := by
    intro b' ho hb'
    obtain ⟨v', w', hr, h2, h3, _⟩ := run_append_own (P := P) (W.alloc (.cells #[u] e)) b' t ty e i z 1 bytes ht hi hz hsize hby hzs (by omega) v n xs (ho.alloc _) ⟨W.heap.size, 0, none⟩ 1 1 [u] rfl hnews hone hl63 hbb (by omega)
    exact ⟨v', w', hr, h2, h3⟩
  obtain ⟨v', w', hr, h2, h3⟩ := key base hown hbase
  obtain ⟨g, cap, rfl, _⟩ := h2.form (by omega)
  refine ⟨g, cap, w', hr, h2, Upd.grown ((Upd.refl (fun k => v.ownBlock = some k) W).alloc _) h3 (fun k hk => .inl hk), fun k hk => ?_⟩
  cases hk
  rcases hown.2 with ⟨rfl, rfl⟩ | ⟨g0, cap0, cur0, rfl, hb0, hg0, hnc, hcm, hcs, htake⟩
  · right
    have hx : xs = [] := List.eq_nil_of_length_eq_zero (by simpa using hown.1)
    subst hx
    obtain ⟨v2, w2, hr2, h22, _⟩ := key W.heap.size (World.ownsRow_nil _ _ _ _) (Nat.le_refl _)
    rw [hr] at hr2
    cases hr2
    exact (World.ownsRow.lt h22 g rfl).1
  · by_cases hroom : n + 1 ≤ cap0
    · left
      have hg1 : (W.alloc (.cells #[u] e)).heap[g0]? = some (.cells cur0 e (0, 0)) := by
        rw [hK.block g0 (Array.getElem?_eq_some_iff.1 hg0).1 (fun f => f)]; exact hg0
      have hr2 := run_append_room (P := P) (W.alloc (.cells #[u] e)) t ty e i ht hi g0 n cap0 cur0 hg1 ⟨W.heap.size, 0, none⟩ 1 1 [u] (by rw [hsize]; rfl) hnews hone hroom (by rw [hsize, hcs]; simp; omega)
      rw [hr] at hr2
      cases hr2
      rfl
    · right
      have holds : ∀ j x, xs[j]? = some x → (W.alloc (.cells #[u] e)).cell? ((⟨g0, 0, none⟩ : Addr).add j) = some x := hown'.cells (g := g0) rfl
      have hr2 := run_append_grow (P := P) (W.alloc (.cells #[u] e)) t ty e i z ht hi hz ⟨g0, 0, none⟩ n cap0 xs (by rw [hsize]; exact hown.1) holds ⟨W.heap.size, 0, none⟩ 1 1 [u] (by rw [hsize]; rfl) hnews (by omega) (by omega) (growslice_fits (by omega) (by rw [hby]; exact hbb))
      rw [hr] at hr2
      cases hr2
      exact hsz
theorem NI.add {W0 W1 w2 w3 : World} {b1 b2 b3 : Nat} {f : Nat → List Nat} {pre : List Nat} {x g cap : Nat} {aa : Option Addr} {ac : Nat} {vs : List Value} {u : Value} (hb1 : b1 < W0.heap.size) (hb2 : b2 < W0.heap.size ∧ b2 ≠ b1) (hb3 : b3 < W0.heap.size ∧ b3 ≠ b1) (c2 : (W0.cell? ⟨b2, 0, none⟩).isSome = true) (c3 : (W0.cell? ⟨b3, 0, none⟩).isSome = true)
    (h : NI W0 b1 f pre W1.drew) (hk : Kept W1.drew w2) (hA1 : Blk W1.drew b1 #[.slice aa (pre.map f).length ac] 106) (hA2 : W1.drew.ownsRow W0.heap.size 26 1 (.slice aa (pre.map f).length ac) (pre.map f).length vs) (hA3 : ∀ (j : Nat) (l : List Nat), (pre.map f)[j]? = some l → ∃ u, vs[j]? = some u ∧ W1.drew.ownsRow W0.heap.size 3 1 u l.length (nv l))
    (hu : w2.ownsRow W1.drew.heap.size 3 1 u (f x).length (nv (f x))) (hg : Grew w2 w3 (.slice aa (pre.map f).length ac) (.slice (some ⟨g, 0, none⟩) ((pre.map f).length + 1) cap)) (ho : w3.ownsRow W0.heap.size 26 1 (.slice (some ⟨g, 0, none⟩) ((pre.map f).length + 1) cap) ((pre.map f).length + 1) (vs ++ [u])) :
    (∃ y, w3.cell? ⟨b1, 0, none⟩ = some y) ∧ w3.frozen? ⟨b1, 0, none⟩ = false ∧ KeepsFrom W0.heap.size W1 (w3.setCell ⟨b1, 0, none⟩ (.slice (some ⟨g, 0, none⟩) ((pre.map f).length + 1) cap)) ∧ Boxes b2 b3 W1 (w3.setCell ⟨b1, 0, none⟩ (.slice (some ⟨g, 0, none⟩) ((pre.map f).length + 1) cap)) ∧ NI W0 b1 f (pre ++ [x]) (w3.setCell ⟨b1, 0, none⟩ (.slice (some ⟨g, 0, none⟩) ((pre.map f).length + 1) cap)) := by
  have hsz := h.upd.size
  have hk0 : Kept W1 W1.drew := (Upd.refl _ _).drew
  have o2 := ownsRow_upd hA2 hk (fun _ _ f => f)
  have q2 : Blk w2 b1 _ _ := hA1.kept hk
  have q3 := hg.blk q2 o2 (by decide)
  have hus : Upd (fun i => i = b1) w3 (w3.setCell ⟨b1, 0, none⟩ (.slice (some ⟨g, 0, none⟩) ((pre.map f).length + 1) cap)) := Upd.setCell (S := fun i => i = b1) (Upd.refl _ _) (.inl rfl) _
  have hown : ∀ i, Value.ownBlock (.slice aa (pre.map f).length ac) = some i → W0.heap.size ≤ i := fun i e => (World.ownsRow.lt hA2 i e).1
  have hall : Upd (fun i => i = b1 ∨ W0.heap.size ≤ i) W1.drew (w3.setCell ⟨b1, 0, none⟩ (.slice (some ⟨g, 0, none⟩) ((pre.map f).length + 1) cap)) :=
    ((hk.wide (S' := fun i => i = b1 ∨ W0.heap.size ≤ i) (fun _ _ f => f.elim)).trans (hg.upd.wide (fun i _ e => .inr (hown i e)))).trans (hus.wide (fun i _ e => .inl e))
  refine ⟨⟨_, by rw [q3.cell]; rfl⟩, q3.free 0, ⟨hall.size, fun k o hB hko hc => ?_⟩, ⟨?_, ?_⟩, ⟨?_, ?_⟩⟩
  · have hk1 : k < W1.drew.heap.size := (Array.getElem?_eq_some_iff.1 hko).1
    have e2 : w2.heap[k]? = some o := (hk.block k hk1 (fun f => f)).trans hko
    have hne : ¬ Value.ownBlock (.slice aa (pre.map f).length ac) = some k := fun e => by
      rcases o2.2 with ⟨h1, h2⟩ | ⟨g', cap', cur', h1, h2, h3, -⟩
      · rw [h1] at e; cases e
      · cases h1
        cases e
        rw [e2] at h3
        cases h3
        cases hc
    have e3 : w3.heap[k]? = some o := (hg.upd.block k (by have := hk.size; omega) hne).trans e2
    exact (hus.block k (by have := hk.size; have := hg.upd.size; omega) (by omega)).trans e3
  · have d1 := h.upd.cells ⟨b2, 0, none⟩ c2 hb2.2
    exact hall.cells ⟨b2, 0, none⟩ (by rw [d1]; exact c2) (fun e => e.elim (fun e => hb2.2 e) (fun e => by have h1 : W0.heap.size ≤ b2 := e; have h2 := hb2.1; omega))
  · have d1 := h.upd.cells ⟨b3, 0, none⟩ c3 hb3.2
    exact hall.cells ⟨b3, 0, none⟩ (by rw [d1]; exact c3) (fun e => e.elim (fun e => hb3.2 e) (fun e => by have h1 : W0.heap.size ≤ b3 := e; have h2 := hb3.1; omega))
  · have hl : (List.map f (pre ++ [x])).length = (pre.map f).length + 1 := by simp
    have hvl : vs.length = (pre.map f).length := by have := hA2.1; simpa using this
    have hfar : ∀ {v : Value} {n : Nat} {xs : List Value} {T : TypeId}, T ≠ 106 → w3.ownsRow W0.heap.size T 1 v n xs → (w3.setCell ⟨b1, 0, none⟩ (.slice (some ⟨g, 0, none⟩) ((pre.map f).length + 1) cap)).ownsRow W0.heap.size T 1 v n xs := fun {v n xs T} hT hz => ownsRow_upd hz hus (fun i hi e => by omega)
    refine ⟨some ⟨g, 0, none⟩, cap, vs ++ [u], ?_, ?_, fun j l hj => ?_⟩
    · have := q3.set 0 (.slice (some ⟨g, 0, none⟩) ((pre.map f).length + 1) cap)
      rw [hl]
      simpa using this
    · rw [hl]
      exact hfar (by decide) ho
    · rw [List.map_append, List.map_singleton] at hj
      by_cases hjl : j < (pre.map f).length
      · rw [List.getElem?_append_left hjl] at hj
        obtain ⟨z, e1, e2⟩ := hA3 j l hj
        exact ⟨z, by rw [List.getElem?_append_left (by omega)]; exact e1, hfar (by decide) (hg.row (ownsRow_upd e2 hk (fun _ _ f => f)) (rows_far o2 (ownsRow_upd e2 hk (fun _ _ f => f)) (by decide)))⟩
      · rw [List.getElem?_append_right (by omega)] at hj
        have hj0 : j - (pre.map f).length = 0 := by
          apply Classical.byContradiction
          intro e
          rw [List.getElem?_eq_none (by simp only [List.length_singleton]; omega)] at hj
          cases hj
        rw [hj0] at hj
        have hjf : f x = l := by simpa using hj
        subst hjf
        have hu0 : w2.ownsRow W0.heap.size 3 1 u (f x).length (nv (f x)) := own_base hu (by have : W1.drew.heap.size = W1.heap.size := rfl; exact hsz)
        exact ⟨u, by rw [List.getElem?_append_right (by omega), hvl, hj0]; rfl, hfar (by decide) (hg.row hu0 (rows_far o2 hu0 (by decide)))⟩
  · exact (h.upd.then hall (fun i hi e => e.elim id (fun e => by omega)))
theorem flat_chunks {N S : Int} {n : Nat} {ys : List Ar} {rs h : List Int} (row : List Nat) (sz q rk : Nat) (hl : row.length = rk) (hq : rk ≤ q * sz) : ((upto (fun j => j * sz) q).map fun x => partL N S n ys rs h ((row.drop x).take (chLen rk sz x))).flatten = partL N S n ys rs h row := by
  have key : ∀ q, ((upto (fun j => j * sz) q).map fun x => partL N S n ys rs h ((row.drop x).take (chLen rk sz x))).flatten = partL N S n ys rs h (row.take (q * sz)) := by
    intro q
    induction q with
    | zero => simp [upto, partL]
    | succ q ih =>
      rw [upto_succ, List.map_append, List.flatten_append, ih, Nat.add_mul, Nat.one_mul, List.take_add, part_append]
      have e : (row.drop (q * sz)).take (chLen rk sz (q * sz)) = (row.drop (q * sz)).take sz := by
        unfold chLen
        rw [← hl, ← List.length_drop, ← List.take_eq_take_min]
      simp only [List.map_cons, List.map_nil, List.flatten_cons, List.flatten_nil, List.append_nil, e]
  rw [key q, List.take_of_length_le (by omega)]
theorem Rd.updB {S : Nat → Prop} {w w' : World} {a : Option Addr} {vs : List Value} (h : Rd w a vs) (hu : Upd S w w') (hs : ∀ b off, a = some ⟨b, off, none⟩ → ¬ S b) : Rd w' a vs := by
  rcases h with h | ⟨b, off, rfl, hc⟩
  · exact .inl h
  · refine .inr ⟨b, off, rfl, fun i u hi => ?_⟩
    have h1 := hc i u hi
    exact (hu.cells ⟨b, off + i, none⟩ (by rw [h1]; rfl) (hs b off rfl)).trans h1
theorem putObj_upd (w : World) (D : Nat) (o : Obj) : Upd (fun k => k = D) w (w.putObj D o) :=
  ⟨rfl, rfl, rfl, by simp [World.putObj], fun k hk hn => by
    have hn : ¬ D = k := fun e => hn e.symm
    simp [World.putObj, hn]⟩
def noDefer : Op → Bool
  | .defer _ => false
  | _ => true
theorem oper_in {l n : Nat} {P : Program} {o : Oper} {a : Act} {w : World} {K : Act → World → Prop} {Q : Exit → Act → World → Prop} (hd : noDefer o.op = true) (h : o.wp P a w K Q) : o.wpIn (Fence.wide.inRound l) n P a w K Q := by
  refine ⟨fun _ _ => trivial, ?_⟩
  rw [Oper.semAt_eq _ _ _ (fun c e => by rw [e] at hd; cases hd)]
  unfold Oper.wp at h
  generalize (execOp a.eval o).run P w = r at *
  have hdep : (Fence.wide.inRound l).depth.isSome = true → 1 ≤ n := fun e => by cases e
  cases r with
  | ok x w' =>
    cases x <;> simp only [Oper.upon, Oper.uponIn] at h ⊢
    case value => exact h
    case skip => exact h
    case defer => exact h
    case enter f args => exact ⟨hdep, CallsIn.inRound l (callsIn_wide.2 (h.mono fun e w'' he => by cases e <;> exact he))⟩
    case row row args => exact ⟨hdep, fun c cs _ => let ⟨v, w', r, s⟩ := h c cs; ⟨v, w', r, (stepsIn_wide (P := P)).2 s⟩⟩
  | halt x w' => cases x <;> simp only [Oper.upon, Oper.uponIn] at h ⊢ <;> exact h
theorem any_in {l n : Nat} {P : Program} {md : Region.Mode} {ops : Array Oper} {Q : Exit → Act → World → Prop} (hd : (ops.all fun o => noDefer o.op) = true) (hnl : ¬ LetsOut Q) : ∀ (fuel : Nat) (listed : Array Bool) (a : Act) (w : World), wpAny P md ops Q fuel listed a w → wpAnyIn (Fence.wide.inRound l) n P md ops Q fuel listed a w
  | 0, _, _, _, h => h
  | fuel + 1, listed, a, w, h => ⟨h.1, fun i hi => by
    have h1 := wpOp_mono (fun a' w' h' => any_in (l := l) (n := n) hd hnl fuel _ a' w' h') (h.2 i hi)
    unfold wpOp at h1
    unfold wpOpIn
    cases ho : ops[i]? with
    | none => simp only [ho] at h1 ⊢; exact h1
    | some o =>
      simp only [ho] at h1 ⊢
      have hdo : noDefer o.op = true := by
        obtain ⟨hi2, e⟩ := Array.getElem?_eq_some_iff.1 ho
        have := Array.all_eq_true.1 hd i hi2
        rwa [e] at this
      split
      · rename_i hw
        rw [if_pos hw] at h1
        rcases h1 with h1 | ⟨-, h1⟩
        · exact oper_in hdo h1
        · exact absurd h1 hnl
      · rename_i hw
        rw [if_neg hw] at h1
        exact ⟨fun _ _ => trivial, h1⟩⟩
theorem region_in {l n : Nat} {P : Program} {id : Nat} {ops : Array Oper} {Q : Exit → Act → World → Prop} {a : Act} {w : World} {S : World → Prop} (hm : P.follows .mixedOrders = true) (hd : (ops.all fun o => noDefer o.op) = true) (hnl : ¬ LetsOut Q)
    (h : wpAnyH P .any ops Q S ops.size (Array.replicate ops.size false) a w.drew) : (Code.region id ops true).wpIn (Fence.wide.inRound l) n P Q a w :=
  wpIn_region_any hm (any_in hd hnl _ _ _ _ (wpAny_of_held _ _ _ _ h))
theorem step_hrun {P : Program} {w w' : World} {ops : Array Oper} {o : Oper} {a : Act} {K : Act → World → Prop} {Q : Exit → Act → World → Prop} {E : Prop} (hgd : o.guard = none) (s x : Operand) (t : TypeId)
    (ho : o.op = .call { callee := .builtin .append, args := #[s, x], argTypes := #[t, t] }) {v v2 r : Value} (hs : a.eval s = v) (hx : a.eval x = v2) (hrun : (Builtin.append_ #[t, t] o.type #[v, v2]).run P w = .ok r w') (h : K (a.put o.dst r) w') :
    if Region.wanted o (yielded ops a.tmps) = true then Oper.wp P o a w K Q else E := by
  have hw : Region.wanted o (yielded ops a.tmps) = true := by simp [Region.wanted, hgd]
  rw [if_pos hw]
  unfold Oper.wp execOp
  simp only [ho, resolve, invoke, builtin, Sem.run_bind, Sem.run_pure, Result.andThen_ok, List.map_toArray, List.map_cons, List.map_nil, hs, hx, hrun]
  exact h
theorem infoRow : (Try.prog.info? 26).map (fun i => (i.zero, i.size, i.bytes)) = some (some (.slice none 0 0), 1, 24) := by kernel_rfl
/-- The row behind a row. -/
def NextEnd (N S T : Int) (n m : Nat) (a3 a4 a5 a6 a7 a8 : Option Addr) (c3 c4 c5 c6 c7 c8 : Nat) (wB : World) (ys : List Ar) (ra : Option Addr) (rc : Nat) (rs : List Int) (sb hb : Nat) (h : List Int) (row : List Nat) (d : Nat) (w : World) (e : Ending) (w' : World) : Prop :=
  ∃ a k c found h', e = .returned (.slice a k c) ∧ k ≤ c ∧ found.length = k ∧ (∀ u, u ∈ found ↔ u ∈ partL N S n ys rs h row) ∧ found.Nodup ∧ h'.length = n ∧ (∀ v, v < n → h'.getD v 0 = if v ∈ found then (d : Int) else h.getD v 0) ∧
    SR N S T n m a3 a4 a5 a6 a7 a8 c3 c4 c5 c6 c7 c8 wB ys ra rc rs sb hb h' w' ∧ Rd w' a (nv found) ∧ Upd (fun k => k = hb) w w'
set_option maxRecDepth 100000 in
set_option maxHeartbeats 8000000 in
theorem next_any (N S T : Int) (n m : Nat) (a3 a4 a5 a6 a7 a8 : Option Addr) (c3 c4 c5 c6 c7 c8 : Nat) (wB : World) (ys : List Ar) (ra : Option Addr) (rc : Nat) (rs : List Int) (sb hb : Nat) (h : List Int) (row : List Nat) (rw' : Option Addr) (rk rwc wk d : Nat) (w : World) (hg : Gr N S T n m ys) (hrm : rs.length = m) (hhl : h.length = n) (hs : SR N S T n m a3 a4 a5 a6 a7 a8 c3 c4 c5 c6 c7 c8 wB ys ra rc rs sb hb h w) (hrow : Rd w rw' (nv row)) (HRL : Hid (row.length = rk)) (hrk0 : 1 ≤ rk) (hrk : rk ≤ 16) (hrc : rk ≤ rwc) (hrn : ∀ v ∈ row, v < n) (hw1 : 1 ≤ wk) (hw2 : wk ≤ 64) (hd : d ≤ 100)
    (hbn : Kept w w) :
    Calls Try.prog 52 #[.pointer (some ⟨sb, 0, none⟩), .slice rw' rk rwc, .int .i64 (wk : Int), .int .i64 (d : Int)] w (NextEnd N S T n m a3 a4 a5 a6 a7 a8 c3 c4 c5 c6 c7 c8 wB ys ra rc rs sb hb h row d w) := by
  have HG := Lib.hid hg
  have HRM := Lib.hid hrm
  have HHL := Lib.hid hhl
  have HSR := Lib.hid hs
  have HRW := Lib.hid hrow
  have HRN := Lib.hid hrn
  have HBN := Lib.hid hbn
  obtain ⟨rb, ro, rfl, -⟩ := hrow.at 0 (by rw [nv_len, HRL.out]; omega)
  obtain ⟨sz, hsz⟩ : ∃ sz, (rk + wk - 1) / wk = sz := ⟨_, rfl⟩
  have hsz1 : 1 ≤ sz ∧ sz ≤ 80 := by
    rw [← hsz]
    refine ⟨(Nat.le_div_iff_mul_le (by omega)).2 (by omega), Nat.le_trans (Nat.div_le_self _ _) (by omega)⟩
  have HMX : Hid (max (((rk : Int) + (wk : Int) - 1) / (wk : Int)) 1 = (sz : Int)) := Lib.hid (by
    have e1 : (rk : Int) + (wk : Int) - 1 = ((rk + wk - 1 : Nat) : Int) := by omega
    have e2 : ((rk + wk - 1 : Nat) : Int) / (wk : Int) = (sz : Int) := by rw [← hsz]; rfl
    rw [e1, e2]
    omega)
  have hwk0 : ¬ ((wk : Int) = 0) := by omega
  clear hsz hg hrm hhl hs hrow hrn hbn
  refine (callsIn_wide (n := 3)).1 ?_
  refine callsIn_of_wp_marks Try.func52 rfl trivial ?_ rfl
  simp only [Try.ntmps52, List.size_toArray, List.length_cons, List.length_nil, Nat.reduceAdd, Nat.reduceSub, Array.replicate_succ, Array.replicate_zero, List.push_toArray, List.append_toArray, List.nil_append, List.cons_append]
  refine wpIn_wide.2 ?_
  go_wp2_with fail
  rw [HMX.out]
  generalize ((rk : Int) + (wk : Int) - 1) / (wk : Int) = q9
  generalize (rk : Int) + (wk : Int) - 1 = q8
  generalize (rk : Int) + (wk : Int) = q7
  refine (Chunk_any rb ro rk rwc sz _ hsz1.1).mono ?_
  rintro e w1 ⟨rfl, rfl⟩
  go_wp2_with fail
  obtain ⟨W0, hW0⟩ : ∃ W0, W0 = ((((w.alloc (.cells #[.pointer (some ⟨sb, 0, none⟩)] 84)).alloc (.cells #[.slice none 0 0] 106)).alloc (.cells #[.slice (some ⟨rb, ro, none⟩) rk rwc] 26)).alloc (.cells #[.int .i64 (sz : Int)] 3)) := ⟨_, rfl⟩
  rw [← hW0]
  have b0 : Blk W0 w.heap.size #[.pointer (some ⟨sb, 0, none⟩)] 84 := by rw [hW0]; exact (((Blk.new _ _ _).alloc _).alloc _).alloc _
  have b1 : Blk W0 (w.heap.size + 1) #[.slice none 0 0] 106 := by rw [hW0]; exact ((Blk.newAtG _ _ _ _ (by simp)).alloc _).alloc _
  have b2 : Blk W0 (w.heap.size + 1 + 1) #[.slice (some ⟨rb, ro, none⟩) rk rwc] 26 := by rw [hW0]; exact (Blk.newAtG _ _ _ _ (by simp)).alloc _
  have b3 : Blk W0 (w.heap.size + 1 + 1 + 1) #[.int .i64 (sz : Int)] 3 := by rw [hW0]; exact Blk.newAtG _ _ _ _ (by simp)
  have hk0 : Kept w W0 := by rw [hW0]; exact ((((Upd.refl _ _).alloc _).alloc _).alloc _).alloc _
  have hz0 : W0.heap.size = w.heap.size + 4 := by rw [hW0]; simp
  clear hW0
  obtain ⟨f, hf⟩ : ∃ f : Nat → List Nat, f = fun x => partL N S n ys rs h ((row.drop x).take (chLen rk sz x)) := ⟨_, rfl⟩
  have HFX := Lib.hid hf
  clear hf
  refine (wpIn_wide (n := 3)).1 ?_
  refine wpIn_rangeFunc_ownG (n := 3) rfl (by omega) (gf := 79) (lb := #[.pointer (some ⟨w.heap.size + 1 + 1, 0, none⟩), .pointer (some ⟨w.heap.size + 1 + 1 + 1, 0, none⟩)]) rfl trivial (enters_of Try.func79 (by kernel_rfl) rfl)
    (chunk_stops 2 (by omega) (w.heap.size + 1 + 1) (w.heap.size + 1 + 1 + 1) rb ro rk rwc sz hsz1.1 (by omega) (by omega) hrc W0 (by rw [b2.cell]; rfl) (by rw [b3.cell]; rfl))
    boxes_t (boxes_b (by omega) (by omega)) (Below.refl _ _) (fun _ => rfl)
    (fun pre W => NI W0 (w.heap.size + 1) f pre W)
    (fun cd pre W => False)
    (fun pre A B row' hs hg hr => NI.grown hs hg hr)
    (fun cd pre A B row' hs hg hr => hs)
    (NI.start W0 (w.heap.size + 1) f b1)
    (fun x => { tmps := #[.pointer (some ⟨sb, 0, none⟩), .slice (some ⟨rb, ro, none⟩) rk rwc, .int .i64 (wk : Int), .int .i64 (d : Int), .pointer (some ⟨w.heap.size, 0, none⟩), undef, undef, undef, .slice none 0 0, .int .i64 q9, .pointer (some ⟨w.heap.size + 1, 0, none⟩), (.slice (some ⟨rb, ro + x, none⟩) (chLen rk sz x) (chLen rk sz x)), undef, undef, undef, .slice (some ⟨rb, ro, none⟩) rk rwc, .int .i64 (rk : Int), .int .i64 (wk : Int), .int .i64 q7, .int .i64 q8, .int .i64 (wk : Int), .int .i64 q9, .slice (some ⟨rb, ro, none⟩) rk rwc, .int .i64 q9, .int .i64 (sz : Int), .func (.func 79) #[] #[.pointer (some ⟨w.heap.size + 1 + 1, 0, none⟩), .pointer (some ⟨w.heap.size + 1 + 1 + 1, 0, none⟩)], (.slice (some ⟨rb, ro + x, none⟩) (chLen rk sz x) (chLen rk sz x)), undef, undef, undef, undef, undef, undef, undef, undef, undef, undef, undef, undef, undef, undef, undef, undef, undef, undef, undef, undef, undef, undef, undef, undef, undef, undef, undef], defers := [] }) ?assign ?body ?done ?stop
  case assign =>
    intro l x W K hK
    gi_wp2
    exact hK
  case body =>
    rintro l pre x W1 hN1 hlen
    have hN : NI W0 (w.heap.size + 1) f pre W1.drew := hN1.grown (row := none) ⟨rfl, rfl, rfl, Nat.le_refl _, fun _ _ _ => rfl⟩ (fun r e => by cases e)
    obtain ⟨W, hWe⟩ : ∃ W, W = W1.drew := ⟨_, rfl⟩
    rw [← hWe] at hN
    have HWE := Lib.hid hWe
    have hkW : Kept w W := hk0.then hN.upd (fun i hi e => by omega)
    have HCH : Hid (((row.drop x).take (chLen rk sz x)).length = chLen rk sz x) := Lib.hid (by have := HRL.out; rw [List.length_take, List.length_drop]; unfold chLen; omega)
    obtain ⟨cl, hcl⟩ : ∃ cl, chLen rk sz x = cl := ⟨_, rfl⟩
    have hcl16 : cl ≤ 16 := by rw [← hcl]; unfold chLen; omega
    have HP := Lib.hid (part_any N S T n m a3 a4 a5 a6 a7 a8 c3 c4 c5 c6 c7 c8 wB ys ra rc rs sb hb h ((row.drop x).take (chLen rk sz x)) (some ⟨rb, ro + x, none⟩) (chLen rk sz x) (chLen rk sz x) W HG.out HRM.out HHL.out (HSR.out.kept hkW) ((HRW.out.kept hkW).chunk x _) HCH (by rw [hcl]; exact hcl16) (fun v hv => HRN.out v (List.mem_of_mem_drop (List.mem_of_mem_take hv))))
    rw [show partL N S n ys rs h ((row.drop x).take (chLen rk sz x)) = f x by rw [HFX.out]] at HP
    rw [hcl] at HP ⊢
    obtain ⟨aa, ac, vs, hA1, hA2, hA3⟩ := hN.all
    have c0 : W.cell? ⟨w.heap.size, 0, none⟩ = some (.pointer (some ⟨sb, 0, none⟩)) := by rw [(b0.upd hN.upd (by omega)).cell]; rfl
    have c1 : W.cell? ⟨w.heap.size + 1, 0, none⟩ = some (.slice aa pre.length ac) := by rw [hA1.cell]; simp
    have HN := Lib.hid hN
    have HA1 := Lib.hid hA1
    have HA2 := Lib.hid hA2
    have HA3 := Lib.hid hA3
    have hl16 : pre.length ≤ 16 := by omega
    obtain ⟨i0, hi0, hz0', hz1, hz2⟩ := info_parts infoRow
    clear hN hA1 hA2 hA3 hkW hcl hN1
    subst hWe
    have C2 : Hid ((W0.cell? ⟨w.heap.size + 1 + 1, 0, none⟩).isSome = true) := Lib.hid (by rw [b2.cell]; rfl)
    have C3 : Hid ((W0.cell? ⟨w.heap.size + 1 + 1 + 1, 0, none⟩).isSome = true) := Lib.hid (by rw [b3.cell]; rfl)
    have hS0 : W1.drew.cell? ⟨w.heap.size, 0, none⟩ = some (.pointer (some ⟨sb, 0, none⟩)) := c0
    gi_wp2_with fail
    refine region_in (S := fun W => W.cell? ⟨w.heap.size, 0, none⟩ = some (.pointer (some ⟨sb, 0, none⟩))) (by kernel_rfl) (by kernel_rfl) (by rintro ⟨_, _, h⟩; exact h) ?_
    refine wpAnyH_take (i := 1) (v := .pointer (some ⟨sb, 0, none⟩)) rfl (by kernel_rfl) (by kernel_rfl) (by kernel_rfl) (fun _ _ _ h => h) (Or.inl ⟨by rfl, fun w hSw => ?_⟩) (by assumption) ?_
    · dsimp only at hSw
      go_simp
    simp only [Act.put, List.setIfInBounds_toArray, List.set_cons_zero, List.set_cons_succ]
    refine wpAnyH_take (i := 2) (v := .slice (some ⟨rb, ro + x, none⟩) cl cl) rfl (by kernel_rfl) (by kernel_rfl) (by kernel_rfl) (fun _ _ _ h => h) (Or.inl ⟨by rfl, fun w hSw => ?_⟩) (by assumption) ?_
    · dsimp only at hSw
      go_simp
    simp only [Act.put, List.setIfInBounds_toArray, List.set_cons_zero, List.set_cons_succ]
    refine wpAnyH_ready (rs := [0, 3]) (by kernel_rfl) (by simp) ?_
    refine AllReadyH.cons rfl (fun K hK => ?_) ?_
    · go_simp
      refine hK.out _ _ (by assumption) (fun _ => ?_)
      clear hK K
      refine wpAnyH_ready (rs := [3]) (by kernel_rfl) (by simp) ?_
      refine AllReadyH.cons rfl (fun K hK => ?_) ?_
      · go_simp
        refine HP.out.mono ?_
        rintro e w2 ⟨ua, uk, uc, rfl, hul, huo, hku⟩
        obtain ⟨g, cap, w3, hrun, ho3, hg3⟩ := run_pushw (P := Try.prog) w2 W0.heap.size 106 106 26 i0 (.slice none 0 0) 24 Try.underlying106 hi0 hz0' hz1 hz2 rfl (by decide) (.slice aa (pre.map f).length ac) (pre.map f).length vs (ownsRow_upd HA2.out hku (fun _ _ f => f)) (.slice ua uk uc) rfl (by simp only [List.length_map]; omega) (Nat.le_trans HN.out.upd.size hku.size)
        have HFIN := Lib.hid (NI.add (by omega) (by omega) (by omega) C2.out C3.out HN.out hku HA1.out HA2.out HA3.out (by rw [hul]; exact huo) hg3 ho3)
        have e2 : w2.cell? ⟨w.heap.size, 0, none⟩ = some (.pointer (some ⟨sb, 0, none⟩)) := (keptCells hku _ (by rw [c0]; rfl)).trans c0
        have e3 : w2.cell? ⟨w.heap.size + 1, 0, none⟩ = some (.slice aa pre.length ac) := (keptCells hku _ (by rw [c1]; rfl)).trans c1
        have ha4 := (Upd.refl (fun _ => False) w2).alloc (.cells #[.slice ua uk uc] 26)
        have e4 : (w2.alloc (.cells #[.slice ua uk uc] 26)).cell? ⟨w.heap.size, 0, none⟩ = some (.pointer (some ⟨sb, 0, none⟩)) := (keptCells ha4 _ (by rw [e2]; rfl)).trans e2
        have e5 : (w2.alloc (.cells #[.slice ua uk uc] 26)).cell? ⟨w.heap.size + 1, 0, none⟩ = some (.slice aa pre.length ac) := (keptCells ha4 _ (by rw [e3]; rfl)).trans e3
        have e6 : w3.cell? ⟨w.heap.size, 0, none⟩ = some (.pointer (some ⟨sb, 0, none⟩)) := by
          have q9 := (b0.upd HN.out.upd (by omega)).kept hku
          rw [(q9.upd hg3.upd (fun e => by have := (World.ownsRow.lt (ownsRow_upd HA2.out hku (fun _ _ f => f)) _ e).1; omega)).cell]
          rfl
        rw [List.length_map] at hrun HFIN
        obtain ⟨⟨y9, q1⟩, q2, -, -, -⟩ := HFIN.out
        clear ho3 hg3 hku huo hul ha4
        refine hK.out _ _ e2 (fun _ => ?_)
        clear hK K
        refine wpAnyH_ready (rs := [4]) (by kernel_rfl) (by simp) ?_
        refine AllReadyH.cons rfl (fun K hK => ?_) ?_
        · go_simp
          refine hK.out _ _ (by assumption) (fun _ => ?_)
          clear hK K
          refine wpAnyH_ready (rs := [5]) (by kernel_rfl) (by simp) ?_
          refine AllReadyH.cons rfl (fun K hK => ?_) AllReadyH.nil
          refine step_hrun rfl (.tmp 27) (.tmp 31) 106 rfl rfl rfl hrun ?_
          simp only [Act.put, List.setIfInBounds_toArray, List.set_cons_zero, List.set_cons_succ]
          refine hK.out _ _ e6 (fun _ => ?_)
          clear hK K
          refine wpAnyH_ready (rs := [6]) (by kernel_rfl) (by simp) ?_
          refine AllReadyH.cons rfl (fun K hK => ?_) AllReadyH.nil
          go_simp
          refine hK.out _ _ ?_ (fun _ => ?_)
          · rw [World.cell?_of_block (Below.heap_setCell _ _ _ _ (by simp))]
            exact e6
          clear hK K
          refine wpAnyH_done (by kernel_rfl) ?_ _
          exact ⟨HFIN.out.2.2.1, HFIN.out.2.2.2.1, HFIN.out.2.2.2.2⟩
        exact AllReadyH.nil
      exact AllReadyH.nil
    refine AllReadyH.cons rfl (fun K hK => ?_) ?_
    · go_simp
      refine HP.out.mono ?_
      rintro e w2 ⟨ua, uk, uc, rfl, hul, huo, hku⟩
      obtain ⟨g, cap, w3, hrun, ho3, hg3⟩ := run_pushw (P := Try.prog) w2 W0.heap.size 106 106 26 i0 (.slice none 0 0) 24 Try.underlying106 hi0 hz0' hz1 hz2 rfl (by decide) (.slice aa (pre.map f).length ac) (pre.map f).length vs (ownsRow_upd HA2.out hku (fun _ _ f => f)) (.slice ua uk uc) rfl (by simp only [List.length_map]; omega) (Nat.le_trans HN.out.upd.size hku.size)
      have HFIN := Lib.hid (NI.add (by omega) (by omega) (by omega) C2.out C3.out HN.out hku HA1.out HA2.out HA3.out (by rw [hul]; exact huo) hg3 ho3)
      have e2 : w2.cell? ⟨w.heap.size, 0, none⟩ = some (.pointer (some ⟨sb, 0, none⟩)) := (keptCells hku _ (by rw [c0]; rfl)).trans c0
      have e3 : w2.cell? ⟨w.heap.size + 1, 0, none⟩ = some (.slice aa pre.length ac) := (keptCells hku _ (by rw [c1]; rfl)).trans c1
      have ha4 := (Upd.refl (fun _ => False) w2).alloc (.cells #[.slice ua uk uc] 26)
      have e4 : (w2.alloc (.cells #[.slice ua uk uc] 26)).cell? ⟨w.heap.size, 0, none⟩ = some (.pointer (some ⟨sb, 0, none⟩)) := (keptCells ha4 _ (by rw [e2]; rfl)).trans e2
      have e5 : (w2.alloc (.cells #[.slice ua uk uc] 26)).cell? ⟨w.heap.size + 1, 0, none⟩ = some (.slice aa pre.length ac) := (keptCells ha4 _ (by rw [e3]; rfl)).trans e3
      have e6 : w3.cell? ⟨w.heap.size, 0, none⟩ = some (.pointer (some ⟨sb, 0, none⟩)) := by
        have q9 := (b0.upd HN.out.upd (by omega)).kept hku
        rw [(q9.upd hg3.upd (fun e => by have := (World.ownsRow.lt (ownsRow_upd HA2.out hku (fun _ _ f => f)) _ e).1; omega)).cell]
        rfl
      rw [List.length_map] at hrun HFIN
      obtain ⟨⟨y9, q1⟩, q2, -, -, -⟩ := HFIN.out
      clear ho3 hg3 hku huo hul ha4
      refine hK.out _ _ e2 (fun _ => ?_)
      clear hK K
      refine wpAnyH_ready (rs := [0, 4]) (by kernel_rfl) (by simp) ?_
      refine AllReadyH.cons rfl (fun K hK => ?_) ?_
      · go_simp
        refine hK.out _ _ (by assumption) (fun _ => ?_)
        clear hK K
        refine wpAnyH_ready (rs := [4]) (by kernel_rfl) (by simp) ?_
        refine AllReadyH.cons rfl (fun K hK => ?_) ?_
        · go_simp
          refine hK.out _ _ (by assumption) (fun _ => ?_)
          clear hK K
          refine wpAnyH_ready (rs := [5]) (by kernel_rfl) (by simp) ?_
          refine AllReadyH.cons rfl (fun K hK => ?_) AllReadyH.nil
          refine step_hrun rfl (.tmp 27) (.tmp 31) 106 rfl rfl rfl hrun ?_
          simp only [Act.put, List.setIfInBounds_toArray, List.set_cons_zero, List.set_cons_succ]
          refine hK.out _ _ e6 (fun _ => ?_)
          clear hK K
          refine wpAnyH_ready (rs := [6]) (by kernel_rfl) (by simp) ?_
          refine AllReadyH.cons rfl (fun K hK => ?_) AllReadyH.nil
          go_simp
          refine hK.out _ _ ?_ (fun _ => ?_)
          · rw [World.cell?_of_block (Below.heap_setCell _ _ _ _ (by simp))]
            exact e6
          clear hK K
          refine wpAnyH_done (by kernel_rfl) ?_ _
          exact ⟨HFIN.out.2.2.1, HFIN.out.2.2.2.1, HFIN.out.2.2.2.2⟩
        exact AllReadyH.nil
      refine AllReadyH.cons rfl (fun K hK => ?_) ?_
      · go_simp
        refine hK.out _ _ (by assumption) (fun _ => ?_)
        clear hK K
        refine wpAnyH_ready (rs := [0]) (by kernel_rfl) (by simp) ?_
        refine AllReadyH.cons rfl (fun K hK => ?_) ?_
        · go_simp
          refine hK.out _ _ (by assumption) (fun _ => ?_)
          clear hK K
          refine wpAnyH_ready (rs := [5]) (by kernel_rfl) (by simp) ?_
          refine AllReadyH.cons rfl (fun K hK => ?_) AllReadyH.nil
          refine step_hrun rfl (.tmp 27) (.tmp 31) 106 rfl rfl rfl hrun ?_
          simp only [Act.put, List.setIfInBounds_toArray, List.set_cons_zero, List.set_cons_succ]
          refine hK.out _ _ e6 (fun _ => ?_)
          clear hK K
          refine wpAnyH_ready (rs := [6]) (by kernel_rfl) (by simp) ?_
          refine AllReadyH.cons rfl (fun K hK => ?_) AllReadyH.nil
          go_simp
          refine hK.out _ _ ?_ (fun _ => ?_)
          · rw [World.cell?_of_block (Below.heap_setCell _ _ _ _ (by simp))]
            exact e6
          clear hK K
          refine wpAnyH_done (by kernel_rfl) ?_ _
          exact ⟨HFIN.out.2.2.1, HFIN.out.2.2.2.1, HFIN.out.2.2.2.2⟩
        exact AllReadyH.nil
      exact AllReadyH.nil
    exact AllReadyH.nil
  case done =>
    rintro D xs W hD ⟨q, rfl, hq, hqr⟩ hN hK
    obtain ⟨aa, ac, vs, hA1, hA2, hA3⟩ := hN.all
    obtain ⟨LL, hLL⟩ : ∃ LL, (upto (fun j => j * sz) q).map f = LL := ⟨_, rfl⟩
    rw [hLL] at hA1 hA2 hA3
    have HFL : Hid (LL.flatten = partL N S n ys rs h row) := Lib.hid (by rw [← hLL, HFX.out]; exact flat_chunks row sz q rk HRL.out hq)
    have hLk : ∃ k, LL.length = k := ⟨_, rfl⟩
    obtain ⟨k, hk⟩ := hLk
    rw [hk] at hA1 hA2
    have hkW : Kept w W := hk0.then hN.upd (fun i hi e => by omega)
    have HKW := Lib.hid hkW
    have HWW := Lib.hid hN.upd
    have hqk : k ≤ 1000 := by rw [← hk, ← hLL, List.length_map, upto_length]; omega
    have HRI : Hid (RowsIs W aa LL) := Lib.hid (by
      obtain ⟨a', c', e, hr⟩ := Rd.owns hA2
      cases e
      refine ⟨vs, hr, by have := hA2.1; omega, fun j l hj => ?_⟩
      obtain ⟨u, e1, e2⟩ := hA3 j l hj
      obtain ⟨a2, c2, rfl, hr2⟩ := Rd.owns e2
      exact ⟨a2, c2, e1, hr2, someOr_own e2⟩)
    have c1 : W.cell? ⟨w.heap.size + 1, 0, none⟩ = some (.slice aa k ac) := by rw [hA1.cell]; rfl
    have HBL : Hid (LL.flatten.length ≤ 100000) := Lib.hid (by
      rw [HFL.out]
      have h1 := part_len (N := N) (rs := rs) (h := h) (row := row) HG.out HRN.out
      have h2 := Nat.mul_le_mul (show row.length ≤ 16 by have := HRL.out; omega) (show m ≤ 640 by have := HG.out.len; omega)
      omega)
    have HKD := Lib.hid hK
    have HDD := Lib.hid hD
    have HC0 : Hid (W.cell? ⟨w.heap.size, 0, none⟩ = some (.pointer (some ⟨sb, 0, none⟩))) := Lib.hid (by rw [(b0.upd hN.upd (by omega)).cell]; rfl)
    clear hA1 hA2 hA3 hkW hN hLL hK hD
    go_wp2_with fail
    refine (Concat_any LL aa k ac W HRI.out hk hqk HBL.out).mono ?_
    rintro e W2 ⟨ca, ct, cc, rfl, hcl, hco, hck⟩
    have hct : ct ≤ 1000000 := by have := HBL.out; omega
    have HP0 := Lib.hid (sort_any LL.flatten ca ct cc W.heap.size W2 hco hct)
    have HK2 := Lib.hid hck
    clear hcl hco hck
    go_wp2_with fail
    refine HP0.out.mono ?_
    rintro e W3 ⟨rfl, P', hp, hs', ho3, hu3⟩
    have HCC := Lib.hid (row_cap' ho3)
    have HP1 := Lib.hid (compact_any P' hs' ca ct cc W.heap.size W3 ho3 hct)
    have HU3 := Lib.hid hu3
    have HPP := Lib.hid hp
    have HO3 : Hid (∀ g, Value.ownBlock (.slice ca ct cc) = some g → W.heap.size ≤ g ∧ ∃ cur fr, W3.heap[g]? = some (.cells cur 3 fr)) := Lib.hid (fun g e => ⟨(World.ownsRow.lt ho3 g e).1, by
      rcases ho3.2 with ⟨h1, -⟩ | ⟨g', cap', cur', h1, h2, h3, -⟩
      · rw [h1] at e; cases e
      · cases h1
        cases e
        exact ⟨_, _, h3⟩⟩)
    clear hp hs' ho3 hu3 HP0
    go_wp2_with fail
    refine HP1.out.mono ?_
    rintro e W4 ⟨q2, F, rfl, hFl, hFm, hFn, hqt, hFr, hu4⟩
    have HF : Hid (F.length = q2 ∧ (∀ u, u ∈ F ↔ u ∈ partL N S n ys rs h row) ∧ F.Nodup) := Lib.hid ⟨hFl, fun u => by rw [hFm u, HPP.out.mem_iff, HFL.out], hFn⟩
    have HWW4 : Hid (Kept W W4) := Lib.hid ((HK2.out.then HU3.out (fun i hi e => by have := (HO3.out i e).1; omega)).then hu4 (fun i hi e => by have := (HO3.out i e).1; omega))
    have hDW : D < W.heap.size := (Array.getElem?_eq_some_iff.1 HKD.out).1
    have HKD4 : Hid (W4.heap[D]? = some (.deferred (some []))) := Lib.hid ((HWW4.out.block D hDW (fun f => f)).trans HKD.out)
    have HC04 : Hid (W4.cell? ⟨w.heap.size, 0, none⟩ = some (.pointer (some ⟨sb, 0, none⟩))) := Lib.hid ((keptCells HWW4.out _ (by rw [HC0.out]; rfl)).trans HC0.out)
    have HK4 : Hid (Kept w W4) := Lib.hid (HKW.out.trans HWW4.out)
    have HS4 := Lib.hid (HSR.out.kept HK4.out)
    have HR4 := Lib.hid hFr
    have HNE : Hid (∀ b off, ca = some ⟨b, off, none⟩ → F ≠ [] → b ≠ hb ∧ b ≠ w.heap.size) := Lib.hid (fun b off e hne => by
      subst e
      have h1 := (HO3.out b rfl).1
      have h2 := HSR.out.h.lt
      have h3 := HKW.out.size
      have h4 := World.block_lt_of_cell? W _ HC0.out
      have h4 : w.heap.size < W.heap.size := h4
      omega)
    have hq2 : q2 ≤ 1000000 := by omega
    have HQC : Hid (q2 ≤ cc) := Lib.hid (Nat.le_trans hqt HCC.out)
    have HD4 : Hid (W0.heap.size ≤ D ∧ wB.heap.size ≤ w.heap.size ∧ hb < w.heap.size ∧ sb < w.heap.size) := Lib.hid ⟨HDD.out, HSR.out.kp.size, HSR.out.h.lt, HSR.out.box.lt⟩
    clear hFl hFm hFn hqt hFr hu4 HU3 HPP HO3 HWW4 hDW HKD HC0 HK2 HP1 HRI HBL hct HDD HFL c1 hk hqk hq hqr
    go_wp2_with fail
    go_loopw [41] (fun ix wr => ∃ (j : Nat) (h' : List Int), ix = .int .i64 j ∧ j ≤ q2 ∧ Hid (h'.length = n) ∧ Hid (∀ v, v < n → h'.getD v 0 = if v ∈ F.take j then (d : Int) else h.getD v 0) ∧ Hid (SR N S T n m a3 a4 a5 a6 a7 a8 c3 c4 c5 c6 c7 c8 wB ys ra rc rs sb hb h' wr) ∧ Hid (Upd (fun k => k = hb) W4 wr)) (fun ix _ => q2 - (intOf ix).toNat)
    case atStart => exact ⟨0, h, rfl, by omega, HHL, Lib.hid (fun v _ => by simp), HS4, Lib.hid (Upd.refl _ _)⟩
    case round =>
      obtain ⟨j, h', rfl, hj, HL', HV', HS', HU'⟩ := hrel
      by_cases hjk : j < q2
      · have hFj : j < F.length := by rw [HF.out.1]; exact hjk
        have hne0 : F ≠ [] := fun e => by rw [e] at hFj; simp at hFj
        have hrd := HR4.out.updB HU'.out (fun b off e => (HNE.out b off e hne0).1)
        obtain ⟨fb, fo, rfl, hfc⟩ := hrd.at j (by rw [nv_len]; exact hFj)
        obtain ⟨u, hu⟩ : ∃ u, u = F[j] := ⟨_, rfl⟩
        rw [show (nv F)[j]? = some (.int .i64 (u : Nat)) by simp [nv, hFj, hu]] at hfc
        have hun : u < n := part_lt HG.out HRN.out u ((HF.out.2.1 u).1 (by rw [hu]; exact List.getElem_mem _))
        have HFT : Hid (F.take (j + 1) = F.take j ++ [u]) := Lib.hid (by rw [hu, List.take_succ_eq_append_getElem hFj])
        have HS2 := Lib.hid (HS'.out.put u (d : Int))
        have HU2 : Hid (Upd (fun k => k = hb) W4 (wr.setCell ⟨hb, u, none⟩ (.int .i64 (d : Int)))) := Lib.hid (HU'.out.setCell (p := ⟨hb, u, none⟩) (.inl rfl) _)
        have HL2 : Hid ((h'.set u (d : Int)).length = n) := Lib.hid (by rw [List.length_set]; exact HL'.out)
        have HV2 : Hid (∀ v, v < n → (h'.set u (d : Int)).getD v 0 = if v ∈ F.take (j + 1) then (d : Int) else h.getD v 0) := Lib.hid (fun v hv => by
          rw [getD_set (by rw [HL'.out]; exact hun), HV'.out v hv, HFT.out]
          by_cases e : v = u
          · subst e; simp
          · simp [e])
        have bx := HS'.out.box.cell
        have hc : wr.cell? ⟨hb, u, none⟩ = some (.int .i64 (h'.getD u 0)) := by rw [HS'.out.h.cell]; simp only [List.getElem?_toArray]; exact lv_get (by rw [HL'.out]; exact hun)
        have hf := HS'.out.h.free u
        have hc0 : wr.cell? ⟨w.heap.size, 0, none⟩ = some (.pointer (some ⟨sb, 0, none⟩)) := (HU'.out.cells ⟨w.heap.size, 0, none⟩ (by rw [HC04.out]; rfl) (fun e => by have h1 : w.heap.size = hb := e; have := HD4.out.2.2.1; omega)).trans HC04.out
        generalize h'.getD u 0 = y0 at hc
        have i1 : (0 : Int) ≤ (j : Int) := by omega
        have i2 : (j : Int) < (q2 : Int) := by omega
        have i3 : (0 : Int) ≤ (u : Int) := by omega
        have i4 : (u : Int) < (n : Int) := by omega
        clear hrd hu hne0 hFj HFT HS' HU' HV' HL'
        go_wp2_with fail
        go_roundw
        case rel => exact ⟨j + 1, h'.set u (d : Int), by go_num, by omega, HL2, HV2, HS2, HU2⟩
        case measure => simp [intOf]; omega
      · obtain rfl : q2 = j := by omega
        have HKW9 : Hid (wr.heap[D]? = some (.deferred (some []))) := Lib.hid ((HU'.out.block D (Array.getElem?_eq_some_iff.1 HKD4.out).1 (fun e => by have h1 : D = hb := e; have := HD4.out; omega)).trans HKD4.out)
        have HFIN : Hid (NextEnd N S T n m a3 a4 a5 a6 a7 a8 c3 c4 c5 c6 c7 c8 wB ys ra rc rs sb hb h row d w (.returned (.slice ca q2 cc)) (wr.putObj D (.deferred none))) := Lib.hid (by
          have hp := putObj_upd wr D (.deferred none)
          have hd4 := HD4.out
          have hlt : ∀ x, x < w.heap.size → ¬ x = D := fun x hx e => by omega
          refine ⟨ca, q2, cc, F, h', rfl, HQC.out, HF.out.1, HF.out.2.1, HF.out.2.2, HL'.out, fun v hv => ?_, ⟨?_, HS'.out.box.upd hp (hlt _ hd4.2.2.2), HS'.out.cr0, HS'.out.rs0, HS'.out.h.upd hp (hlt _ hd4.2.2.1), HS'.out.lo⟩, ?_, ?_⟩
          · rw [HV'.out v hv, List.take_of_length_le (by rw [HF.out.1]; exact Nat.le_refl _)]
          · exact HS'.out.kp.then hp (fun i hi e => by have e : i = D := e; omega)
          · by_cases hne0 : F = []
            · exact .inl (by rw [hne0]; rfl)
            · have h1 := HR4.out.updB HU'.out (fun b off e => (HNE.out b off e hne0).1)
              rcases h1 with h1 | ⟨b, off, rfl, hc⟩
              · exact .inl h1
              · refine .inr ⟨b, off, rfl, fun i u hu => ?_⟩
                have h2 := hc i u hu
                refine (hp.cells ⟨b, off + i, none⟩ (by rw [h2]; rfl) (fun e => ?_)).trans h2
                have e : b = D := e
                subst e
                simp [World.cell?, HKW9.out] at h2
          · exact ((HK4.out.wide (S' := fun k => k = hb) (fun _ _ f => f.elim)).trans HU'.out).then hp (fun i hi e => by have e : i = D := e; omega))
        clear HS4 HS' HU' HV' HL' HF HR4 HNE
        go_wp2_with fail
        refine ⟨by simp, .inl ⟨_, _, rfl, run_takeDeferred HKW9.out, ?_⟩⟩
        exact ⟨_, by simp [results, Try.results52], HFIN.out⟩
  case stop =>
    rintro D cd pre W hD hp hx hK
    exact hx.elim
end Go.Proofs.Yticeionjlknlcaa
