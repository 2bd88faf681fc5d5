/- Shorter and shorter, as long as something changes: what makes it so far. Plain. -/
import Derived.Test.YtoapekkmaajfmaaDistP
import Derived.Test.YtoapekkmaajfmaaRev
import Derived.Test.YtoapekkmaajfmaaTail
namespace Go.Proofs.Ytoapekkmaajfmaa
set_option linter.unusedVariables false
set_option linter.unusedSimpArgs false
open Go.RowKit

theorem sum_set_lt : ∀ {l : List Nat} {i x : Nat}, i < l.length → x < l.getD i 0 → (l.set i x).sum < l.sum
  | [], _, _, h, _ => by simp at h
  | a :: l, 0, x, _, h => by simp at h; simp; omega
  | a :: l, i + 1, x, h, hx => by
    simp at h
    have := sum_set_lt (l := l) (i := i) (x := x) h (by simpa using hx)
    simp
    omega
/-- So far at most, by some way. -/
structure RL (n s : Nat) (E : Nat → Nat → Prop) (d : List Nat) : Prop where
  len : d.length = n
  lt : s < n
  src : d.getD s 0 = 0
  le : ∀ v, v < n → d.getD v 0 ≤ n
  par : ∀ v, v < n → v ≠ s → d.getD v 0 < n → ∃ u, u < n ∧ E u v ∧ d.getD u 0 + 1 ≤ d.getD v 0
theorem RL.start {n s : Nat} (E : Nat → Nat → Prop) (hs : s < n) : RL n s E ((List.replicate n n).set s 0) := by
  have g : ∀ v, v < n → ((List.replicate n n).set s 0).getD v 0 = if s = v then 0 else n := fun v hv => by
    rw [getD_set (by simpa using hs)]
    split
    · rfl
    · exact rep_get hv
  refine ⟨by simp, hs, by rw [g s hs, if_pos rfl], fun v hv => by rw [g v hv]; split <;> omega, fun v hv hne hl => ?_⟩
  rw [g v hv, if_neg (fun e => hne e.symm)] at hl
  omega
theorem RL.lower {n s : Nat} {E : Nat → Nat → Prop} {d : List Nat} (h : RL n s E d) {x y : Nat} (hx : x < n) (hy : y < n) (he : E x y) (hl : d.getD x 0 + 1 < d.getD y 0) :
    RL n s E (d.set y (d.getD x 0 + 1)) ∧ (d.set y (d.getD x 0 + 1)).sum < d.sum := by
  have hyl : y < d.length := by rw [h.len]; exact hy
  have g : ∀ v, (d.set y (d.getD x 0 + 1)).getD v 0 = if y = v then d.getD x 0 + 1 else d.getD v 0 := fun v => getD_set hyl
  have hys : y ≠ s := fun e => by have := h.src; rw [← e] at this; omega
  have hyn := h.le y hy
  refine ⟨⟨by simpa using h.len, h.lt, by rw [g, if_neg hys]; exact h.src, fun v hv => ?_, fun v hv hne hlt => ?_⟩, sum_set_lt hyl hl⟩
  · rw [g]; split
    · omega
    · exact h.le v hv
  · rw [g] at hlt ⊢
    split at hlt
    · rename_i e
      subst e
      rw [if_pos rfl]
      exact ⟨x, hx, he, by rw [g, if_neg (by intro e; subst e; omega)]; exact Nat.le_refl _⟩
    · rename_i e
      rw [if_neg e]
      obtain ⟨u, hu, h1, h2⟩ := h.par v hv hne hlt
      refine ⟨u, hu, h1, ?_⟩
      rw [g]; split
      · rename_i e2; subst e2; omega
      · exact h2
theorem RL.done {n s : Nat} {E : Nat → Nat → Prop} {d : List Nat} (h : RL n s E d) (hst : ∀ u v, u < n → v < n → E u v → d.getD v 0 ≤ d.getD u 0 + 1) : IsD n s E d :=
  ⟨h.len, h.lt, h.src, h.le, hst, fun v hv hne hl => by
    obtain ⟨u, hu, h1, h2⟩ := h.par v hv hne hl
    exact ⟨u, hu, h1, by have := hst u v hu hv h1; omega⟩⟩
/-- Where an arc is looked from, and where it may make nearer: z: to a vertex, against the arcs. -/
def rlX (n : Nat) (ys : List Ar) (z : Bool) (a : Nat) : Nat := if z then hd n ys a else tl ys n a
def rlY (n : Nat) (ys : List Ar) (z : Bool) (a : Nat) : Nat := if z then tl ys n a else hd n ys a
def rlE (n m : Nat) (ys : List Ar) (rs : List Int) (z : Bool) (x y : Nat) : Prop := ∃ a, a < m ∧ rlX n ys z a = x ∧ rlY n ys z a = y ∧ 0 < rs.getD a 0
theorem rlE_true (n m : Nat) (ys : List Ar) (rs : List Int) (x y : Nat) : rlE n m ys rs true x y ↔ OpenA n m ys rs y x := by
  unfold rlE OpenA rlX rlY
  simp only [if_true]
  exact ⟨fun ⟨a, h1, h2, h3, h4⟩ => ⟨a, h1, h3, h2, h4⟩, fun ⟨a, h1, h2, h3, h4⟩ => ⟨a, h1, h3, h2, h4⟩⟩
theorem rlE_false (n m : Nat) (ys : List Ar) (rs : List Int) (x y : Nat) : rlE n m ys rs false x y ↔ OpenA n m ys rs x y := by
  unfold rlE OpenA rlX rlY
  simp only [Bool.false_eq_true, if_false]
/-- How a round goes: whether something changed since d0; the first k arcs. -/
structure PG (n : Nat) (ys : List Ar) (rs : List Int) (z : Bool) (d0 d : List Nat) (b : Bool) (k : Nat) : Prop where
  t : b = true → d.sum < d0.sum
  f : b = false → d = d0 ∧ ∀ c, c < k → 0 < rs.getD c 0 → d.getD (rlY n ys z c) 0 ≤ d.getD (rlX n ys z c) 0 + 1
theorem PG.start (n : Nat) (ys : List Ar) (rs : List Int) (z : Bool) (d : List Nat) : PG n ys rs z d d false 0 := ⟨fun h => (by cases h), fun _ => ⟨rfl, fun c h => (by omega)⟩⟩
theorem PG.pass {n : Nat} {ys : List Ar} {rs : List Int} {z : Bool} {d0 d : List Nat} {b : Bool} {k : Nat} (h : PG n ys rs z d0 d b k) (hk : 0 < rs.getD k 0 → d.getD (rlY n ys z k) 0 ≤ d.getD (rlX n ys z k) 0 + 1) : PG n ys rs z d0 d b (k + 1) :=
  ⟨h.t, fun hb => ⟨(h.f hb).1, fun c hc hr => by
    rcases Nat.lt_or_ge c k with h1 | h1
    · exact (h.f hb).2 c h1 hr
    · obtain rfl : c = k := by omega
      exact hk hr⟩⟩
theorem PG.put {n : Nat} {ys : List Ar} {rs : List Int} {z : Bool} {d0 d d' : List Nat} {b : Bool} {k k' : Nat} (h : PG n ys rs z d0 d b k) (hs : d'.sum < d.sum) : PG n ys rs z d0 d' true k' :=
  ⟨fun _ => by
    cases b with
    | true => have := h.t rfl; omega
    | false => obtain ⟨h1, -⟩ := h.f rfl; rw [← h1]; exact hs, fun h => (by cases h)⟩
/-- The row d ahead of what else its array has. -/
structure DW (w : World) (cb g : Nat) (C : Array Value) (TC : TypeId) (d : List Nat) (rest : List Value) (wr : World) : Prop where
  kp : Kept w wr
  box : Blk wr cb C TC
  dd : Blk wr g (nv d ++ rest).toArray 3
  ne : cb ≠ g
  lo : w.heap.size ≤ g
theorem DW.kept {w : World} {cb g : Nat} {C : Array Value} {TC : TypeId} {d : List Nat} {rest : List Value} {wr w' : World} (h : DW w cb g C TC d rest wr) (k : Kept wr w') : DW w cb g C TC d rest w' :=
  ⟨h.kp.trans k, h.box.kept k, h.dd.kept k, h.ne, h.lo⟩
theorem DW.at {w : World} {cb g : Nat} {C : Array Value} {TC : TypeId} {d : List Nat} {rest : List Value} {wr : World} (h : DW w cb g C TC d rest wr) (v : Nat) (hv : v < d.length) : wr.cell? ⟨g, v, none⟩ = some (.int .i64 (d.getD v 0 : Nat)) := by
  rw [h.dd.cell]
  simp only [List.getElem?_toArray]
  rw [List.getElem?_append_left (by rw [nv_len]; exact hv), nv_get hv]
theorem DW.set {w : World} {cb g : Nat} {C : Array Value} {TC : TypeId} {d : List Nat} {rest : List Value} {wr : World} (h : DW w cb g C TC d rest wr) (v x : Nat) (hv : v < d.length) : DW w cb g C TC (d.set v x) rest (wr.setCell ⟨g, v, none⟩ (.int .i64 (x : Nat))) := by
  refine ⟨Kept.set h.kp h.lo _, h.box.other (p := ⟨g, v, none⟩) h.ne _, ?_, h.ne, h.lo⟩
  have := h.dd.set v (.int .i64 (x : Nat))
  have e : (nv d ++ rest).toArray.setIfInBounds v (.int .i64 (x : Nat)) = (nv (d.set v x) ++ rest).toArray := by
    simp [nv, List.map_set, hv]
  rwa [e] at this
/-- What is owned, as such a row. -/
theorem dw_of {w wr : World} {base cb k c : Nat} {a : Option Addr} {C : Array Value} {TC : TypeId} {d : List Nat} (hk : Kept w wr) (hb : Blk wr cb C TC) (h : wr.ownsRow base 3 1 (.slice a k c) k (nv d)) (hn : 0 < k) (hw : w.heap.size ≤ base) (ht : 3 ≠ TC) :
    ∃ g rest, a = some ⟨g, 0, none⟩ ∧ DW w cb g C TC d rest wr := by
  rcases h.2 with ⟨h1, h2⟩ | ⟨g, cap, cur, h1, h2, h3, h4, h5, h6, h7⟩
  · omega
  · cases h1
    refine ⟨g, cur.toList.drop (k * 1), rfl, hk, hb, ?_, ?_, by omega⟩
    · rw [← h7, List.take_append_drop]
      exact h3
    · intro e
      subst e
      have hz := (Blk.same hb (show Blk wr _ cur 3 from h3)).2
      exact ht hz.symm
end Go.Proofs.Ytoapekkmaajfmaa
