/- NetJoins: what is left of a joined net; its ends met; the state of the walk. No walk. -/
import Derived.Test.YtafabeehbifgaaaJoins
import Derived.Test.YtafabeehbifgaaaMapJ
namespace Go.Proofs.Ytafabeehbifgaaa
set_option linter.unusedVariables false
open Go.RowKit

/-- What is left of each joined arc. -/
def leftAt (out ys : List Ar) (os : List Int) : List Ar := out.mapIdx fun k x => ⟨x.f, x.t, x.c - partOf ys os (k : Int)⟩
theorem leftAt_len (out ys : List Ar) (os : List Int) : (leftAt out ys os).length = out.length := by simp [leftAt]
theorem leftAt_zero (out : List Ar) : leftAt out [] [] = out := by
  unfold leftAt
  apply List.ext_getElem
  · simp
  · intro i h1 h2
    simp [partOf]
theorem leftAt_get (out ys : List Ar) (os : List Int) (k : Nat) (h : k < out.length) (h' : k < (leftAt out ys os).length) : (leftAt out ys os)[k] = ⟨out[k].f, out[k].t, out[k].c - partOf ys os (k : Int)⟩ := by simp [leftAt]
theorem left_skip (out ys : List Ar) (os : List Int) (a : Ar) (h : ys.length = os.length) : leftAt out (ys ++ [a]) (os ++ [-1]) = leftAt out ys os := by
  apply List.ext_getElem
  · simp [leftAt]
  · intro i h1 h2
    have hi : i < out.length := by simpa [leftAt] using h2
    rw [leftAt_get _ _ _ i hi, leftAt_get _ _ _ i hi, partOf_snoc _ _ h, if_neg (by omega)]
    simp
theorem left_step (out ys : List Ar) (os : List Int) (a : Ar) (h : ys.length = os.length) (q : Nat) (hq : q < out.length) : leftAt out (ys ++ [a]) (os ++ [(q : Int)]) = (leftAt out ys os).set q ⟨out[q].f, out[q].t, out[q].c - partOf ys os (q : Int) - a.c⟩ := by
  apply List.ext_getElem
  · simp [leftAt]
  · intro i h1 h2
    have hi : i < out.length := by simpa [leftAt] using h2
    rw [leftAt_get _ _ _ i hi, List.getElem_set, partOf_snoc _ _ h]
    by_cases e : q = i
    · subst e
      rw [if_pos rfl, if_pos rfl]
      congr 1
      omega
    · rw [if_neg (by omega), if_neg e, leftAt_get _ _ _ i hi]
      simp
theorem lastOf_le : ∀ (os : List Int) (m M : Int), m ≤ M → (∀ o ∈ os, o ≤ M) → os.foldl (fun m o => if m < o then o else m) m ≤ M
  | [], m, M, h, _ => h
  | o :: os, m, M, h, ho => by
    simp only [List.foldl_cons]
    refine lastOf_le os _ M ?_ (fun p hp => ho p (List.mem_cons_of_mem _ hp))
    have := ho o (by simp)
    split <;> omega
theorem last_bounds {N : Int} {ys out : List Ar} {ofl : List Int} (h : JI N ys out ofl) (ho : out.length ≤ 200) (i : Nat) : -1 ≤ lastOf (ofl.take i) ∧ lastOf (ofl.take i) ≤ 200 := by
  refine ⟨lastOf_ge _ _, lastOf_le _ _ 200 (by omega) (fun o hx => ?_)⟩
  have hx2 := List.mem_of_mem_take hx
  obtain ⟨j, hj, rfl⟩ := List.getElem_of_mem hx2
  rcases h.pos j (by rw [← h.len]; exact hj) hj with hp | ⟨_, k, hk, e1, _⟩
  · rw [hp.2]; omega
  · rw [e1]; omega
theorem last_next (ofl : List Int) (i : Nat) (hi : i < ofl.length) : lastOf (ofl.take (i + 1)) = if lastOf (ofl.take i) < ofl[i] then ofl[i] else lastOf (ofl.take i) := by
  rw [List.take_succ_eq_append_getElem hi, lastOf_snoc]
theorem left_next_skip {out ys : List Ar} {ofl : List Int} (hl : ofl.length = ys.length) (i : Nat) (hi : i < ys.length) (h : ofl[i] = -1) : leftAt out (ys.take (i + 1)) (ofl.take (i + 1)) = leftAt out (ys.take i) (ofl.take i) := by
  rw [List.take_succ_eq_append_getElem hi, List.take_succ_eq_append_getElem (by omega), h]
  exact left_skip out _ _ _ (by simp; omega)
theorem left_next_step {out ys : List Ar} {ofl : List Int} (hl : ofl.length = ys.length) (i : Nat) (hi : i < ys.length) (q : Nat) (hq : q < out.length) (h : ofl[i] = (q : Int)) (hq' : q < (leftAt out (ys.take i) (ofl.take i)).length) :
    leftAt out (ys.take (i + 1)) (ofl.take (i + 1)) = (leftAt out (ys.take i) (ofl.take i)).set q ⟨(leftAt out (ys.take i) (ofl.take i))[q].f, (leftAt out (ys.take i) (ofl.take i))[q].t, (leftAt out (ys.take i) (ofl.take i))[q].c - ys[i].c⟩ := by
  rw [leftAt_get _ _ _ q hq]
  rw [List.take_succ_eq_append_getElem hi, List.take_succ_eq_append_getElem (by omega), h]
  exact left_step out _ _ _ (by simp; omega) q hq
theorem capsOf_take (ys : List Ar) (i : Nat) (h : ∀ x ∈ ys, 0 ≤ x.c) : capsOf (ys.take i) ≤ capsOf ys := by
  have e : capsOf ys = capsOf (ys.take i) + capsOf (ys.drop i) := by rw [← capsOf_append, List.take_append_drop]
  have := capsOf_nonneg (ys.drop i) (fun x hx => h x (List.mem_of_mem_drop hx))
  omega
theorem left_room {N : Int} {ys out : List Ar} {ofl : List Int} (hy : Fine N [] ys) (ho : Fine N out []) (i : Nat) (q : Nat) (hq : q < out.length) (hq' : q < (leftAt out (ys.take i) (ofl.take i)).length) :
    -4611686018427387904 ≤ (leftAt out (ys.take i) (ofl.take i))[q].c ∧ (leftAt out (ys.take i) (ofl.take i))[q].c ≤ 4611686018427387904 := by
  rw [leftAt_get _ _ _ q hq]
  simp only
  have h1 := partOf_bounds (ys.take i) (ofl.take i) (q : Int) (fun x hx => hy.cy x (List.mem_of_mem_take hx))
  have h2 := capsOf_take ys i hy.cy
  have h3 := hy.sum
  have h4 := ho.sum
  have h5 := ho.co out[q] (List.getElem_mem _)
  have h6 := capsOf_ge out ho.co out[q] (List.getElem_mem _)
  simp only [capsOf] at h3 h4
  omega
theorem left_end {N : Int} {ys out : List Ar} {ofl : List Int} (h : JI N ys out ofl) (q : Nat) (hq' : q < (leftAt out (ys.take ys.length) (ofl.take ys.length)).length) : (leftAt out (ys.take ys.length) (ofl.take ys.length))[q].c = 0 := by
  have hq : q < out.length := by rw [leftAt_len] at hq'; exact hq'
  rw [leftAt_get _ _ _ q hq]
  simp only
  rw [List.take_of_length_le (Nat.le_refl _), List.take_of_length_le (by rw [h.len]; exact Nat.le_refl _), h.sum q hq]
  omega
/-- The ends that were met. -/
def metG (xs : List Ar) (f t : Int) : Option Int := if xs.any (fun x => x.f == f && x.t == t) then some 1 else none
theorem metG_nil : metG [] = fun _ _ => none := by funext f t; simp [metG]
theorem metG_none {out : List Ar} (h1 : ∀ i j (hi : i < out.length) (hj : j < out.length), out[i].f = out[j].f → out[i].t = out[j].t → i = j) (k : Nat) (hk : k < out.length) : metG (out.take k) out[k].f out[k].t = none := by
  unfold metG
  rw [if_neg]
  simp only [List.any_eq_true, not_exists, not_and]
  intro x hx
  obtain ⟨i, hi, rfl⟩ := List.getElem_of_mem hx
  have hik : i < k := by simp at hi; omega
  intro e
  simp at e
  have := h1 i k (by omega) hk e.1 e.2
  omega
theorem metG_snoc (xs : List Ar) (a : Ar) : metG (xs ++ [a]) = fun f' t' => if f' = a.f ∧ t' = a.t then some 1 else metG xs f' t' := by
  funext f' t'
  unfold metG
  rw [List.any_append]
  by_cases e : f' = a.f ∧ t' = a.t
  · obtain ⟨rfl, rfl⟩ := e
    simp
  · rw [if_neg e]
    have : ([a].any fun x => x.f == f' && x.t == t') = false := by
      simp
      intro h1 h2
      exact e ⟨h1.symm, h2.symm⟩
    rw [this, Bool.or_false]
/-- What Join has handed back, and what came in. -/
structure JW (w : World) (nb jb : Nat) (N S T : Int) (a aj af : Option Addr) (n c on cj cf : Nat) (ys out : List Ar) (ofl : List Int) (wr : World) : Prop where
  kp : Kept w wr
  nn : Blk wr nb #[.int .i64 N, .int .i64 S, .int .i64 T, .slice a n c] 24
  jj : Blk wr jb #[.int .i64 N, .int .i64 S, .int .i64 T, .slice aj on cj] 24
  an : Ars wr a ys
  aj' : Ars wr aj out
  of : Rd wr af (ofl.map (Value.int .i64))
theorem JW.kept {w : World} {nb jb : Nat} {N S T : Int} {a aj af : Option Addr} {n c on cj cf : Nat} {ys out : List Ar} {ofl : List Int} {wr w' : World} (h : JW w nb jb N S T a aj af n c on cj cf ys out ofl wr) (hk : Kept wr w') : JW w nb jb N S T a aj af n c on cj cf ys out ofl w' :=
  ⟨h.kp.trans hk, h.nn.kept hk, h.jj.kept hk, h.an.kept hk, h.aj'.kept hk, h.of.kept hk⟩
end Go.Proofs.Ytafabeehbifgaaa
