/- slices.Chunk at []int: the iterator's contract. -/
import Derived.Test.YticeionjlknlcaaAppended
import Derived.Test.YticeionjlknlcaaMapRd
import Derived.Lib.AppendZerosOnto
import Derived.RangeFuncNested
import Derived.RangeFuncBound
import Derived.RangeFuncCalls
import Derived.RangeFuncLeaves
import Derived.RangeFuncWrites
import Derived.Shelf.Abstract
import Derived.Shelf.RegionOpen
import Derived.OwnWalkIn
import Derived.TacticsInMore
import Derived.LoopNIn
import Derived.LoopIn
namespace Go.Proofs.Yticeionjlknlcaa
set_option linter.unusedVariables false
set_option linter.unusedSimpArgs false
open Go.RowKit

theorem kept_own {w W w' : World} {e : TypeId} {v : Value} {n : Nat} {xs : List Value} (h : Kept w W) (ho : W.ownsRow w.heap.size e 1 v n xs) (hu : Upd (fun k => v.ownBlock = some k) W w') : Kept w w' :=
  h.then hu fun i hi e => by have := (World.ownsRow.lt ho i e).1; omega
theorem own_base {w : World} {b b' : Nat} {e : TypeId} {v : Value} {n : Nat} {xs : List Value} (h : w.ownsRow b e 1 v n xs) (hb : b' ≤ b) : w.ownsRow b' e 1 v n xs := by
  refine ⟨h.1, h.2.imp id fun x => ?_⟩
  obtain ⟨g, cap, cur, e1, h1, r⟩ := x
  exact ⟨g, cap, cur, e1, Nat.le_trans hb h1, r⟩
/-- An empty row of its own is handed back. -/
def GrowEnd (w : World) (e : Ending) (w' : World) : Prop := ∃ a c, e = .returned (.slice a 0 c) ∧ w'.ownsRow w.heap.size 3 1 (.slice a 0 c) 0 [] ∧ Kept w w'
set_option maxRecDepth 100000 in
set_option maxHeartbeats 4000000 in
theorem Grow_none (n : Nat) (w : World) (hn : n ≤ 1000000) : Calls Try.prog 80 #[.slice none 0 0, .int .i64 n] w (GrowEnd w) := by
  have h1 : ¬ ((n : Int) < 0) := by omega
  have h3 : wrap64 (n : Int) = (n : Int) := by unfold wrap64; omega
  by_cases h0 : n = 0
  · subst h0
    go_enter Try.func80, Try.ntmps80
    go_wp2_with fail
    go_ret
    exact ⟨none, 0, rfl, World.ownsRow_nil _ _ _ _, Upd.refl _ _⟩
  · obtain ⟨i0, hi0, hz0, hz1, hz2⟩ := info_parts infoInt
    have hold : (Builtin.firstCells i0.size 0 (.slice none 0 0)).run Try.prog w.drew = .ok #[] w.drew := run_firstCells_none w.drew i0.size 0 0 0
    have hrz : ∀ ty, (Builtin.append_ #[26, 3] ty #[.slice none 0 0, .int .i64 (n : Int)]).run Try.prog w =
        .ok (.slice (some ⟨w.heap.size, 0, none⟩) n (grownCap w n 0 3)) (w.drew.alloc (.cells (#[] ++ Builtin.zeroCells (Value.int .i64 0).cells n ++ Builtin.zeroCells (Value.int .i64 0).cells (grownCap w n 0 3 - n)) 3)) := fun ty => by
      have h := Lib.run_append_grow_zeros (P := Try.prog) w 26 3 ty 3 i0 (.int .i64 0) .i64 .i64 Try.underlying26 Try.underlying3 hi0 hz0 none 0 0 [] hold n (by omega) (by omega) (by omega) (by omega) (by rw [hz2]; omega) (by
        rw [hz2]
        exact growslice_fits (by omega) (by omega))
      simpa using h
    have hGn : n ≤ grownCap w n 0 3 := grownCap_ge w _ _ _
    have hG63 : grownCap w n 0 3 ≤ maxLen := grownCap_le_maxLen w n 0 3 (by unfold maxLen; omega)
    obtain ⟨G, hG⟩ : ∃ G, G = grownCap w n 0 3 := ⟨_, rfl⟩
    rw [← hG] at hrz hGn hG63
    have hG0 : (G : Int) ≤ 9223372036854775807 := by unfold maxLen at hG63; omega
    have HO : Hid ((w.alloc (.cells (Builtin.zeroCells #[.int .i64 0] n ++ Builtin.zeroCells #[.int .i64 0] (G - n)) 3)).drew.ownsRow w.heap.size 3 1 (.slice (some ⟨w.heap.size, 0, none⟩) 0 G) 0 []) := Lib.hid ⟨rfl, .inr ⟨w.heap.size, G, _, rfl, Nat.le_refl _, (Blk.new w _ _).drew, by omega, hG63, by simp [Builtin.zeroCells]; omega, by simp⟩⟩
    have HK : Hid (Kept w (w.alloc (.cells (Builtin.zeroCells #[.int .i64 0] n ++ Builtin.zeroCells #[.int .i64 0] (G - n)) 3)).drew) := Lib.hid (((Upd.refl _ w).alloc _).drew)
    have h4 : (0 : Int) < (n : Int) := by omega
    clear hG hold
    go_enter Try.func80, Try.ntmps80
    go_wp2_with (at_builtin; refine Lib.wpList_append_run _ rfl _ _ _ _ rfl _ _ rfl rfl _ _ (hrz _) ?_)
    go_ret
    exact ⟨_, _, rfl, HO.out, HK.out⟩
/-- Rows of numbers in a row. -/
def RowsIs (w : World) (a : Option Addr) (LL : List (List Nat)) : Prop := ∃ vs, Rd w a vs ∧ vs.length = LL.length ∧ ∀ (j : Nat) (l : List Nat), LL[j]? = some l → ∃ a' c', vs[j]? = some (.slice a' l.length c') ∧ Rd w a' (nv l) ∧ SomeOr a' l.length c'
theorem RowsIs.kept {w w' : World} {a : Option Addr} {LL : List (List Nat)} (h : RowsIs w a LL) (k : Kept w w') : RowsIs w' a LL := by
  obtain ⟨vs, h1, h2, h3⟩ := h
  refine ⟨vs, h1.kept k, h2, fun j l hj => ?_⟩
  obtain ⟨a', c', e1, e2, e3⟩ := h3 j l hj
  exact ⟨a', c', e1, e2.kept k, e3⟩
theorem RowsIs.get {w : World} {a : Option Addr} {LL : List (List Nat)} (h : RowsIs w a LL) {j : Nat} (hj : j < LL.length) : ∃ b off a' c', a = some ⟨b, off, none⟩ ∧ w.cell? ⟨b, off + j, none⟩ = some (.slice a' (LL[j]).length c') ∧ Rd w a' (nv LL[j]) ∧ SomeOr a' (LL[j]).length c' := by
  obtain ⟨vs, h1, h2, h3⟩ := h
  obtain ⟨a', c', e1, e2, e3⟩ := h3 j LL[j] (by simp [hj])
  obtain ⟨b, off, e, hc⟩ := h1.at j (by omega)
  exact ⟨b, off, a', c', e, by rw [hc, e1], e2, e3⟩
/-- A row of its own is handed back. -/
def ConcEnd (l : List Nat) (w : World) (e : Ending) (w' : World) : Prop := ∃ a n c, e = .returned (.slice a n c) ∧ l.length = n ∧ w'.ownsRow w.heap.size 3 1 (.slice a n c) n (nv l) ∧ Kept w w'
theorem flat_le {LL : List (List Nat)} (j : Nat) : (LL.take j).flatten.length ≤ LL.flatten.length := by
  have := congrArg List.length (congrArg List.flatten (List.take_append_drop j LL))
  rw [List.flatten_append, List.length_append] at this
  omega
theorem flat_next {LL : List (List Nat)} {j : Nat} (hj : j < LL.length) : (LL.take (j + 1)).flatten = (LL.take j).flatten ++ LL[j] := by
  rw [List.take_succ_eq_append_getElem hj, List.flatten_append]
  simp
set_option maxRecDepth 100000 in
set_option maxHeartbeats 4000000 in
theorem Concat_any (LL : List (List Nat)) (a : Option Addr) (k c : Nat) (w : World) (hr : RowsIs w a LL) (hk : LL.length = k) (hk2 : k ≤ 1000) (hm : LL.flatten.length ≤ 100000) :
    Calls Try.prog 69 #[.slice a k c] w (ConcEnd LL.flatten w) := by
  have HR := Lib.hid hr
  have HK := Lib.hid hk
  have HM := Lib.hid hm
  clear hr hk hm
  go_enter Try.func69, Try.ntmps69
  go_wp2_with fail
  go_loopw [3, 11] (fun y z wr => ∃ j t : Nat, y = .int .i64 t ∧ z = .int .i64 j ∧ j ≤ k ∧ Hid ((LL.take j).flatten.length = t) ∧ Hid (Kept w wr)) (fun _ z _ => k - (intOf z).toNat)
  case atStart => exact ⟨0, 0, rfl, rfl, by omega, Lib.hid (by simp), Lib.hid (Upd.refl _ _)⟩
  case round =>
    obtain ⟨j, t, rfl, rfl, hj, HT, HKW⟩ := hrel
    by_cases hjk : j < k
    · obtain ⟨b, off, a', c', e, hc, -, -⟩ := (HR.out.kept HKW.out).get (j := j) (by rw [HK.out]; exact hjk)
      subst e
      obtain ⟨l, hl⟩ : ∃ l, (LL[j]'(by rw [HK.out]; exact hjk)).length = l := ⟨_, rfl⟩
      rw [hl] at hc
      have HT2 : Hid ((LL.take (j + 1)).flatten.length = t + l) := Lib.hid (by rw [flat_next (by rw [HK.out]; exact hjk), List.length_append, HT.out, hl])
      have htl : t + l ≤ 100000 := by have h1 := HT2.out; have h2 := flat_le (LL := LL) (j + 1); have h3 := HM.out; omega
      have i1 : (0 : Int) ≤ (j : Int) := by omega
      have i2 : (j : Int) < (k : Int) := by omega
      have i3 : ¬ ((t + l : Nat) : Int) < 0 := by omega
      have i4 : decide (((t + l : Nat) : Int) < 0) = false := decide_eq_false i3
      obtain ⟨s, hs⟩ : ∃ s, t + l = s := ⟨_, rfl⟩
      rw [hs] at i3 i4 HT2
      have HSS : Hid ((t : Int) + (l : Int) = (s : Int)) := Lib.hid (by omega)
      have i5 : ¬ ((t : Int) + (l : Int)) < 0 := by omega
      have hw : wrap64 ((t : Int) + (l : Int)) = (t : Int) + (l : Int) := by unfold wrap64; omega
      clear hl hs
      go_wp2_with fail
      go_roundw
      case rel => exact ⟨j + 1, s, congrArg _ HSS.out, by go_num, by omega, HT2, HKW⟩
      case measure => simp [intOf]; omega
    · obtain rfl : k = j := by omega
      have ht : t ≤ 1000000 := by have h1 := HT.out; have h2 := flat_le (LL := LL) k; have h3 := HM.out; omega
      clear HT
      go_wp2_with fail
      refine (Grow_none t _ ht).mono ?_
      rintro e w1 ⟨ga, gc, rfl, ho, hk1⟩
      have HK1 := Lib.hid (HKW.out.trans hk1)
      have HO1 : Hid (w1.ownsRow w.heap.size 3 1 (.slice ga 0 gc) 0 []) := Lib.hid (own_base ho HKW.out.size)
      clear ho hk1 HKW
      go_wp2_with fail
      go_loopw [6, 27] (fun y z wr => ∃ (j n : Nat) (oa : Option Addr) (oc : Nat), y = .slice oa n oc ∧ z = .int .i64 j ∧ j ≤ k ∧ Hid ((LL.take j).flatten.length = n) ∧ Hid (wr.ownsRow w.heap.size 3 1 (.slice oa n oc) n (nv (LL.take j).flatten)) ∧ Hid (Kept w wr)) (fun _ z _ => k - (intOf z).toNat)
      case atStart => exact ⟨0, 0, ga, gc, rfl, rfl, by omega, Lib.hid (by simp), Lib.hid (by simpa [nv] using HO1.out), HK1⟩
      case round =>
        clear HO1 HK1
        obtain ⟨j, n, oa, oc, rfl, rfl, hj, HT, HO, HKW⟩ := hrel
        by_cases hjk : j < k
        · obtain ⟨b, off, a', c', e, hc, hrd, hso⟩ := (HR.out.kept HKW.out).get (j := j) (by rw [HK.out]; exact hjk)
          subst e
          have HNX : Hid ((LL.take (j + 1)).flatten = (LL.take j).flatten ++ LL[j]'(by rw [HK.out]; exact hjk)) := Lib.hid (flat_next (by rw [HK.out]; exact hjk))
          obtain ⟨x, hx⟩ : ∃ x, LL[j]'(by rw [HK.out]; exact hjk) = x := ⟨_, rfl⟩
          rw [hx] at hc hrd hso HNX
          obtain ⟨l, hl⟩ : ∃ l, x.length = l := ⟨_, rfl⟩
          rw [hl] at hc hso
          have HT2 : Hid ((LL.take (j + 1)).flatten.length = n + l) := Lib.hid (by rw [HNX.out, List.length_append, HT.out, hl])
          have htl : n + l ≤ 2000000 := by have h1 := HT2.out; have h2 := flat_le (LL := LL) (j + 1); have h3 := HM.out; omega
          have i1 : (0 : Int) ≤ (j : Int) := by omega
          have i2 : (j : Int) < (k : Int) := by omega
          obtain ⟨i0, hi0, hz0, hz1, hz2⟩ := info_parts infoInt
          have ho := HO.out
          have hbs := HKW.out.size
          have h1c : ∀ u ∈ nv x, u.oneCell' = true := by
            intro u hu
            obtain ⟨y, -, rfl⟩ := List.mem_map.1 hu
            rfl
          have hlx : (nv x).length = l := by rw [nv_len, hl]
          clear hx hl
          go_wp2_with (first | (at_builtin; refine wpList_appended rfl _ _ 26 rfl w.heap.size 3 i0 (.int .i64 0) 8 Try.underlying26 hi0 hz0 hz1 hz2 rfl (by decide) _ _ _ rfl ho a' l c' (nv x) rfl hrd hlx hso h1c htl hbs ?_; intro na nc w7 hown hup; clear hi0 hz0 hz1 hz2 ho hbs hrd hso h1c hlx) | fail)
          have HK2 : Hid (Kept w w7) := Lib.hid (kept_own HKW.out HO.out hup)
          have HO2 : Hid (w7.ownsRow w.heap.size 3 1 (.slice na (n + l) nc) (n + l) (nv (LL.take (j + 1)).flatten)) := Lib.hid (by rw [HNX.out, show nv ((LL.take j).flatten ++ x) = nv (LL.take j).flatten ++ nv x by simp [nv]]; exact hown)
          clear hown hup HKW HO HT HNX hc
          obtain ⟨s, hs⟩ : ∃ s, n + l = s := ⟨_, rfl⟩
          rw [hs] at HO2 HT2 ⊢
          clear hs htl
          go_wp2_with fail
          go_roundw
          case rel => exact ⟨j + 1, s, na, nc, rfl, by go_num, by omega, HT2, HO2, HK2⟩
          case measure => simp [intOf]; omega
        · obtain rfl : k = j := by omega
          have HTA : Hid (LL.take k = LL) := Lib.hid (List.take_of_length_le (by rw [HK.out]; exact Nat.le_refl _))
          go_wp2_with fail
          go_ret
          exact ⟨oa, n, oc, rfl, by rw [← HT.out, HTA.out], by have := HO.out; rwa [HTA.out] at this, HKW.out⟩
end Go.Proofs.Yticeionjlknlcaa
namespace Go.Proofs.Yticeionjlknlcaa
set_option linter.unusedVariables false
set_option linter.unusedSimpArgs false
open Go.RowKit Go.Shelf
attribute [local go_sem] Oper.semAt_some
attribute [local go_sem] cell?_ext

def upto {α : Type} (f : Nat → α) (k : Nat) : List α := (List.range k).map f
theorem upto_succ {α : Type} (f : Nat → α) (k : Nat) : upto f (k + 1) = upto f k ++ [f k] := by simp [upto, List.range_succ]
theorem upto_length {α : Type} (f : Nat → α) (k : Nat) : (upto f k).length = k := by simp [upto]
/-- x[m:]. -/
theorem run_fromO {P : Program} {t e : TypeId} (ht : P.underlying t = some (.slice e)) (hs : (P.info? e).map (fun i => i.size) = some 1) (b off len cap m : Nat) (hm : m < len) (hc : len ≤ cap) (w : World) :
    (Instr.slice t (.slice (some ⟨b, off, none⟩) len cap) (some (.int .i64 (m : Int))) none none).run P w = .ok (.slice (some ⟨b, off + m, none⟩) (len - m) (cap - m)) w := by
  obtain ⟨i, hi, hsz⟩ := Option.map_eq_some_iff.1 hs
  have h : ¬ cap = m := by omega
  have hm2 : m ≤ len := by omega
  simp [Instr.slice, run_underlying ht, Instr.sliceBounds, Instr.sliceBound, asIntOf, sizeOf, typeInfo, hi, Result.andThen, add_off, hm2, hsz, h]
theorem infoI1 : (Try.prog.info? 3).map (fun i => i.size) = some 1 := by kernel_rfl
/-- x[m:m+l:m+l]. -/
theorem run_three {P : Program} {t e : TypeId} (ht : P.underlying t = some (.slice e)) (hs : (P.info? e).map (fun i => i.size) = some 1) (b off len cap m h : Nat) (hm : m < h) (hc : h ≤ cap) (w : World) :
    (Instr.slice t (.slice (some ⟨b, off, none⟩) len cap) (some (.int .i64 (m : Int))) (some (.int .i64 (h : Int))) (some (.int .i64 (h : Int)))).run P w = .ok (.slice (some ⟨b, off + m, none⟩) (h - m) (h - m)) w := by
  obtain ⟨i, hi, hsz⟩ := Option.map_eq_some_iff.1 hs
  have h1 : ¬ h = m := by omega
  have hm2 : m ≤ h := by omega
  simp [Instr.slice, run_underlying ht, Instr.sliceBounds, Instr.sliceBound, asIntOf, sizeOf, typeInfo, hi, Result.andThen, add_off, hm2, hsz, h1, hc]
/-- The numbers in two boxes stay. -/
def Boxes (Bs Bn : Nat) (W W' : World) : Prop := W'.cell? ⟨Bs, 0, none⟩ = W.cell? ⟨Bs, 0, none⟩ ∧ W'.cell? ⟨Bn, 0, none⟩ = W.cell? ⟨Bn, 0, none⟩
/-- How long the chunk from p on is. -/
def chLen (k sz p : Nat) : Nat := min sz (k - p)
set_option maxRecDepth 100000 in
set_option maxHeartbeats 2000000 in
theorem chunk1_in (n : Nat) (hn : 1 ≤ n) (l Bs Bn b off k c sz : Nat) (hsz : 1 ≤ sz) (hsz2 : sz ≤ 1000) (hk : k ≤ 1000) (hkc : k ≤ c) (J Jx : List Nat → World → Prop) (hJk : ∀ pre A B, J pre A → Kept A B → J pre B)
    (hY : ∀ (pre : List Nat) (x : Nat) (W : World), J pre W → pre.length < k → YieldAt Fence.wide (n - 1) Try.prog l #[.slice (some ⟨b, off + x, none⟩) (chLen k sz x) (chLen k sz x)] W fun e W' =>
      (e = .returned (.bool true) ∧ J (pre ++ [x]) W' ∧ Boxes Bs Bn W W') ∨ (e = .returned (.bool false) ∧ Jx (pre ++ [x]) W'))
    (W : World) (hBs : W.cell? ⟨Bs, 0, none⟩ = some (.slice (some ⟨b, off, none⟩) k c)) (hBn : W.cell? ⟨Bn, 0, none⟩ = some (.int .i64 (sz : Int))) (h0 : J [] W) :
    CallsIn Fence.wide n Try.prog 79 #[.func (.yield l) #[] #[], .pointer (some ⟨Bs, 0, none⟩), .pointer (some ⟨Bn, 0, none⟩)] W fun e W' => (∃ v, e = .returned v) ∧
      ((∃ ys, (∃ q, ys = upto (fun j => j * sz) q ∧ k ≤ q * sz ∧ q ≤ k) ∧ J ys W') ∨ (∃ pre, Jx pre W')) := by
  refine callsIn_of_wp Try.func79 rfl trivial ?_ rfl
  simp only [Try.ntmps79, List.size_toArray, List.length_cons, List.length_nil, Nat.reduceAdd, Nat.reduceSub, Array.replicate_succ, Array.replicate_zero, List.push_toArray, List.append_toArray, List.nil_append, List.cons_append]
  gi_wp2
  gi_loopw [4] (fun i wr => ∃ p j : Nat, i = .int .i64 p ∧ p = j * sz ∧ p < k + sz ∧ J (upto (fun j => j * sz) j) wr ∧ wr.cell? ⟨Bs, 0, none⟩ = some (.slice (some ⟨b, off, none⟩) k c) ∧ wr.cell? ⟨Bn, 0, none⟩ = some (.int .i64 (sz : Int))) (fun i _ => k + sz - (intOf i).toNat)
  case atStart => exact ⟨0, 0, rfl, by omega, by omega, h0, hBs, hBn⟩
  case round =>
    obtain ⟨p, j, rfl, hp, hpk, hJ, c1, c2⟩ := hrel
    by_cases hlt : p < k
    · have hjk : j < k := by
        have : j * 1 ≤ j * sz := Nat.mul_le_mul_left j hsz
        omega
      have i1 : (p : Int) < (k : Int) := by omega
      have i0 : (0 : Int) ≤ (p : Int) := by omega
      have hsl := fun w => run_fromO (P := Try.prog) Try.underlying26 infoI1 b off k c p hlt hkc w
      have HNX : Hid (p + sz = (j + 1) * sz ∧ p + sz < k + sz ∧ upto (fun j => j * sz) (j + 1) = upto (fun j => j * sz) j ++ [p] ∧ k + sz - (p + sz) < k + sz - p) := Lib.hid ⟨by rw [Nat.add_mul, hp]; omega, by omega, by rw [upto_succ, hp], by omega⟩
      obtain ⟨p2, hp2⟩ : ∃ p2, p + sz = p2 := ⟨_, rfl⟩
      have HP2 : Hid (wrap64 ((p : Int) + (sz : Int)) = (p2 : Int)) := Lib.hid (by rw [← hp2]; unfold wrap64; omega)
      have HPP : Hid ((p : Int) + (sz : Int) = (p2 : Int)) := Lib.hid (by omega)
      rw [hp2] at HNX
      clear hp2 hp
      obtain ⟨kd, hkd⟩ : ∃ kd, k - p = kd := ⟨_, rfl⟩
      rw [hkd] at hsl
      by_cases hz : kd < sz
      · as_aux_lemma =>
        have HD : Hid (chLen k sz p = kd) := Lib.hid (by unfold chLen; omega)
        have hw : wrap64 ((p : Int) + (kd : Int)) = (p : Int) + (kd : Int) := by unfold wrap64; omega
        have hc1 : (p : Int) + (kd : Int) ≤ (c : Int) := by clear hw; omega
        have hc2 : (p : Int) ≤ (p : Int) + (kd : Int) := by clear hw; omega
        have hc3 : (0 : Int) ≤ (p : Int) + (kd : Int) := by clear hw; omega
        have hc4 : ¬ ((p : Int) + (kd : Int)).toNat = p := by clear hw; omega
        clear hkd
        gi_wp2_with fail
        gi_quiet (fail)
        have hkq : Kept wr (wr.drewN nq) := ⟨rfl, rfl, rfl, Nat.le_refl _, fun _ _ _ => rfl⟩
        have d1 := (keptCells hkq _ (by rw [c1]; rfl)).trans c1
        have d2 := (keptCells hkq _ (by rw [c2]; rfl)).trans c2
        have HY := Lib.hid (hY _ p _ (hJk _ _ _ hJ hkq) (by rw [upto_length]; exact hjk))
        clear hJ hkq c1 c2 hY h0 hBs hBn
        rw [HD.out] at HY
        obtain ⟨fn, tmps, assign, body, hy, hR⟩ := HY.out
        have HRR := Lib.hid hR
        clear HY hR
        gi_wp2
        refine HRR.out.mono ?_
        clear hy HRR hw hc1 hc2 hc3 hc4
        rintro e W3 (⟨rfl, hJ3, hk3⟩ | ⟨rfl, hJx3⟩)
        · have e1 : W3.cell? ⟨Bn, 0, none⟩ = some (.int .i64 (sz : Int)) := hk3.2.trans d2
          have hw2 : wrap64 ((p : Int) + (sz : Int)) = (p : Int) + (sz : Int) := by unfold wrap64; omega
          have e3 := hk3.1.trans d1
          have HJ3 := Lib.hid hJ3
          clear d1 d2 hk3 hJ3
          gi_wp2
          go_roundw
          case rel => exact ⟨p2, j + 1, congrArg _ HPP.out, HNX.out.1, HNX.out.2.1, by rw [HNX.out.2.2.1]; exact HJ3.out, e3, e1⟩
          case measure => (have h1 := HNX.out.2.2.2; have h2 := HPP.out; clear hw2; simp [intOf]; omega)
        · gi_wp2
          refine bodyPost_ret (results_none rfl _ _ _) rfl ?_
          exact ⟨⟨_, rfl⟩, .inr ⟨_, hJx3⟩⟩
      · as_aux_lemma =>
        have HD : Hid (chLen k sz p = sz) := Lib.hid (by unfold chLen; omega)
        have hw : wrap64 ((p : Int) + (sz : Int)) = (p : Int) + (sz : Int) := by unfold wrap64; omega
        have hc1 : (p : Int) + (sz : Int) ≤ (c : Int) := by clear hw; omega
        have hc2 : (p : Int) ≤ (p : Int) + (sz : Int) := by clear hw; omega
        have hc3 : (0 : Int) ≤ (p : Int) + (sz : Int) := by clear hw; omega
        have hc4 : ¬ ((p : Int) + (sz : Int)).toNat = p := by clear hw; omega
        clear hkd
        gi_wp2_with fail
        gi_quiet (fail)
        have hkq : Kept wr (wr.drewN nq) := ⟨rfl, rfl, rfl, Nat.le_refl _, fun _ _ _ => rfl⟩
        have d1 := (keptCells hkq _ (by rw [c1]; rfl)).trans c1
        have d2 := (keptCells hkq _ (by rw [c2]; rfl)).trans c2
        have HY := Lib.hid (hY _ p _ (hJk _ _ _ hJ hkq) (by rw [upto_length]; exact hjk))
        clear hJ hkq c1 c2 hY h0 hBs hBn
        rw [HD.out] at HY
        obtain ⟨fn, tmps, assign, body, hy, hR⟩ := HY.out
        have HRR := Lib.hid hR
        clear HY hR
        gi_wp2
        refine HRR.out.mono ?_
        clear hy HRR hw hc1 hc2 hc3 hc4
        rintro e W3 (⟨rfl, hJ3, hk3⟩ | ⟨rfl, hJx3⟩)
        · have e1 : W3.cell? ⟨Bn, 0, none⟩ = some (.int .i64 (sz : Int)) := hk3.2.trans d2
          have hw2 : wrap64 ((p : Int) + (sz : Int)) = (p : Int) + (sz : Int) := by unfold wrap64; omega
          have e3 := hk3.1.trans d1
          have HJ3 := Lib.hid hJ3
          clear d1 d2 hk3 hJ3
          gi_wp2
          go_roundw
          case rel => exact ⟨p2, j + 1, congrArg _ HPP.out, HNX.out.1, HNX.out.2.1, by rw [HNX.out.2.2.1]; exact HJ3.out, e3, e1⟩
          case measure => (have h1 := HNX.out.2.2.2; have h2 := HPP.out; clear hw2; simp [intOf]; omega)
        · gi_wp2
          refine bodyPost_ret (results_none rfl _ _ _) rfl ?_
          exact ⟨⟨_, rfl⟩, .inr ⟨_, hJx3⟩⟩
    · have HQ : Hid (k ≤ j * sz ∧ j ≤ k) := Lib.hid ⟨by omega, by
        apply Classical.byContradiction
        intro h9
        have h1 := Nat.mul_le_mul_right sz (show k + 1 ≤ j by omega)
        have h2 := Nat.mul_le_mul_left k hsz
        rw [Nat.add_mul] at h1
        omega⟩
      clear hp hpk
      gi_wp2
      go_end0
      exact ⟨⟨_, rfl⟩, .inl ⟨_, ⟨j, rfl, HQ.out⟩, hJ⟩⟩
end Go.Proofs.Yticeionjlknlcaa
