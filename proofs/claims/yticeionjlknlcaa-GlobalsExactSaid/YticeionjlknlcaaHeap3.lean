/- container/heap upon repair's queue: Pop, up, down, heap.Push, heap.Pop. -/
import Derived.Test.YticeionjlknlcaaHeap2
namespace Go.Proofs.Yticeionjlknlcaa
set_option linter.unusedVariables false
set_option linter.unusedSimpArgs false
open Go.RowKit
attribute [local go_sem] cell?_ext

theorem own_less {w : World} {B k cap : Nat} {a : Option Addr} {xs : List (Int × Int)} {x : Int × Int} (h : w.ownsRow B 78 2 (.slice a (k + 1) cap) (k + 1) (spcs (xs ++ [x]))) (hk : xs.length = k) : ∃ g, a = some ⟨g, 0, none⟩ ∧ k + 1 ≤ cap ∧ w.ownsRow B 78 2 (.slice a k cap) k (spcs xs) := by
  have hl : (spcs xs).length = k * 2 := by rw [spcs_len, hk]
  rcases h.2 with ⟨e, -⟩ | ⟨g, cap', cur, e, hb, hh, hle, hmx, hsz, ht⟩
  · cases e
  · cases e
    refine ⟨g, rfl, hle, by rw [hl], .inr ⟨g, cap, cur, rfl, hb, hh, by omega, hmx, hsz, ?_⟩⟩
    have h2 : (cur.toList.take ((k + 1) * 2)).take (k * 2) = (spcs (xs ++ [x])).take (k * 2) := by rw [ht]
    rw [List.take_take, Nat.min_eq_left (by omega), spcs_push, List.take_append_of_le_length (by omega), List.take_of_length_le (l := spcs xs) (by omega)] at h2
    exact h2
set_option maxRecDepth 100000 in
set_option maxHeartbeats 4000000 in
theorem qpop_any {w : World} {qb base n c : Nat} {a : Option Addr} {xs : List (Int × Int)} {x : Int × Int} (h : QF w qb base (.slice a (n + 1) c) (xs ++ [x])) (hn : xs.length = n) (hk : n ≤ 1000000) :
    Calls Try.prog 117 #[.pointer (some ⟨qb, 0, none⟩)] w fun e w' => e = .returned (.iface 78 (.agg #[.int .i64 x.1, .int .i64 x.2])) ∧ ∃ v', QF w' qb base v' xs ∧ QS qb (.slice a (n + 1) c) v' w w' := by
  have hrow := h.row
  rw [List.length_append, List.length_singleton, hn] at hrow
  obtain ⟨g, rfl, hcap, hless⟩ := own_less hrow hn
  obtain ⟨ls, hR, hl, -⟩ := own_rows hrow
  have hx : (xs ++ [x])[n]? = some x := by rw [← hn]; simp
  have d0 : w.cell? ⟨g, n * 2, none⟩ = some (.int .i64 x.1) := by have := hR.cell (i := n) (o := n * 2) (row_at hx) rfl 0 (by omega); simpa [spc] using this
  have d1 : w.cell? ⟨g, n * 2 + 1, none⟩ = some (.int .i64 x.2) := by have := hR.cell (i := n) (o := n * 2) (row_at hx) rfl 1 (by omega); simpa [spc] using this
  have hq := h.cell
  have hqf := h.box.free 0
  have hql := h.box.lt
  have hgl := hR.blk.lt
  have hlo := h.lo
  have hgb : base ≤ g := (World.ownsRow.lt hrow g rfl).1
  have hgq : ¬ g = qb := by omega
  have hbox := Lib.hid h.box
  have hup := h.up
  have HLS := Lib.hid hless
  have htk := fun w => run_take (P := Try.prog) Try.underlying73 (size := 2) (by kernel_rfl) (some ⟨g, 0, none⟩) (n + 1) c n (by omega) w
  have n1 : ((n + 1 : Nat) : Int) - 1 = (n : Int) := by omega
  have n2 : (n : Int) < ((n + 1 : Nat) : Int) := by omega
  have n3 : (0 : Int) ≤ (n : Int) := by omega
  generalize x.1 = x1 at d0 ⊢
  generalize x.2 = x2 at d1 ⊢
  clear hR hl hx hrow hless h
  go_enter Try.func117, Try.ntmps117
  go_wp2_with fail
  go_returns
  have hU : Upd (fun k => k = qb) w ((w.setCell ⟨qb, 0, none⟩ (.slice (some ⟨g, 0, none⟩) n c)).alloc (.cells #[.int .i64 x1, .int .i64 x2] 78)) := (Upd.setCell (S := fun k => k = qb) (p := ⟨qb, 0, none⟩) (Upd.refl _ _) (.inl rfl) _).alloc _
  refine ⟨rfl, .slice (some ⟨g, 0, none⟩) n c, ⟨?_, ?_, hlo, Nat.le_trans hup hU.size⟩, hU.wide (fun k _ e => .inl e), fun k e => .inl e⟩
  · have := (hbox.out.set 0 (.slice (some ⟨g, 0, none⟩) n c)).alloc (.cells #[.int .i64 x1, .int .i64 x2] 78)
    simpa using this
  · rw [hn]
    exact ownsRow_upd HLS.out hU (fun k hk e => by omega)
/-- It tells something. -/
def TellsB (e : Ending) : Prop := ∃ z, e = .returned (.bool z)
/-- What turns the row about. -/
def Turned (w : World) (qb base : Nat) (v : Value) (xs : List (Int × Int)) (wz : World) : Prop := ∃ ys, ys.Perm xs ∧ QF wz qb base v ys ∧ QS qb v v w wz
theorem perm_swap {xs : List (Int × Int)} {i j : Nat} {x y : Int × Int} (hx : xs[i]? = some x) (hy : xs[j]? = some y) : ((xs.set i y).set j x).Perm xs := by
  obtain ⟨h1, rfl⟩ := List.getElem?_eq_some_iff.1 hx
  obtain ⟨h2, rfl⟩ := List.getElem?_eq_some_iff.1 hy
  exact List.set_set_perm h1 h2
theorem QF.swapped {w w' : World} {qb base n c : Nat} {xs : List (Int × Int)} {i j g : Nat} {x y : Int × Int} (h : QF w qb base (.slice (some ⟨g, 0, none⟩) n c) xs) (hn : xs.length = n)
    (ho : w'.ownsRow base 78 2 (.slice (some ⟨g, 0, none⟩) n c) n (spcs ((xs.set i y).set j x))) (hU : Upd (fun b => b = g) w w') : QF w' qb base (.slice (some ⟨g, 0, none⟩) n c) ((xs.set i y).set j x) ∧ QS qb (.slice (some ⟨g, 0, none⟩) n c) (.slice (some ⟨g, 0, none⟩) n c) w w' := by
  have hg : base ≤ g := (World.ownsRow.lt h.row g rfl).1
  have hlo := h.lo
  refine ⟨⟨h.box.upd hU (by omega), by rw [List.length_set, List.length_set, hn]; exact ho, h.lo, Nat.le_trans h.up hU.size⟩, hU.wide (fun k _ e => .inr (by subst e; rfl)), fun k e => .inl e⟩
set_option maxRecDepth 100000 in
set_option maxHeartbeats 4000000 in
theorem hup_any {w : World} {qb base n c g : Nat} {xs : List (Int × Int)} (h : QF w qb base (.slice (some ⟨g, 0, none⟩) n c) xs) (hn : xs.length = n) (j : Nat) (hj : j < n) (hk : n ≤ 1000000) :
    Calls Try.prog 60 #[.iface 71 (.pointer (some ⟨qb, 0, none⟩)), .int .i64 j] w fun e w' => e = .returned (.tuple #[]) ∧ Turned w qb base (.slice (some ⟨g, 0, none⟩) n c) xs w' := by
  have hml := meth_emb "Less" 116 (by kernel_rfl)
  have hms := meth_emb "Swap" 119 (by kernel_rfl)
  have HQ := Lib.hid h
  have HN := Lib.hid hn
  clear h hn
  go_enter Try.func60, Try.ntmps60
  go_wp2_with fail
  go_loopw [1] (fun y wr => ∃ (i : Nat) (ys : List (Int × Int)), y = .int .i64 i ∧ i < n ∧ Hid (ys.Perm xs) ∧ Hid (QF wr qb base (.slice (some ⟨g, 0, none⟩) n c) ys) ∧ Hid (QS qb (.slice (some ⟨g, 0, none⟩) n c) (.slice (some ⟨g, 0, none⟩) n c) w wr)) (fun y _ => (intOf y).toNat)
  case atStart => exact ⟨j, xs, rfl, hj, Lib.hid (List.Perm.refl _), HQ, Lib.hid (QS.refl _ _ _)⟩
  case round =>
    obtain ⟨k, ys, rfl, hkn, HP, HQ1, HS1⟩ := hrel
    clear HQ
    by_cases hk0 : k = 0
    · as_aux_lemma =>
      subst hk0
      go_wp2_with fail
      go_returns
      exact ⟨rfl, ys, HP.out, HQ1.out, HS1.out⟩
    · as_aux_lemma =>
      obtain ⟨i, hi⟩ : ∃ i, (k - 1) / 2 = i := ⟨_, rfl⟩
      have hik : i < k := by omega
      have hq : ((k : Int) - 1).tdiv 2 = (i : Int) := by rw [Int.tdiv_eq_ediv_of_nonneg (by omega)]; omega
      have hne : ((i : Int) == (k : Int)) = false := by simp; omega
      have hl1 := hml wr qb _ _ _ HQ1.out.cell
      have hkp : 1 ≤ (k : Int) := by omega
      have hyn : ys.length = n := by rw [HP.out.length_eq]; exact HN.out
      have hrow := HQ1.out.row
      rw [hyn] at hrow
      have HROW := Lib.hid hrow
      have HYN := Lib.hid hyn
      clear hrow hyn hi
      go_wp2_with fail
      refine (less_any HROW.out k i hkn (by omega) hk).mono ?_
      rintro e w1 ⟨z, rfl, hk1⟩
      have HQ2 := Lib.hid (HQ1.out.kept hk1)
      have HS2 := Lib.hid (HS1.out.trans (QS.kept hk1))
      have HROW2 := Lib.hid (ownsRow_upd HROW.out hk1 (fun _ _ f => f))
      clear hk1 HQ1 HS1 HROW hl1
      cases z
      · go_wp2_with fail
        go_returns
        exact ⟨rfl, ys, HP.out, HQ2.out, HS2.out⟩
      · have hl2 := hms w1 qb _ _ _ HQ2.out.cell
        obtain ⟨x, hx⟩ : ∃ x, ys[i]? = some x := ⟨_, List.getElem?_eq_getElem (by have := HYN.out; omega)⟩
        obtain ⟨y, hy⟩ : ∃ y, ys[k]? = some y := ⟨_, List.getElem?_eq_getElem (by have := HYN.out; omega)⟩
        have HXY := Lib.hid (And.intro hx hy)
        have HSW := Lib.hid (swap_any HROW2.out i k x y hx hy hk)
        clear hx hy
        go_wp2_with fail
        refine HSW.out.mono ?_
        rintro e w2 ⟨rfl, ho, hU⟩
        have h9 := HQ2.out.swapped HYN.out ho hU
        have HQ3 := Lib.hid h9.1
        have HS3 := Lib.hid (HS2.out.trans h9.2)
        have HP3 := Lib.hid ((perm_swap HXY.out.1 HXY.out.2).trans HP.out)
        clear h9 ho hU HQ2 HS2 HP hl2 HSW
        go_wp2_with fail
        go_roundw
        case rel => exact ⟨i, _, rfl, by omega, HP3, HQ3, HS3⟩
        case measure => simp [intOf]; omega
set_option maxRecDepth 100000 in
set_option maxHeartbeats 8000000 in
theorem hdown_any {w : World} {qb base n c g : Nat} {xs : List (Int × Int)} (h : QF w qb base (.slice (some ⟨g, 0, none⟩) n c) xs) (hn : xs.length = n) (i0 m : Nat) (hi : i0 < n) (hm : m ≤ n) (hk : n ≤ 1000000) :
    Calls Try.prog 61 #[.iface 71 (.pointer (some ⟨qb, 0, none⟩)), .int .i64 i0, .int .i64 m] w fun e w' => TellsB e ∧ Turned w qb base (.slice (some ⟨g, 0, none⟩) n c) xs w' := by
  have hml := meth_emb "Less" 116 (by kernel_rfl)
  have hms := meth_emb "Swap" 119 (by kernel_rfl)
  have HQ := Lib.hid h
  have HN := Lib.hid hn
  clear h hn
  go_enter Try.func61, Try.ntmps61
  go_wp2_with fail
  go_loopw [7] (fun y wr => ∃ (i : Nat) (ys : List (Int × Int)), y = .int .i64 i ∧ i < n ∧ Hid (ys.Perm xs) ∧ Hid (QF wr qb base (.slice (some ⟨g, 0, none⟩) n c) ys) ∧ Hid (QS qb (.slice (some ⟨g, 0, none⟩) n c) (.slice (some ⟨g, 0, none⟩) n c) w wr)) (fun y _ => n - (intOf y).toNat)
  case atStart => exact ⟨i0, xs, rfl, hi, Lib.hid (List.Perm.refl _), HQ, Lib.hid (QS.refl _ _ _)⟩
  case round =>
    obtain ⟨k, ys, rfl, hkn, HP, HQ1, HS1⟩ := hrel
    clear HQ
    have k0 : (0 : Int) ≤ (k : Int) := by omega
    have k1 : (k : Int) ≤ 1000000 := by omega
    have hj0 : ¬ (2 * (k : Int) + 1) < 0 := by omega
    by_cases hj : 2 * k + 1 < m
    · have hjm : ¬ (m : Int) ≤ 2 * (k : Int) + 1 := by omega
      have hyn : ys.length = n := by rw [HP.out.length_eq]; exact HN.out
      have hrow := HQ1.out.row
      rw [hyn] at hrow
      have HROW := Lib.hid hrow
      have HYN := Lib.hid hyn
      clear hrow hyn
      obtain ⟨j, hjj⟩ : ∃ j, 2 * k + 1 = j := ⟨_, rfl⟩
      have hjI : 2 * (k : Int) + 1 = (j : Int) := by omega
      rw [hjj] at hj
      rw [hjI] at hjm hj0
      have hjn : j < n := by omega
      have hkj : k < j := by omega
      have j1 : (j : Int) ≤ 1000000 := by omega
      clear hjj
      by_cases h2 : j + 1 < m
      · have h2m : (j : Int) + 1 < (m : Int) := by omega
        have h2I : ((j + 1 : Nat) : Int) = (j : Int) + 1 := by omega
        have h2n : j + 1 < n := by omega
        have hl1 := hml wr qb _ _ _ HQ1.out.cell
        go_wp2_with fail
        rw [← h2I]
        refine (less_any HROW.out (j + 1) j h2n hjn hk).mono ?_
        rintro e w1 ⟨z1, rfl, hk1⟩
        have HQ2 := Lib.hid (HQ1.out.kept hk1)
        have HS2 := Lib.hid (HS1.out.trans (QS.kept hk1))
        have HROW2 := Lib.hid (ownsRow_upd HROW.out hk1 (fun _ _ f => f))
        clear hk1 HQ1 HS1 HROW hl1 h2I
        cases z1
        · as_aux_lemma =>
          have hl2 := hml w1 qb _ _ _ HQ2.out.cell
          go_wp2_with fail
          refine (less_any HROW2.out (j) k hjn hkn hk).mono ?_
          rintro e w3 ⟨z2, rfl, hk3⟩
          have HQ3 := Lib.hid (HQ2.out.kept hk3)
          have HS3 := Lib.hid (HS2.out.trans (QS.kept hk3))
          have HROW3 := Lib.hid (ownsRow_upd HROW2.out hk3 (fun _ _ f => f))
          clear hk3 HQ2 HS2 HROW2 hl2
          cases z2
          · go_wp2_with fail
            go_returns
            exact ⟨⟨_, rfl⟩, ys, HP.out, HQ3.out, HS3.out⟩
          · have hl3 := hms w3 qb _ _ _ HQ3.out.cell
            obtain ⟨x, hx⟩ : ∃ x, ys[k]? = some x := ⟨_, List.getElem?_eq_getElem (by have := HYN.out; omega)⟩
            obtain ⟨y, hy⟩ : ∃ y, ys[j]? = some y := ⟨_, List.getElem?_eq_getElem (by have := HYN.out; have := hjn; omega)⟩
            have HXY := Lib.hid (And.intro hx hy)
            have HSW := Lib.hid (swap_any HROW3.out k (j) x y hx hy hk)
            clear hx hy
            go_wp2_with fail
            refine HSW.out.mono ?_
            rintro e w4 ⟨rfl, ho, hU⟩
            have h9 := HQ3.out.swapped HYN.out ho hU
            have HQ4 := Lib.hid h9.1
            have HS4 := Lib.hid (HS3.out.trans h9.2)
            have HP4 := Lib.hid ((perm_swap HXY.out.1 HXY.out.2).trans HP.out)
            clear h9 ho hU HQ3 HS3 HP hl3 HSW
            go_wp2_with fail
            go_roundw
            case rel => exact ⟨j, _, rfl, hjn, HP4, HQ4, HS4⟩
            case measure => simp [intOf]; omega
        · as_aux_lemma =>
          obtain ⟨j', hj'⟩ : ∃ j', j + 1 = j' := ⟨_, rfl⟩
          have hkj' : k < j' := by omega
          rw [hj'] at h2n ⊢
          clear hj' h2m h2
          have hl2 := hml w1 qb _ _ _ HQ2.out.cell
          go_wp2_with fail
          refine (less_any HROW2.out (j') k h2n hkn hk).mono ?_
          rintro e w3 ⟨z2, rfl, hk3⟩
          have HQ3 := Lib.hid (HQ2.out.kept hk3)
          have HS3 := Lib.hid (HS2.out.trans (QS.kept hk3))
          have HROW3 := Lib.hid (ownsRow_upd HROW2.out hk3 (fun _ _ f => f))
          clear hk3 HQ2 HS2 HROW2 hl2
          cases z2
          · go_wp2_with fail
            go_returns
            exact ⟨⟨_, rfl⟩, ys, HP.out, HQ3.out, HS3.out⟩
          · have hl3 := hms w3 qb _ _ _ HQ3.out.cell
            obtain ⟨x, hx⟩ : ∃ x, ys[k]? = some x := ⟨_, List.getElem?_eq_getElem (by have := HYN.out; omega)⟩
            obtain ⟨y, hy⟩ : ∃ y, ys[j']? = some y := ⟨_, List.getElem?_eq_getElem (by have := HYN.out; have := h2n; omega)⟩
            have HXY := Lib.hid (And.intro hx hy)
            have HSW := Lib.hid (swap_any HROW3.out k (j') x y hx hy hk)
            clear hx hy
            go_wp2_with fail
            refine HSW.out.mono ?_
            rintro e w4 ⟨rfl, ho, hU⟩
            have h9 := HQ3.out.swapped HYN.out ho hU
            have HQ4 := Lib.hid h9.1
            have HS4 := Lib.hid (HS3.out.trans h9.2)
            have HP4 := Lib.hid ((perm_swap HXY.out.1 HXY.out.2).trans HP.out)
            clear h9 ho hU HQ3 HS3 HP hl3 HSW
            go_wp2_with fail
            go_roundw
            case rel => exact ⟨j', _, rfl, h2n, HP4, HQ4, HS4⟩
            case measure => simp [intOf]; omega
      · as_aux_lemma =>
        have h2m : ¬ (j : Int) + 1 < (m : Int) := by omega
        have hl2 := hml wr qb _ _ _ HQ1.out.cell
        go_wp2_with fail
        refine (less_any HROW.out (j) k hjn hkn hk).mono ?_
        rintro e w3 ⟨z2, rfl, hk3⟩
        have HQ3 := Lib.hid (HQ1.out.kept hk3)
        have HS3 := Lib.hid (HS1.out.trans (QS.kept hk3))
        have HROW3 := Lib.hid (ownsRow_upd HROW.out hk3 (fun _ _ f => f))
        clear hk3 HQ1 HS1 HROW hl2
        cases z2
        · go_wp2_with fail
          go_returns
          exact ⟨⟨_, rfl⟩, ys, HP.out, HQ3.out, HS3.out⟩
        · have hl3 := hms w3 qb _ _ _ HQ3.out.cell
          obtain ⟨x, hx⟩ : ∃ x, ys[k]? = some x := ⟨_, List.getElem?_eq_getElem (by have := HYN.out; omega)⟩
          obtain ⟨y, hy⟩ : ∃ y, ys[j]? = some y := ⟨_, List.getElem?_eq_getElem (by have := HYN.out; have := hjn; omega)⟩
          have HXY := Lib.hid (And.intro hx hy)
          have HSW := Lib.hid (swap_any HROW3.out k (j) x y hx hy hk)
          clear hx hy
          go_wp2_with fail
          refine HSW.out.mono ?_
          rintro e w4 ⟨rfl, ho, hU⟩
          have h9 := HQ3.out.swapped HYN.out ho hU
          have HQ4 := Lib.hid h9.1
          have HS4 := Lib.hid (HS3.out.trans h9.2)
          have HP4 := Lib.hid ((perm_swap HXY.out.1 HXY.out.2).trans HP.out)
          clear h9 ho hU HQ3 HS3 HP hl3 HSW
          go_wp2_with fail
          go_roundw
          case rel => exact ⟨j, _, rfl, hjn, HP4, HQ4, HS4⟩
          case measure => simp [intOf]; omega
    · as_aux_lemma =>
      have hjm : (m : Int) ≤ 2 * (k : Int) + 1 := by omega
      go_wp2_with fail
      go_returns
      exact ⟨⟨_, rfl⟩, ys, HP.out, HQ1.out, HS1.out⟩
theorem QF.some {w : World} {qb base n c : Nat} {a : Option Addr} {xs : List (Int × Int)} (h : QF w qb base (.slice a n c) xs) (hn : xs.length = n) (h0 : 0 < n) : ∃ g, a = some ⟨g, 0, none⟩ := by
  rcases h.row.2 with ⟨e, e2⟩ | ⟨g, cap, cur, e, -⟩
  · omega
  · cases e; exact ⟨g, rfl⟩
/-- What heap.Push leaves. -/
def Pushed (w : World) (qb base : Nat) (v : Value) (xs : List (Int × Int)) (x : Int × Int) (wz : World) : Prop := ∃ v' ys, ys.Perm (x :: xs) ∧ QF wz qb base v' ys ∧ QS qb v v' w wz
set_option maxRecDepth 100000 in
set_option maxHeartbeats 4000000 in
theorem hpush_any {w : World} {qb base : Nat} {v : Value} {xs : List (Int × Int)} (h : QF w qb base v xs) (x1 x2 : Int) (hk : xs.length < 1000000) :
    Calls Try.prog 42 #[.iface 71 (.pointer (some ⟨qb, 0, none⟩)), .iface 78 (.agg #[.int .i64 x1, .int .i64 x2])] w fun e w' => e = .returned (.tuple #[]) ∧ Pushed w qb base v xs (x1, x2) w' := by
  obtain ⟨a, c, rfl⟩ := h.form
  have hml := meth_emb "Len" 43 (by kernel_rfl)
  have HQP := Lib.hid (qpush_any h rfl x1 x2 (by omega))
  clear h
  obtain ⟨n, hn⟩ : ∃ n, xs.length = n := ⟨_, rfl⟩
  have HN := Lib.hid hn
  rw [hn] at hk HQP ⊢
  clear hn
  go_enter Try.func42, Try.ntmps42
  go_wp2_with fail
  refine HQP.out.mono ?_
  rintro e w1 ⟨rfl, v', hQ, hS⟩
  have hl2 : (xs ++ [(x1, x2)]).length = n + 1 := by rw [List.length_append, HN.out]; rfl
  obtain ⟨a', c', rfl⟩ := hQ.form
  rw [hl2] at hQ hS
  obtain ⟨g, rfl⟩ := hQ.some hl2 (by omega)
  have HQ := Lib.hid hQ
  have HS := Lib.hid hS
  have HL := Lib.hid hl2
  clear hQ hS hl2 HQP
  have hl := hml w1 qb _ _ _ HQ.out.cell
  have n1 : ((n + 1 : Nat) : Int) - 1 = (n : Int) := by omega
  have n2 : ((n + 1 : Nat) : Int) ≤ 1000000 := by omega
  have n3 : (1 : Int) ≤ ((n + 1 : Nat) : Int) := by omega
  go_wp2_with fail
  refine (rlen_any _ _ _ _).mono ?_
  rintro e w2 ⟨rfl, rfl⟩
  go_wp2_with fail
  refine (hup_any HQ.out HL.out n (by omega) (by omega)).mono ?_
  rintro e w3 ⟨rfl, ys, hp, hq, hs⟩
  have HF := Lib.hid (And.intro hp (And.intro hq hs))
  clear hp hq hs
  go_wp2_with fail
  go_returns
  exact ⟨rfl, _, ys, HF.out.1.trans (List.perm_append_comm (l₁ := xs) (l₂ := [(x1, x2)])), HF.out.2.1, HS.out.trans HF.out.2.2⟩
/-- What heap.Pop hands back, and leaves. -/
def Popped (w : World) (qb base : Nat) (v : Value) (xs : List (Int × Int)) (e : Ending) (wz : World) : Prop := ∃ (x : Int × Int) (v' : Value) (ys : List (Int × Int)), e = .returned (.iface 78 (.agg #[.int .i64 x.1, .int .i64 x.2])) ∧ (x :: ys).Perm xs ∧ QF wz qb base v' ys ∧ QS qb v v' w wz
set_option maxRecDepth 100000 in
set_option maxHeartbeats 4000000 in
theorem hpop_any {w : World} {qb base : Nat} {v : Value} {xs : List (Int × Int)} (h : QF w qb base v xs) (h0 : 0 < xs.length) (hk : xs.length ≤ 1000000) :
    Calls Try.prog 44 #[.iface 71 (.pointer (some ⟨qb, 0, none⟩))] w (Popped w qb base v xs) := by
  obtain ⟨a, c, rfl⟩ := h.form
  obtain ⟨n, hn⟩ : ∃ n, xs.length = n + 1 := ⟨xs.length - 1, by omega⟩
  rw [hn] at h hk ⊢
  obtain ⟨g, rfl⟩ := h.some hn (by omega)
  have hml := meth_emb "Len" 43 (by kernel_rfl)
  have hms := meth_emb "Swap" 119 (by kernel_rfl)
  have HQ := Lib.hid h
  have HN := Lib.hid hn
  have hl := hml w qb _ _ _ h.cell
  have hl2 := hms w qb _ _ _ h.cell
  have n1 : ((n + 1 : Nat) : Int) - 1 = (n : Int) := by omega
  have n2 : ((n + 1 : Nat) : Int) ≤ 1000000 := by omega
  have n3 : (1 : Int) ≤ ((n + 1 : Nat) : Int) := by omega
  obtain ⟨x, hx⟩ : ∃ x, xs[0]? = some x := ⟨_, List.getElem?_eq_getElem (by omega)⟩
  obtain ⟨y, hy⟩ : ∃ y, xs[n]? = some y := ⟨_, List.getElem?_eq_getElem (by omega)⟩
  have HXY := Lib.hid (And.intro hx hy)
  have hrow := h.row
  rw [hn] at hrow
  have HSW := Lib.hid (swap_any hrow 0 n x y hx hy hk)
  clear h hn h0 hx hy hrow hml hms
  go_enter Try.func44, Try.ntmps44
  go_wp2_with fail
  refine (rlen_any _ _ _ _).mono ?_
  rintro e w2 ⟨rfl, rfl⟩
  go_wp2_with fail
  refine HSW.out.mono ?_
  rintro e w1 ⟨rfl, ho, hU⟩
  have h9 := HQ.out.swapped HN.out ho hU
  have HQ1 := Lib.hid h9.1
  have HS1 := Lib.hid h9.2
  have HP1 := Lib.hid (perm_swap HXY.out.1 HXY.out.2)
  have HL1 : Hid (((xs.set 0 y).set n x).length = n + 1) := Lib.hid (by rw [List.length_set, List.length_set]; exact HN.out)
  clear h9 ho hU HQ hl hl2 HSW HXY
  go_wp2_with fail
  refine (hdown_any HQ1.out HL1.out 0 n (by omega) (by omega) hk).mono ?_
  rintro e w3 ⟨⟨z, rfl⟩, ys, hp, hq, hs⟩
  have hyl : ys.length = n + 1 := by rw [hp.length_eq]; exact HL1.out
  obtain ⟨zs, u, rfl⟩ : ∃ zs u, ys = zs ++ [u] := ⟨ys.dropLast, ys.getLast (by intro h; rw [h] at hyl; cases hyl), (List.dropLast_concat_getLast (by intro h; rw [h] at hyl; cases hyl)).symm⟩
  have hzl : zs.length = n := by rw [List.length_append] at hyl; simpa using hyl
  have HF := Lib.hid (And.intro hp (And.intro hq hs))
  have HZ := Lib.hid hzl
  clear hp hq hs hyl hzl HQ1
  go_wp2_with fail
  refine (qpop_any HF.out.2.1 HZ.out (by omega)).mono ?_
  rintro e w4 ⟨rfl, v', hq, hs⟩
  have HF2 := Lib.hid (And.intro hq hs)
  clear hq hs
  go_wp2_with fail
  go_returns
  exact ⟨u, v', zs, rfl, ((List.perm_append_comm (l₁ := [u]) (l₂ := zs)).trans HF.out.1).trans HP1.out, HF2.out.1, HS1.out.trans (HF.out.2.2.trans HF2.out.2)⟩
end Go.Proofs.Yticeionjlknlcaa
