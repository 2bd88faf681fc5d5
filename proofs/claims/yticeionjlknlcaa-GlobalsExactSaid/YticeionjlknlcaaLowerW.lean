/- repair.Lower. (printed by gen_lower.py) -/
import Derived.Test.YticeionjlknlcaaHeap3
import Derived.Test.YticeionjlknlcaaLowP
import Derived.Test.YticeionjlknlcaaCopyRow
import Derived.Test.YticeionjlknlcaaMapRd
import Derived.Test.YticeionjlknlcaaLabAt
import Derived.Test.YticeionjlknlcaaGst
import Derived.Test.YticeionjlknlcaaQuietTail
import Derived.Deep.LoopGhost
namespace Go.Proofs.Yticeionjlknlcaa
set_option linter.unusedVariables false
set_option linter.unusedSimpArgs false
open Go.RowKit
attribute [local go_sem] cell?_ext

theorem eqNil {P : Program} {t e : TypeId} (ht : P.underlying t = some (.slice e)) (a : Option Addr) (l c : Nat) (w : World) : (binOp .eql t (.slice a l c) (.slice none 0 0)).run P w = .ok (.bool a.isNone) w := by
  simp [binOp, run_equal_slice_nil w t e a l c ht]
theorem cloneI_any (a : Option Addr) (c : Nat) (xs : List Int) (n : Nat) (w : World) (h : Rd w a (lv xs)) (hn : xs.length = n) (h0 : 0 < n) (hx : n ≤ 1000000) :
    Calls Try.prog 41 #[.slice a n c] w fun e w' => ∃ g c' rest, e = .returned (.slice (some ⟨g, 0, none⟩) n c') ∧ Blk w' g (lv xs ++ rest).toArray 3 ∧ w.heap.size ≤ g ∧ n ≤ c' ∧ Kept w w' := by
  have hne : ¬ lv xs = [] := fun e => by
    have h2 : (lv xs).length = 0 := by rw [e]; rfl
    rw [lv_len] at h2
    omega
  obtain ⟨b, off, rfl, hc⟩ := h.resolve_left hne
  have hcl : (lv xs).length = n := by rw [lv_len]; exact hn
  obtain ⟨i0, hi0, hz0, hz1, hz2⟩ := info_parts infoInt
  have h1c : ∀ x ∈ lv xs, x.oneCell' = true := by
    intro x hx
    obtain ⟨y, -, rfl⟩ := List.mem_map.1 hx
    rfl
  have hnil := eqNil (P := Try.prog) Try.underlying26 (some ⟨b, off, none⟩) n c
  simp only [Option.isNone_some] at hnil
  have hr : Rd w (some ⟨b, off, none⟩) (lv xs) := .inr ⟨b, off, rfl, hc⟩
  have HH0 := Lib.hid h0
  clear hc h hn h0
  go_enter Try.func41, Try.ntmps41
  go_wp2_with (first | (at_builtin; refine wpList_copied rfl _ _ 26 rfl 3 i0 (.int .i64 0) 8 Try.underlying26 hi0 hz0 hz1 hz2 rfl (by decide) (some ⟨b, off, none⟩) n c (lv xs) rfl rfl hr hcl (.inl ⟨_, rfl⟩) h1c (by omega) ?_; intro ua uc V4 hown hk; clear hi0 hz0 hz1 hz2 h1c hr) | fail)
  obtain ⟨ub, rest, rfl, hub, hblk⟩ := row_blk hown HH0.out
  have hcap := row_cap' hown
  go_ret
  exact ⟨ub, uc, rest, rfl, hblk, hub, hcap, hk⟩
/-- What repair.Lower holds on its way. -/
structure LWS (N S T : Int) (n m : Nat) (a3 a4 a5 a6 a7 a8 : Option Addr) (c3 c4 c5 c6 c7 c8 : Nat) (w : World) (ys : List Ar) (cb : Nat) (ra : Option Addr) (rs : List Int) (ob : Nat) (rest : List Value) (qb base : Nat) (os : List Int) (v : Value) (q : List (Int × Int)) (wr : World) : Prop where
  kp : Kept w wr
  box : Blk wr cb #[.int .i64 N, .int .i64 S, .int .i64 T, .slice a3 (n + 1) c3, .slice a4 m c4, .slice a5 m c5, .slice a6 m c6, .slice a7 m c7, .slice a8 m c8] 29
  cr : CsrR w n ys a3 a4 a5 a6 a7 a8
  rs : Rd w ra (lv rs)
  out : Blk wr ob (lv os ++ rest).toArray 3
  que : QF wr qb base v q
  lo : w.heap.size ≤ cb ∧ w.heap.size ≤ ob ∧ w.heap.size ≤ qb ∧ w.heap.size ≤ base
  ne : cb ≠ qb ∧ ob ≠ qb ∧ cb ≠ ob ∧ cb < base ∧ ob < base
section
variable {N S T : Int} {n m : Nat} {a3 a4 a5 a6 a7 a8 : Option Addr} {c3 c4 c5 c6 c7 c8 : Nat} {w : World} {ys : List Ar} {cb : Nat} {ra : Option Addr} {rs : List Int} {ob : Nat} {rest : List Value} {qb base : Nat} {os : List Int} {v v' : Value} {q q' : List (Int × Int)} {wr w' : World}
theorem LWS.kept (h : LWS N S T n m a3 a4 a5 a6 a7 a8 c3 c4 c5 c6 c7 c8 w ys cb ra rs ob rest qb base os v q wr) (k : Kept wr w') : LWS N S T n m a3 a4 a5 a6 a7 a8 c3 c4 c5 c6 c7 c8 w ys cb ra rs ob rest qb base os v q w' := ⟨h.kp.trans k, h.box.kept k, h.cr, h.rs, h.out.kept k, h.que.kept k, h.lo, h.ne⟩
theorem LWS.heap (h : LWS N S T n m a3 a4 a5 a6 a7 a8 c3 c4 c5 c6 c7 c8 w ys cb ra rs ob rest qb base os v q wr) (hs : QS qb v v' wr w') (hq : QF w' qb base v' q') : LWS N S T n m a3 a4 a5 a6 a7 a8 c3 c4 c5 c6 c7 c8 w ys cb ra rs ob rest qb base os v' q' w' := by
  obtain ⟨h1, h2, h3, h4, h5⟩ := h.ne
  obtain ⟨l1, l2, l3, l4⟩ := h.lo
  have ow : ∀ k, v.ownBlock = some k → base ≤ k := fun k e => (World.ownsRow.lt h.que.row k e).1
  have hlate : ∀ i, (i = qb ∨ v.ownBlock = some i) → w.heap.size ≤ i := fun i e => by
    rcases e with e | e
    · omega
    · have := ow i e; omega
  have hn : ∀ i, i ≠ qb → i < base → ¬ (i = qb ∨ v.ownBlock = some i) := fun i e1 e2 e => by
    rcases e with e | e
    · exact e1 e
    · have := ow i e; omega
  have hk' : Kept w w' := Upd.late h.kp hs.upd hlate
  exact ⟨hk', h.box.upd hs.upd (hn _ h1 h4), h.cr, h.rs, h.out.upd hs.upd (hn _ h2 h5), hq, h.lo, h.ne⟩
theorem LWS.put (h : LWS N S T n m a3 a4 a5 a6 a7 a8 c3 c4 c5 c6 c7 c8 w ys cb ra rs ob rest qb base os v q wr) (u : Nat) (hu : u < os.length) (x : Int) : LWS N S T n m a3 a4 a5 a6 a7 a8 c3 c4 c5 c6 c7 c8 w ys cb ra rs ob rest qb base (os.set u x) v q (wr.setCell ⟨ob, u, none⟩ (.int .i64 x)) := by
  obtain ⟨h1, h2, h3, h4, h5⟩ := h.ne
  obtain ⟨l1, l2, l3, l4⟩ := h.lo
  have hU : Upd (fun k => k = ob) wr (wr.setCell ⟨ob, u, none⟩ (.int .i64 x)) := Upd.setCell (S := fun k => k = ob) (p := ⟨ob, u, none⟩) (Upd.refl _ _) (.inl rfl) _
  refine ⟨Upd.late h.kp hU (fun i e => by omega), h.box.upd hU (by omega), h.cr, h.rs, ?_, ⟨h.que.box.upd hU (fun e => h2 e.symm), ownsRow_upd h.que.row hU (fun k hk e => by omega), h.que.lo, Nat.le_trans h.que.up hU.size⟩, h.lo, h.ne⟩
  have := h.out.set u (.int .i64 x)
  rw [List.setIfInBounds_toArray, List.set_append_left _ _ (by rw [lv_len]; exact hu)] at this
  rw [show lv (os.set u x) = (lv os).set u (.int .i64 x) by simp [lv, List.map_set]]
  exact this
theorem LWS.num (h : LWS N S T n m a3 a4 a5 a6 a7 a8 c3 c4 c5 c6 c7 c8 w ys cb ra rs ob rest qb base os v q wr) {u : Nat} (hu : u < os.length) : wr.cell? ⟨ob, u, none⟩ = some (.int .i64 (os.getD u 0)) := by
  rw [h.out.cell]
  have : (lv os)[u]? = some (.int .i64 (os.getD u 0)) := lv_get hu
  simpa [List.getElem?_append_left (show u < (lv os).length by rw [lv_len]; exact hu)] using this
end
end Go.Proofs.Yticeionjlknlcaa
namespace Go.Proofs.Yticeionjlknlcaa
set_option linter.unusedVariables false
set_option linter.unusedSimpArgs false
open Go.RowKit
attribute [local go_sem] cell?_ext

theorem blk_pre {w : World} {g : Nat} {xs rest : List Value} {T : TypeId} (h : Blk w g (xs ++ rest).toArray T) : Rd w (some ⟨g, 0, none⟩) xs := .inr ⟨g, 0, rfl, fun i u hu => by
  rw [Nat.zero_add, h.cell]
  have hi := (List.getElem?_eq_some_iff.1 hu).1
  simpa [List.getElem?_append_left hi] using hu⟩
theorem ta_spot (cs : Array Value) (w : World) : Sem.run Try.prog (Instr.typeAssert (.iface 78 (.agg cs)) 20 78 false) w = .ok (.agg cs) w := by
  simp [Instr.typeAssert, run_underlying Try.underlying78]
theorem low_sum {N S : Int} {n m : Nat} {ys : List Ar} {rs hs os : List Int} {q : List (Int × Int)} (h : LC N S n m ys rs hs os q) : 0 ≤ os.sum ∧ os.sum ≤ n * N := by
  have h4 := sum_le os N (fun y hy => by
    obtain ⟨i, hi, rfl⟩ := List.mem_iff_getElem.1 hy
    have h5 := h.len
    have := h.bd i (by omega)
    simpa [List.getD, List.getElem?_eq_getElem hi] using this)
  rw [h.len] at h4
  exact h4
/-- What Lower hands back: the highest valid heights below hs; none, if there are none. -/
def LowL (N S T : Int) (n m : Nat) (ys : List Ar) (rs hs L : List Int) : Prop := if mayB N S T m rs hs then IsLow S n m ys rs hs L else L = []
def LowEnd (w : World) (N S T : Int) (n m : Nat) (ys : List Ar) (rs hs : List Int) (e : Ending) (w' : World) : Prop :=
  ∃ a k c L, e = .returned (.slice a k c) ∧ L.length = k ∧ LowL N S T n m ys rs hs L ∧ Rd w' a (lv L) ∧ k ≤ c ∧ (∀ ad, a = some ad → w.heap.size ≤ ad.block) ∧ Kept w w'
set_option maxRecDepth 100000 in
set_option maxHeartbeats 8000000 in
theorem lower_any (N S T : Int) (n m : Nat) (a3 a4 a5 a6 a7 a8 : Option Addr) (c3 c4 c5 c6 c7 c8 : Nat) (ys : List Ar) (ra : Option Addr) (rc : Nat) (rs : List Int) (ha : Option Addr) (hc : Nat) (hs : List Int) (w : World) (hg : Gr N S T n m ys) (hcr : CsrR w n ys a3 a4 a5 a6 a7 a8) (hr : Rd w ra (lv rs)) (hh : Rd w ha (lv hs)) (hm : hs.length ≤ 9223372036854775807) (hrm : rs.length ≤ 9223372036854775807) :
    Calls Try.prog 16 #[.agg #[.int .i64 N, .int .i64 S, .int .i64 T, .slice a3 (n + 1) c3, .slice a4 m c4, .slice a5 m c5, .slice a6 m c6, .slice a7 m c7, .slice a8 m c8], .slice ra rs.length rc, .slice ha hs.length hc] w (LowEnd w N S T n m ys rs hs) := by
  have HG := Lib.hid hg
  have hnl := hg.len
  obtain ⟨rl, hrl⟩ : ∃ rl, rs.length = rl := ⟨_, rfl⟩
  obtain ⟨hl, hhl⟩ : ∃ hl, hs.length = hl := ⟨_, rfl⟩
  have HRT : ∀ w', Rd w' ha (lv hs) → Hid (Calls Try.prog 40 #[.agg #[.int .i64 N, .int .i64 S, .int .i64 T, .slice a3 (n + 1) c3, .slice a4 m c4, .slice a5 m c5, .slice a6 m c6, .slice a7 m c7, .slice a8 m c8], .slice ha hl hc] w' fun e w'' => e = .returned (.bool (rightB N S T hs)) ∧ Kept w' w'') := by
    intro w' h
    rw [← hhl]
    exact Lib.hid (right_any N S T n m a3 a4 a5 a6 a7 a8 c3 c4 c5 c6 c7 c8 ys ha hc hs w' hg h hm)
  have HLN := fun w' => Lib.hid (len_any N S T n m a3 a4 a5 a6 a7 a8 c3 c4 c5 c6 c7 c8 w')
  have HCR := Lib.hid hcr
  have HRS := Lib.hid hr
  have HHS := Lib.hid hh
  have HRL := Lib.hid hrl
  have HHL := Lib.hid hhl
  rw [hrl] at hrm ⊢
  rw [hhl] at hm ⊢
  have hn16 : 2 ≤ n ∧ n ≤ 16 := ⟨hnl.2.1, hnl.2.2.1⟩
  have HNL := Lib.hid hnl
  clear hg hcr hr hh hrl hhl hnl
  go_enter Try.func16, Try.ntmps16
  go_upto_region 1 with (fail)
  obtain ⟨cb, hcb⟩ : ∃ cb, w.heap.size = cb := ⟨_, rfl⟩
  have HB1 : Hid (Blk (w.alloc (.cells #[.int .i64 N, .int .i64 S, .int .i64 T, .slice a3 (n + 1) c3, .slice a4 m c4, .slice a5 m c5, .slice a6 m c6, .slice a7 m c7, .slice a8 m c8] 29)) cb #[.int .i64 N, .int .i64 S, .int .i64 T, .slice a3 (n + 1) c3, .slice a4 m c4, .slice a5 m c5, .slice a6 m c6, .slice a7 m c7, .slice a8 m c8] 29) := Lib.hid (by rw [← hcb]; exact Blk.new _ _ _)
  have HK1 : Hid (Kept w (w.alloc (.cells #[.int .i64 N, .int .i64 S, .int .i64 T, .slice a3 (n + 1) c3, .slice a4 m c4, .slice a5 m c5, .slice a6 m c6, .slice a7 m c7, .slice a8 m c8] 29))) := Lib.hid ((Upd.refl (fun _ => False) w).alloc _)
  rw [hcb]
  have HCB := Lib.hid hcb
  clear hcb
  generalize (w.alloc (.cells #[.int .i64 N, .int .i64 S, .int .i64 T, .slice a3 (n + 1) c3, .slice a4 m c4, .slice a5 m c5, .slice a6 m c6, .slice a7 m c7, .slice a8 m c8] 29)) = w1 at HB1 HK1 ⊢
  have cb1 := HB1.out.cell
  go_wp2_with fail
  refine (HLN _).out.mono ?_
  rintro e w2 ⟨rfl, hk⟩
  have HB2 := Lib.hid (HB1.out.kept hk)
  have HK2 := Lib.hid (HK1.out.trans hk)
  clear hk HB1 HK1 cb1
  have cb2 := HB2.out.cell
  by_cases hrm2 : rl = m
  · as_aux_lemma =>
    have hne : ((rl : Int) != (m : Int)) = false := by subst hrm2; simp
    have HRM : Hid (rl = m) := Lib.hid hrm2
    clear hrm2
    go_wp2_with fail
    refine (HRT _ (HHS.out.kept HK2.out)).out.mono ?_
    rintro e w3 ⟨rfl, hk⟩
    have HB3 := Lib.hid (HB2.out.kept hk)
    have HK3 := Lib.hid (HK2.out.trans hk)
    clear hk HB2 HK2 cb2
    cases hrb : rightB N S T hs
    · as_aux_lemma =>
      have HMB : Hid (mayB N S T m rs hs = false) := Lib.hid (by unfold mayB; rw [hrb]; simp)
      clear hrb
      go_wp2_with fail
      go_ret
      exact ⟨none, 0, 0, [], rfl, rfl, by unfold LowL; rw [HMB.out]; rfl, .inl rfl, Nat.le_refl _, (fun _ e => by cases e), HK3.out⟩
    · as_aux_lemma =>
      have HMB : Hid (mayB N S T m rs hs = true) := Lib.hid (by unfold mayB; rw [hrb, HRL.out, HRM.out]; simp)
      have HRB := Lib.hid hrb
      have hln : n = hl := by
        have h1 := (right_parts.1 hrb).1
        have h2 := HNL.out.1
        rw [HHL.out] at h1
        omega
      subst hln
      clear hrb
      have HCL := Lib.hid (cloneI_any ha hc hs n w3 (HHS.out.kept HK3.out) HHL.out (by omega) (by omega))
      go_wp2_with fail
      refine HCL.out.mono ?_
      rintro e w4 ⟨ob, oc, rest, rfl, hblk, hob, hoc, hk⟩
      have HB4 := Lib.hid (HB3.out.kept hk)
      have HK4 := Lib.hid (HK3.out.trans hk)
      have HO4 := Lib.hid hblk
      have HOB := Lib.hid (And.intro (Nat.le_trans HK3.out.size hob) (Nat.lt_of_lt_of_le HB3.out.lt hob))
      clear hk HB3 HK3 hblk hob HCL HRT HLN
      go_upto_region 5 with (fail)
      obtain ⟨qb, hqb⟩ : ∃ qb, w4.heap.size = qb := ⟨_, rfl⟩
      obtain ⟨base, hbase⟩ : ∃ base, qb + 1 = base := ⟨_, rfl⟩
      have HW5 : Hid (LWS N S T n m a3 a4 a5 a6 a7 a8 c3 c4 c5 c6 c7 c8 w ys cb ra rs ob rest qb base hs (.slice none 0 0) [] (w4.alloc (.cells #[.slice none 0 0] 75))) := Lib.hid (by
        have h1 := HB4.out.lt
        have h2 := HO4.out.lt
        have h3 := HCB.out
        have h4 := HOB.out
        have h5 : (w4.alloc (.cells #[.slice none 0 0] 75)).heap.size = w4.heap.size + 1 := by simp
        exact ⟨HK4.out.alloc _, HB4.out.alloc _, HCR.out, HRS.out, HO4.out.alloc _, ⟨by rw [← hqb]; exact Blk.new _ _ _, World.ownsRow_nil _ _ _ _, by omega, by omega⟩, by omega, by omega⟩)
      rw [hqb]
      clear hqb hbase HB4 HK4 HO4
      generalize (w4.alloc (.cells #[.slice none 0 0] 75)) = w5 at HW5 ⊢
      go_wp2_with fail
      go_loopw [31] (fun y wr => ∃ (j : Nat) (v : Value) (q : List (Int × Int)), y = .int .i64 j ∧ j ≤ n ∧ Hid (q.Perm (spots hs j)) ∧ Hid (LWS N S T n m a3 a4 a5 a6 a7 a8 c3 c4 c5 c6 c7 c8 w ys cb ra rs ob rest qb base hs v q wr)) (fun y _ => n - (intOf y).toNat)
      case atStart => exact ⟨0, _, [], rfl, by omega, Lib.hid (List.Perm.refl _), HW5⟩
      case round =>
        obtain ⟨j, v, q, rfl, hj, HP, HW⟩ := hrel
        clear HW5
        by_cases hjn : j < n
        · as_aux_lemma =>
          have hjI : (j : Int) < (n : Int) := by omega
          have hj0 : (0 : Int) ≤ (j : Int) := by omega
          have c0 := HW.out.num (u := j) (by rw [HHL.out]; exact hjn)
          obtain ⟨k, hk⟩ : ∃ k, hs.getD j 0 = k := ⟨_, rfl⟩
          rw [hk] at c0
          have HKJ := Lib.hid hk
          have HHP := Lib.hid (hpush_any HW.out.que k (j : Int) (by rw [HP.out.length_eq, spots_len]; omega))
          clear hk
          go_wp2_with fail
          refine HHP.out.mono ?_
          rintro e w6 ⟨rfl, v', q', hp, hq, hs'⟩
          have HW6 := Lib.hid (HW.out.heap hs' hq)
          have HP6 : Hid (q'.Perm (spots hs (j + 1))) := Lib.hid (by
            rw [spots_succ, HKJ.out]
            exact (hp.trans (List.Perm.cons _ HP.out)).trans (List.perm_append_singleton _ _).symm)
          clear hp hq hs' HW HP HHP c0
          go_wp2_with fail
          go_roundw
          case rel => exact ⟨j + 1, v', q', by go_num, by omega, HP6, HW6⟩
          case measure => simp [intOf]; omega
        · as_aux_lemma =>
          have hjI : ¬ (j : Int) < (n : Int) := by omega
          obtain rfl : n = j := by omega
          have HLI0 : Hid (LI N S n m ys rs hs hs q) := Lib.hid ((LI.start HRB.out HHL.out).perm HP.out)
          have HQN : Hid (q.length = n) := Lib.hid (by rw [HP.out.length_eq, spots_len])
          clear HP
          go_wp2_with fail
          clear hjI
          as_aux_lemma =>
          go_loopg [] (2 * hs.sum + n).toNat (fun k wr => ∃ (os : List Int) (v : Value) (q : List (Int × Int)), Hid (LI N S n m ys rs hs os q) ∧ Hid (2 * os.sum + (q.length : Int) ≤ k) ∧ Hid (LWS N S T n m a3 a4 a5 a6 a7 a8 c3 c4 c5 c6 c7 c8 w ys cb ra rs ob rest qb base os v q wr))
          case atStart => exact ⟨hs, v, q, HLI0, Lib.hid (by have := HQN.out; omega), HW⟩
          case round =>
            obtain ⟨os, v, q, HLI, HMU, HW1⟩ := hrel
            clear HLI0 HQN HW
            obtain ⟨va, vc, hve⟩ := HW1.out.que.form
            have hc0 := HW1.out.que.cell
            rw [hve] at hc0
            have HVE := Lib.hid hve
            obtain ⟨ql, hql⟩ : ∃ ql, q.length = ql := ⟨_, rfl⟩
            rw [hql] at hc0
            have HQL := Lib.hid hql
            clear hve hql
            by_cases hq0 : ql = 0
            · as_aux_lemma =>
              subst hq0
              have HLOW : Hid (IsLow S n m ys rs hs os) := Lib.hid (LI.fin HG.out (by have h := HLI.out; rw [List.eq_nil_of_length_eq_zero HQL.out] at h; exact h))
              clear HLI HMU HQL HVE
              go_wp2_with fail
              refine (rlen_any _ _ _ _).mono ?_
              rintro e w7 ⟨rfl, rfl⟩
              go_wp2_with fail
              go_ret
              exact ⟨some ⟨ob, 0, none⟩, n, oc, os, rfl, HLOW.out.len, by unfold LowL; rw [HMB.out]; exact HLOW.out, blk_pre HW1.out.out, hoc, (fun _ e => by cases e; exact HW1.out.lo.2.1), HW1.out.kp⟩
            · as_aux_lemma =>
              have hq1 : (0 : Int) < (ql : Int) := by omega
              have HPOP := Lib.hid (hpop_any HW1.out.que (by rw [HQL.out]; omega) (by have h1 := HLI.out.1.cnt; have h3 := right_sum HG.out HRB.out; have h4 := low_sum HLI.out.1; have h5 := Int.mul_le_mul (show (n : Int) ≤ 16 by omega) (show (n : Int) ≤ 16 by omega) (by omega) (by omega); omega))
              go_wp2_with fail
              refine (rlen_any _ _ _ _).mono ?_
              rintro e w7 ⟨rfl, rfl⟩
              go_wp2_with fail
              refine HPOP.out.mono ?_
              rintro e w8 ⟨⟨k, x2⟩, v', q', rfl, hp, hq, hs'⟩
              have h9 := HLI.out.perm hp
              obtain ⟨v0, rfl⟩ := Int.eq_ofNat_of_zero_le (h9.1.ent _ List.mem_cons_self).1
              have hv0 : v0 < n := by have h := (h9.1.ent _ List.mem_cons_self).2.1; omega
              have hok : os.getD v0 0 ≤ k := by have h := (h9.1.ent _ List.mem_cons_self).2.2.1; rw [Int.toNat_natCast] at h; exact h
              have HLI8 := Lib.hid h9
              have HMU8 : Hid (2 * os.sum + (q'.length : Int) + 1 ≤ gk) := Lib.hid (by have h1 := HMU.out; have h2 := hp.length_eq; rw [List.length_cons] at h2; omega)
              have HW8 := Lib.hid (HW1.out.heap hs' hq)
              clear h9 hp hq hs' HPOP HLI HMU HW1 HQL HVE hq0 hq1 hc0
              have hta := ta_spot
              go_upto_region 12 with (fail)
              clear hta
              obtain ⟨xb, hxb⟩ : ∃ xb, w8.heap.size = xb := ⟨_, rfl⟩
              have HW9 : Hid (LWS N S T n m a3 a4 a5 a6 a7 a8 c3 c4 c5 c6 c7 c8 w ys cb ra rs ob rest qb base os v' q' (w8.alloc (.cells #[.int .i64 k, .int .i64 (v0 : Int)] 78))) := Lib.hid (HW8.out.kept ((Upd.refl _ _).alloc _))
              have HX9 : Hid (Blk (w8.alloc (.cells #[.int .i64 k, .int .i64 (v0 : Int)] 78)) xb #[.int .i64 k, .int .i64 (v0 : Int)] 78 ∧ ¬ v'.ownBlock = some xb) := Lib.hid ⟨by rw [← hxb]; exact Blk.new _ _ _, fun e => by have := (World.ownsRow.lt HW8.out.que.row xb e).2; omega⟩
              rw [hxb]
              clear hxb HW8
              generalize (w8.alloc (.cells #[.int .i64 k, .int .i64 (v0 : Int)] 78)) = wX at HW9 HX9 ⊢
              have x0 : wX.cell? ⟨xb, 0, none⟩ = some (.int .i64 k) := by rw [HX9.out.1.cell]; rfl
              have x1 : wX.cell? ⟨xb, 1, none⟩ = some (.int .i64 (v0 : Int)) := by rw [HX9.out.1.cell]; rfl
              have c1 := HW9.out.num (u := v0) (by rw [HLI8.out.1.len]; exact hv0)
              obtain ⟨o, ho⟩ : ∃ o, os.getD v0 0 = o := ⟨_, rfl⟩
              rw [ho] at c1 hok
              have HOO := Lib.hid ho
              have v01 : (0 : Int) ≤ (v0 : Int) := by omega
              have v02 : (v0 : Int) < (n : Int) := by omega
              clear ho
              by_cases hko : o < k
              · as_aux_lemma =>
                refine wp_region_kept (by kernel_rfl) (by kernel_rfl) ?_
                repeat (go_big_quiet_step (fail))
                refine wpQuiet_nil ?_
                intro wY hkY
                have HLI9 := Lib.hid (HLI8.out.skip (by rw [HOO.out]; exact hko))
                have HWY := Lib.hid (HW9.out.kept hkY)
                clear hkY HW9 HX9 x0 x1 c1 HLI8
                go_wp2_with fail
                go_roundg (gk - 1)
                case rel => exact ⟨os, v', q', HLI9, Lib.hid (by have := HMU8.out; omega), HWY⟩
                case measure => (have h1 := HMU8.out; have h2 := low_sum HLI9.out.1; omega)
              · as_aux_lemma =>
                obtain rfl : k = o := by omega
                have hko2 : decide (k < k) = false := by simp
                refine wp_region_kept (by kernel_rfl) (by kernel_rfl) ?_
                repeat (go_big_quiet_step (fail))
                refine wpQuiet_nil ?_
                intro wY hkY
                have HLJ0 : Hid (LJ N S n m ys rs hs os q' v0 (fst ys v0)) := Lib.hid HLI8.out.go
                have HW0 := Lib.hid (HW9.out.kept hkY)
                have HX0 : Hid (Blk wY xb #[.int .i64 k, .int .i64 (v0 : Int)] 78 ∧ ¬ v'.ownBlock = some xb) := Lib.hid ⟨HX9.out.1.kept hkY, HX9.out.2⟩
                have HMU0 := HMU8
                have HOK0 := HOO
                clear hkY HW9 HX9 x0 x1 c1 HLI8 hko hok HOO HMU8
                have cb9 := HW0.out.box.cell
                have x1 : wY.cell? ⟨xb, 1, none⟩ = some (.int .i64 (v0 : Int)) := by rw [HX0.out.1.cell]; rfl
                obtain ⟨b3, o3, e3, f3⟩ := (HW0.out.cr.r3.kept HW0.out.kp).at v0 (by rw [nv_len, firsts_len]; omega)
                rw [firsts_get n ys v0 (by omega)] at f3
                have v03 : (v0 : Int) < ((n + 1 : Nat) : Int) := by omega
                obtain ⟨f0, hf0⟩ : ∃ f0, fst ys v0 = f0 := ⟨_, rfl⟩
                rw [hf0] at f3
                have HF0 := Lib.hid hf0
                have HF1 : Hid (fst ys v0 ≤ fst ys (v0 + 1)) := Lib.hid (fst_mono ys (Nat.le_succ _))
                clear hf0
                rw [e3] at cb9
                go_wp2_with fail
                clear cb9 x1 f3 v03 e3
                go_loopw [12] (fun y wr => ∃ (a : Nat) (os : List Int) (v : Value) (q : List (Int × Int)), y = .int .i64 a ∧ fst ys v0 ≤ a ∧ a ≤ fst ys (v0 + 1) ∧ Hid (LJ N S n m ys rs hs os q v0 a) ∧ Hid (os.getD v0 0 = k) ∧ Hid (2 * os.sum + (q.length : Int) + 1 ≤ gk) ∧ Hid (LWS N S T n m a3 a4 a5 a6 a7 a8 c3 c4 c5 c6 c7 c8 w ys cb ra rs ob rest qb base os v q wr) ∧ Hid (Blk wr xb #[.int .i64 k, .int .i64 (v0 : Int)] 78 ∧ ¬ v.ownBlock = some xb)) (fun y _ => fst ys (v0 + 1) - (intOf y).toNat)
                case atStart => exact ⟨f0, os, v', q', rfl, by rw [HF0.out]; exact Nat.le_refl _, by rw [← HF0.out]; exact HF1.out, by rw [← HF0.out]; exact HLJ0, HOK0, HMU0, HW0, HX0⟩
                case round =>
                  obtain ⟨a, os, v, q, rfl, ha1, ha2, HLJ, HOK, HMU, HW, HX⟩ := hrel
                  clear HLJ0 HW0 HX0 HMU0 HOK0
                  have cb9 := HW.out.box.cell
                  have x0 : wr.cell? ⟨xb, 0, none⟩ = some (.int .i64 k) := by rw [HX.out.1.cell]; rfl
                  have x1 : wr.cell? ⟨xb, 1, none⟩ = some (.int .i64 (v0 : Int)) := by rw [HX.out.1.cell]; rfl
                  obtain ⟨b3, o3, e3, f3⟩ := (HW.out.cr.r3.kept HW.out.kp).at (v0 + 1) (by rw [nv_len, firsts_len]; omega)
                  rw [firsts_get n ys (v0 + 1) (by omega)] at f3
                  obtain ⟨f, hf⟩ : ∃ f, fst ys (v0 + 1) = f := ⟨_, rfl⟩
                  rw [hf] at f3 ha2
                  have HF := Lib.hid hf
                  clear hf
                  subst e3
                  have v1 : (v0 : Int) + 1 ≤ 17 := by omega
                  have v2 : (0 : Int) ≤ (v0 : Int) + 1 := by omega
                  have v3 : (v0 : Int) + 1 < ((n + 1 : Nat) : Int) := by omega
                  have hc1 : ((v0 + 1 : Nat) : Int) = (v0 : Int) + 1 := by omega
                  by_cases haf : a < f
                  · have haI : (a : Int) < (f : Int) := by omega
                    have ham : a < m := by
                      have h1 := fst_mono ys (show v0 + 1 ≤ n by omega)
                      have h2 := HG.out.hm
                      have h3 := HF.out
                      unfold fst at h1 h3
                      omega
                    have ham' : (a : Int) < (m : Int) := by omega
                    have ham0 : (0 : Int) ≤ (a : Int) := by omega
                    have hm640 : (m : Int) ≤ 640 := by have := HNL.out; omega
                    obtain ⟨b4, o4, e4, f4⟩ := (HW.out.cr.r4.kept HW.out.kp).at a (by rw [hv_len]; have := HG.out.hm; omega)
                    rw [(hd_get HG.out a ham).1] at f4
                    obtain ⟨b5, o5, e5, f5⟩ := (HW.out.cr.r5.kept HW.out.kp).at a (by have h1 := (rv_facts HG.out a ham).1; exact (List.getElem?_eq_some_iff.1 h1).1)
                    rw [(rv_facts HG.out a ham).1] at f5
                    obtain ⟨u, hu⟩ : ∃ u, hd n ys a = u := ⟨_, rfl⟩
                    obtain ⟨r, hr⟩ : ∃ r, rv n ys a = r := ⟨_, rfl⟩
                    rw [hu] at f4
                    rw [hr] at f5
                    subst e4
                    subst e5
                    have hun : u < n := by rw [← hu]; exact (hd_get HG.out a ham).2
                    have hrm' : r < m := by rw [← hr]; exact (rv_facts HG.out a ham).2.1
                    obtain ⟨b6, o6, e6, f6⟩ := (HW.out.rs.kept HW.out.kp).num (i := r) (by rw [HRL.out, HRM.out]; exact hrm')
                    subst e6
                    have c1 := HW.out.num (u := u) (by rw [HLJ.out.1.len]; exact hun)
                    obtain ⟨x, hx⟩ : ∃ x, rs.getD r 0 = x := ⟨_, rfl⟩
                    obtain ⟨o, ho⟩ : ∃ o, os.getD u 0 = o := ⟨_, rfl⟩
                    rw [hx] at f6
                    rw [ho] at c1
                    have HU := Lib.hid (And.intro hu (And.intro hr (And.intro hx ho)))
                    have un1 : (u : Int) < (n : Int) := by omega
                    have un0 : (0 : Int) ≤ (u : Int) := by omega
                    have rm1 : (r : Int) < (m : Int) := by omega
                    have rm0 : (0 : Int) ≤ (r : Int) := by omega
                    have rl1 : (r : Int) < (rl : Int) := by have := HRM.out; omega
                    have hb0 := HLJ.out.1.bd u hun
                    rw [ho] at hb0
                    have hk17 : 0 ≤ k ∧ k ≤ 16 := by have h1 := HLJ.out.1.bd v0 hv0; have h2 := HOK.out; have h3 := HNL.out; omega
                    have ho17 : 0 ≤ o ∧ o ≤ 16 := by have h3 := HNL.out; omega
                    have HTL : Hid (tl ys n r = u) := Lib.hid (by rw [← hr, ← hu]; exact (rv_facts HG.out a ham).2.2.1)
                    clear hu hr hx ho hb0
                    by_cases hS : (u : Int) = S
                    · as_aux_lemma =>
                      have g1 : ((u : Int) != S) = false := by simp [hS]
                      have HLJ2 : Hid (LJ N S n m ys rs hs os q v0 (a + 1)) := Lib.hid (HLJ.out.same (fun h _ => by rw [HU.out.2.1, HTL.out] at h; exact absurd hS h))
                      clear hS
                      go_upto_region 17 with (fail)
                      refine wp_region_kept (by kernel_rfl) (by kernel_rfl) ?_
                      repeat (go_big_quiet_step (fail))
                      refine wpQuiet_nil ?_
                      intro w9 hk9
                      have HW2 := Lib.hid (HW.out.kept hk9)
                      have HX2 : Hid (Blk w9 xb #[.int .i64 k, .int .i64 (v0 : Int)] 78 ∧ ¬ v.ownBlock = some xb) := Lib.hid ⟨HX.out.1.kept hk9, HX.out.2⟩
                      clear hk9 HW HX
                      go_wp2_with fail
                      go_roundw
                      case rel => exact ⟨a + 1, os, v, q, by go_num, by omega, by have := HF.out; omega, HLJ2, HOK, HMU, HW2, HX2⟩
                      case measure => (have := HF.out; simp [intOf]; omega)
                    · have g1 : ((u : Int) != S) = true := by simp [hS]
                      have HS := Lib.hid hS
                      clear hS
                      by_cases hx0 : 0 < x
                      · by_cases hko : k + 1 < o
                        · as_aux_lemma =>
                          go_upto_region 17 with (fail)
                          refine wp_region_kept (by kernel_rfl) (by kernel_rfl) ?_
                          repeat (go_big_quiet_step (fail))
                          refine wpQuiet_nil ?_
                          intro w9 hk9
                          have HW2 := Lib.hid (HW.out.kept hk9)
                          have HX2 : Hid (Blk w9 xb #[.int .i64 k, .int .i64 (v0 : Int)] 78 ∧ ¬ v.ownBlock = some xb) := Lib.hid ⟨HX.out.1.kept hk9, HX.out.2⟩
                          clear hk9 HW HX
                          have g2 := HU.out.2.2.2
                          have HPU := Lib.hid (hpush_any (HW2.out.put u (by rw [HLJ.out.1.len]; exact hun) (k + 1)).que (k + 1) (u : Int) (by have h1 := HLJ.out.1.cnt; have h3 := right_sum HG.out HRB.out; have h4 := low_sum HLJ.out.1; have h5 := Int.mul_le_mul (show (n : Int) ≤ 16 by omega) (show (n : Int) ≤ 16 by omega) (by omega) (by omega); omega))
                          have HWP := Lib.hid (HW2.out.put u (by rw [HLJ.out.1.len]; exact hun) (k + 1))
                          have c2 : w9.cell? ⟨ob, u, none⟩ = some (.int .i64 o) := by rw [← g2]; exact HW2.out.num (by rw [HLJ.out.1.len]; exact hun)
                          have c3 := HW2.out.out.free u
                          have x2 : w9.cell? ⟨xb, 0, none⟩ = some (.int .i64 k) := by rw [HX2.out.1.cell]; rfl
                          have hxo : ¬ ob = xb := fun e => by have h1 := HX2.out.1; rw [← e] at h1; exact absurd (h1.same HW2.out.out).2 (by decide)
                          have HXP : Hid (Blk (w9.setCell ⟨ob, u, none⟩ (.int .i64 (k + 1))) xb #[.int .i64 k, .int .i64 (v0 : Int)] 78) := Lib.hid (HX2.out.1.upd (S := fun i => i = ob) (Upd.setCell (S := fun i => i = ob) (p := ⟨ob, u, none⟩) (Upd.refl _ _) (.inl rfl) _) (fun e => hxo e.symm))
                          clear g2
                          go_wp2_with fail
                          refine HPU.out.mono ?_
                          rintro e wA ⟨rfl, v', q', hp, hq, hs'⟩
                          have hdn := LJ.down HG.out (by rw [HRL.out, HRM.out]) HLJ.out hv0 ha1 (by rw [HF.out]; exact haf) u HU.out.1 HS.out (by rw [HU.out.2.1, HU.out.2.2.1]; exact hx0) (by rw [HOK.out, HU.out.2.2.2]; exact hko) (q' := q') (by rw [HOK.out]; exact hp)
                          rw [HOK.out] at hdn
                          have HLJ3 := Lib.hid hdn.1
                          have HOK3 := Lib.hid hdn.2.1
                          have HMU3 : Hid (2 * (os.set u (k + 1)).sum + (q'.length : Int) + 1 ≤ gk) := Lib.hid (by have := hdn.2.2; have := HMU.out; omega)
                          have HW3 := Lib.hid (HWP.out.heap hs' hq)
                          have hxq : xb ≠ qb := fun e => by have h1 := HX2.out.1; rw [e] at h1; exact absurd (h1.same HW2.out.que.box).2 (by decide)
                          have HX3 : Hid (Blk wA xb #[.int .i64 k, .int .i64 (v0 : Int)] 78 ∧ ¬ v'.ownBlock = some xb) := Lib.hid ⟨HXP.out.upd hs'.upd (fun e => e.elim (fun e => hxq e) (fun e => HX2.out.2 e)), fun e => (hs'.new xb e).elim (fun e => HX2.out.2 e) (fun e => by have := HXP.out.lt; omega)⟩
                          clear hdn hp hq hs' HPU HWP HXP HLJ HOK HMU HW2 HX2 c2 c3 x2 hxo hxq
                          go_wp2_with fail
                          go_roundw
                          case rel => exact ⟨a + 1, _, v', q', by go_num, by omega, by have := HF.out; omega, HLJ3, HOK3, HMU3, HW3, HX3⟩
                          case measure => (have := HF.out; simp [intOf]; omega)
                        · as_aux_lemma =>
                          have HLJ2 : Hid (LJ N S n m ys rs hs os q v0 (a + 1)) := Lib.hid (HLJ.out.same (fun _ _ => by rw [HU.out.2.1, HTL.out, HOK.out, HU.out.2.2.2]; omega))
                          have g3 : decide (k + 1 < o) = false := decide_eq_false hko
                          go_upto_region 17 with (fail)
                          refine wp_region_kept (by kernel_rfl) (by kernel_rfl) ?_
                          repeat (go_big_quiet_step (fail))
                          refine wpQuiet_nil ?_
                          intro w9 hk9
                          have HW2 := Lib.hid (HW.out.kept hk9)
                          have HX2 : Hid (Blk w9 xb #[.int .i64 k, .int .i64 (v0 : Int)] 78 ∧ ¬ v.ownBlock = some xb) := Lib.hid ⟨HX.out.1.kept hk9, HX.out.2⟩
                          clear hk9 HW HX
                          go_wp2_with fail
                          go_roundw
                          case rel => exact ⟨a + 1, os, v, q, by go_num, by omega, by have := HF.out; omega, HLJ2, HOK, HMU, HW2, HX2⟩
                          case measure => (have := HF.out; simp [intOf]; omega)
                      · as_aux_lemma =>
                        have HLJ2 : Hid (LJ N S n m ys rs hs os q v0 (a + 1)) := Lib.hid (HLJ.out.same (fun _ h => by rw [HU.out.2.1, HU.out.2.2.1] at h; exact absurd h hx0))
                        have g2 : decide (0 < x) = false := decide_eq_false hx0
                        go_upto_region 17 with (fail)
                        refine wp_region_kept (by kernel_rfl) (by kernel_rfl) ?_
                        repeat (go_big_quiet_step (fail))
                        refine wpQuiet_nil ?_
                        intro w9 hk9
                        have HW2 := Lib.hid (HW.out.kept hk9)
                        have HX2 : Hid (Blk w9 xb #[.int .i64 k, .int .i64 (v0 : Int)] 78 ∧ ¬ v.ownBlock = some xb) := Lib.hid ⟨HX.out.1.kept hk9, HX.out.2⟩
                        clear hk9 HW HX
                        go_wp2_with fail
                        go_roundw
                        case rel => exact ⟨a + 1, os, v, q, by go_num, by omega, by have := HF.out; omega, HLJ2, HOK, HMU, HW2, HX2⟩
                        case measure => (have := HF.out; simp [intOf]; omega)
                  · as_aux_lemma =>
                    have haI : ¬ (a : Int) < (f : Int) := by omega
                    have haf2 : a = fst ys (v0 + 1) := by rw [HF.out]; omega
                    subst haf2
                    have HLI2 := Lib.hid HLJ.out.done
                    clear HLJ
                    go_wp2_with fail
                    go_roundg (gk - 1)
                    case rel => exact ⟨os, v, q, HLI2, Lib.hid (by have := HMU.out; omega), HW⟩
                    case measure => (have h1 := HMU.out; have h2 := low_sum HLI2.out.1; omega)
  · as_aux_lemma =>
    have hne : ((rl : Int) != (m : Int)) = true := by simp; omega
    have HMB : Hid (mayB N S T m rs hs = false) := Lib.hid (by unfold mayB; rw [HRL.out]; simp [hrm2])
    clear hrm2
    go_wp2_with fail
    go_ret
    exact ⟨none, 0, 0, [], rfl, rfl, by unfold LowL; rw [HMB.out]; rfl, .inl rfl, Nat.le_refl _, (fun _ e => by cases e), HK2.out⟩
end Go.Proofs.Yticeionjlknlcaa
