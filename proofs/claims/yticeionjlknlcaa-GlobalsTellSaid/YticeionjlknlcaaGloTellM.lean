/- The law GlobalsTell (printed by gen_glotell.py). (and what it stands on; merged by merge.py). -/
import Derived.Test.YticeionjlknlcaaBase
import Derived.StillTail
import Derived.Test.YticeionjlknlcaaDistP
import Derived.Test.YticeionjlknlcaaRev
import Derived.Test.YticeionjlknlcaaTail
import Derived.Test.YticeionjlknlcaaPush
import Derived.Deep.CutRange
import Derived.Test.YticeionjlknlcaaLabAt
import Derived.Test.YticeionjlknlcaaLess
import Derived.Test.YticeionjlknlcaaGloP
import Derived.Test.YticeionjlknlcaaCopyRow
import Derived.Test.YticeionjlknlcaaAwake20
import Derived.Handy
import Derived.Test.YticeionjlknlcaaStep
import Derived.Deep.RegionHeld3
import Derived.Test.YticeionjlknlcaaOpen
import Derived.SizedLaws
import Derived.Lib.AppendZerosOnto
import Derived.Test.YticeionjlknlcaaRd
import Derived.Test.YticeionjlknlcaaGst
import Derived.StillTailTactics
/- A region that draws its order, whose last operations wait for all others: what is ahead of them is walked as a quiet one. No program in sight. -/
namespace Go.Proofs.Yticeionjlknlcaa
set_option linter.unusedVariables false
open Go.RowKit

theorem still_of_quiet {P : Program} {ops : Array Oper} {W : World} {Q : Act → Prop} : ∀ {l : List Oper} {a : Act}, wpQuiet P ops (fun w' => w' = W) Q l a → wpStill P ops W Q l a
  | [], _, h => h
  | o :: rest, a, h => by
    unfold wpQuiet at h
    unfold wpStill
    split at h
    · rename_i hw
      rw [if_pos hw]
      obtain ⟨v, h1, h2⟩ := h
      have h3 := h1 W rfl
      have h4 := still_of_quiet h2
      unfold Oper.quietAt at h3
      unfold Oper.still
      generalize (execOp a.eval o).run P W = r at h3 ⊢
      cases r with
      | ok n w' =>
        cases n <;> simp only [Oper.quietUpon, Oper.stillUpon] at h3 ⊢
        case value u => obtain ⟨rfl, rfl⟩ := h3; exact ⟨rfl, h4⟩
        case skip => obtain ⟨rfl, rfl⟩ := h3; exact ⟨rfl, h4⟩
        case enter f args => exact ⟨h3.1, v, h3.2, h4⟩
      | halt x w' => simp only [Oper.quietUpon] at h3
    · rename_i hw
      rw [if_neg hw]
      exact still_of_quiet h
theorem wp_region_quiet_tail {P : Program} {id : Nat} {Q : Exit → Act → World → Prop} {a : Act} {w : World} {l : List Oper} (n : Nat) (hm : P.follows .mixedOrders = true) (hB : Region.lexTailB .any l.toArray n = true)
    (h : wpQuiet P l.toArray (fun w' => w' = w.drew) (fun a' => wpList P l.toArray Q (l.drop n) a' w.drew) (l.take n) a) : (Code.region id l.toArray true).wp P Q a w :=
  wp_region_still_tail n hm hB (still_of_quiet h)
end Go.Proofs.Yticeionjlknlcaa
/- Shorter and shorter, as long as something changes: what makes it so far. Plain. -/
namespace Go.Proofs.Yticeionjlknlcaa
set_option linter.unusedVariables false
set_option linter.unusedSimpArgs false
open Go.RowKit

theorem sum_set_lt : ∀ {l : List Nat} {i x : Nat}, i < l.length → x < l.getD i 0 → (l.set i x).sum < l.sum
  | [], _, _, h, _ => by simp at h
  | a :: l, 0, x, _, h => by simp at h; simp; omega
  | a :: l, i + 1, x, h, hx => by
    simp at h
    have := sum_set_lt (l := l) (i := i) (x := x) h (by simpa using hx)
    simp
    omega
/-- So far at most, by some way. -/
structure RL (n s : Nat) (E : Nat → Nat → Prop) (d : List Nat) : Prop where
  len : d.length = n
  lt : s < n
  src : d.getD s 0 = 0
  le : ∀ v, v < n → d.getD v 0 ≤ n
  par : ∀ v, v < n → v ≠ s → d.getD v 0 < n → ∃ u, u < n ∧ E u v ∧ d.getD u 0 + 1 ≤ d.getD v 0
theorem RL.start {n s : Nat} (E : Nat → Nat → Prop) (hs : s < n) : RL n s E ((List.replicate n n).set s 0) := by
  have g : ∀ v, v < n → ((List.replicate n n).set s 0).getD v 0 = if s = v then 0 else n := fun v hv => by
    rw [getDn_set (by simpa using hs)]
    split
    · rfl
    · exact rep_get hv
  refine ⟨by simp, hs, by rw [g s hs, if_pos rfl], fun v hv => by rw [g v hv]; split <;> omega, fun v hv hne hl => ?_⟩
  rw [g v hv, if_neg (fun e => hne e.symm)] at hl
  omega
theorem RL.lower {n s : Nat} {E : Nat → Nat → Prop} {d : List Nat} (h : RL n s E d) {x y : Nat} (hx : x < n) (hy : y < n) (he : E x y) (hl : d.getD x 0 + 1 < d.getD y 0) :
    RL n s E (d.set y (d.getD x 0 + 1)) ∧ (d.set y (d.getD x 0 + 1)).sum < d.sum := by
  have hyl : y < d.length := by rw [h.len]; exact hy
  have g : ∀ v, (d.set y (d.getD x 0 + 1)).getD v 0 = if y = v then d.getD x 0 + 1 else d.getD v 0 := fun v => getDn_set hyl
  have hys : y ≠ s := fun e => by have := h.src; rw [← e] at this; omega
  have hyn := h.le y hy
  refine ⟨⟨by simpa using h.len, h.lt, by rw [g, if_neg hys]; exact h.src, fun v hv => ?_, fun v hv hne hlt => ?_⟩, sum_set_lt hyl hl⟩
  · rw [g]; split
    · omega
    · exact h.le v hv
  · rw [g] at hlt ⊢
    split at hlt
    · rename_i e
      subst e
      rw [if_pos rfl]
      exact ⟨x, hx, he, by rw [g, if_neg (by intro e; subst e; omega)]; exact Nat.le_refl _⟩
    · rename_i e
      rw [if_neg e]
      obtain ⟨u, hu, h1, h2⟩ := h.par v hv hne hlt
      refine ⟨u, hu, h1, ?_⟩
      rw [g]; split
      · rename_i e2; subst e2; omega
      · exact h2
theorem RL.done {n s : Nat} {E : Nat → Nat → Prop} {d : List Nat} (h : RL n s E d) (hst : ∀ u v, u < n → v < n → E u v → d.getD v 0 ≤ d.getD u 0 + 1) : IsD n s E d :=
  ⟨h.len, h.lt, h.src, h.le, hst, fun v hv hne hl => by
    obtain ⟨u, hu, h1, h2⟩ := h.par v hv hne hl
    exact ⟨u, hu, h1, by have := hst u v hu hv h1; omega⟩⟩
/-- Where an arc is looked from, and where it may make nearer: z: to a vertex, against the arcs. -/
def rlX (n : Nat) (ys : List Ar) (z : Bool) (a : Nat) : Nat := if z then hd n ys a else tl ys n a
def rlY (n : Nat) (ys : List Ar) (z : Bool) (a : Nat) : Nat := if z then tl ys n a else hd n ys a
def rlE (n m : Nat) (ys : List Ar) (rs : List Int) (z : Bool) (x y : Nat) : Prop := ∃ a, a < m ∧ rlX n ys z a = x ∧ rlY n ys z a = y ∧ 0 < rs.getD a 0
theorem rlE_true (n m : Nat) (ys : List Ar) (rs : List Int) (x y : Nat) : rlE n m ys rs true x y ↔ OpenA n m ys rs y x := by
  unfold rlE OpenA rlX rlY
  simp only [if_true]
  exact ⟨fun ⟨a, h1, h2, h3, h4⟩ => ⟨a, h1, h3, h2, h4⟩, fun ⟨a, h1, h2, h3, h4⟩ => ⟨a, h1, h3, h2, h4⟩⟩
theorem rlE_false (n m : Nat) (ys : List Ar) (rs : List Int) (x y : Nat) : rlE n m ys rs false x y ↔ OpenA n m ys rs x y := by
  unfold rlE OpenA rlX rlY
  simp only [Bool.false_eq_true, if_false]
/-- How a round goes: whether something changed since d0; the first k arcs. -/
structure PG (n : Nat) (ys : List Ar) (rs : List Int) (z : Bool) (d0 d : List Nat) (b : Bool) (k : Nat) : Prop where
  t : b = true → d.sum < d0.sum
  f : b = false → d = d0 ∧ ∀ c, c < k → 0 < rs.getD c 0 → d.getD (rlY n ys z c) 0 ≤ d.getD (rlX n ys z c) 0 + 1
theorem PG.start (n : Nat) (ys : List Ar) (rs : List Int) (z : Bool) (d : List Nat) : PG n ys rs z d d false 0 := ⟨fun h => (by cases h), fun _ => ⟨rfl, fun c h => (by omega)⟩⟩
theorem PG.pass {n : Nat} {ys : List Ar} {rs : List Int} {z : Bool} {d0 d : List Nat} {b : Bool} {k : Nat} (h : PG n ys rs z d0 d b k) (hk : 0 < rs.getD k 0 → d.getD (rlY n ys z k) 0 ≤ d.getD (rlX n ys z k) 0 + 1) : PG n ys rs z d0 d b (k + 1) :=
  ⟨h.t, fun hb => ⟨(h.f hb).1, fun c hc hr => by
    rcases Nat.lt_or_ge c k with h1 | h1
    · exact (h.f hb).2 c h1 hr
    · obtain rfl : c = k := by omega
      exact hk hr⟩⟩
theorem PG.put {n : Nat} {ys : List Ar} {rs : List Int} {z : Bool} {d0 d d' : List Nat} {b : Bool} {k k' : Nat} (h : PG n ys rs z d0 d b k) (hs : d'.sum < d.sum) : PG n ys rs z d0 d' true k' :=
  ⟨fun _ => by
    cases b with
    | true => have := h.t rfl; omega
    | false => obtain ⟨h1, -⟩ := h.f rfl; rw [← h1]; exact hs, fun h => (by cases h)⟩
/-- The row d ahead of what else its array has. -/
structure DW (w : World) (cb g : Nat) (C : Array Value) (TC : TypeId) (d : List Nat) (rest : List Value) (wr : World) : Prop where
  kp : Kept w wr
  box : Blk wr cb C TC
  dd : Blk wr g (nv d ++ rest).toArray 3
  ne : cb ≠ g
  lo : w.heap.size ≤ g
theorem DW.kept {w : World} {cb g : Nat} {C : Array Value} {TC : TypeId} {d : List Nat} {rest : List Value} {wr w' : World} (h : DW w cb g C TC d rest wr) (k : Kept wr w') : DW w cb g C TC d rest w' :=
  ⟨h.kp.trans k, h.box.kept k, h.dd.kept k, h.ne, h.lo⟩
theorem DW.at {w : World} {cb g : Nat} {C : Array Value} {TC : TypeId} {d : List Nat} {rest : List Value} {wr : World} (h : DW w cb g C TC d rest wr) (v : Nat) (hv : v < d.length) : wr.cell? ⟨g, v, none⟩ = some (.int .i64 (d.getD v 0 : Nat)) := by
  rw [h.dd.cell]
  simp only [List.getElem?_toArray]
  rw [List.getElem?_append_left (by rw [nv_len]; exact hv), nv_get hv]
theorem DW.set {w : World} {cb g : Nat} {C : Array Value} {TC : TypeId} {d : List Nat} {rest : List Value} {wr : World} (h : DW w cb g C TC d rest wr) (v x : Nat) (hv : v < d.length) : DW w cb g C TC (d.set v x) rest (wr.setCell ⟨g, v, none⟩ (.int .i64 (x : Nat))) := by
  refine ⟨Kept.set h.kp h.lo _, h.box.other (p := ⟨g, v, none⟩) h.ne _, ?_, h.ne, h.lo⟩
  have := h.dd.set v (.int .i64 (x : Nat))
  have e : (nv d ++ rest).toArray.setIfInBounds v (.int .i64 (x : Nat)) = (nv (d.set v x) ++ rest).toArray := by
    simp [nv, List.map_set, hv]
  rwa [e] at this
/-- What is owned, as such a row. -/
theorem dw_of {w wr : World} {base cb k c : Nat} {a : Option Addr} {C : Array Value} {TC : TypeId} {d : List Nat} (hk : Kept w wr) (hb : Blk wr cb C TC) (h : wr.ownsRow base 3 1 (.slice a k c) k (nv d)) (hn : 0 < k) (hw : w.heap.size ≤ base) (ht : 3 ≠ TC) :
    ∃ g rest, a = some ⟨g, 0, none⟩ ∧ DW w cb g C TC d rest wr := by
  rcases h.2 with ⟨h1, h2⟩ | ⟨g, cap, cur, h1, h2, h3, h4, h5, h6, h7⟩
  · omega
  · cases h1
    refine ⟨g, cur.toList.drop (k * 1), rfl, hk, hb, ?_, ?_, by omega⟩
    · rw [← h7, List.take_append_drop]
      exact h3
    · intro e
      subst e
      have hz := (Blk.same hb (show Blk wr _ cur 3 from h3)).2
      exact ht hz.symm
end Go.Proofs.Yticeionjlknlcaa
/- acequia/dist: right, the closures of To and From (printed by gen_distfrom.py). -/
namespace Go.Proofs.Yticeionjlknlcaa
set_option linter.unusedVariables false
set_option linter.unusedSimpArgs false
open Go.RowKit
attribute [local go_sem] cell?_ext

end Go.Proofs.Yticeionjlknlcaa
/- acequiaref05.To (printed by gen_refdist.py). -/
namespace Go.Proofs.Yticeionjlknlcaa
set_option linter.unusedVariables false
set_option linter.unusedSimpArgs false
open Go.RowKit
attribute [local go_sem] cell?_ext

theorem lt_casts (x y : Nat) (h : x + 1 < y) : decide (((x + 1 : Nat) : Int) < (y : Int)) = true ∧ decide ((x : Int) + 1 < (y : Int)) = true := by
  constructor <;> simp <;> omega
theorem nlt_casts (x y : Nat) (h : ¬ x + 1 < y) : decide (((x + 1 : Nat) : Int) < (y : Int)) = false ∧ decide ((x : Int) + 1 < (y : Int)) = false := by
  constructor <;> simp <;> omega
theorem Rd.dw {w : World} {cb g : Nat} {C : Array Value} {TC : TypeId} {d : List Nat} {rest : List Value} {wr : World} (h : DW w cb g C TC d rest wr) : Rd wr (some ⟨g, 0, none⟩) (nv d) :=
  .inr ⟨g, 0, rfl, fun i u hu => by
    have hi : i < d.length := by rw [← nv_len d]; exact (List.getElem?_eq_some_iff.1 hu).1
    rw [Nat.zero_add, h.at i hi, ← hu, nv_get hi]⟩
/-- What To and From hand back. -/
def RefD (n t : Nat) (E : Nat → Nat → Prop) (w : World) (e : Ending) (w' : World) : Prop := ∃ (db c : Nat) (d : List Nat), e = .returned (.slice (some ⟨db, 0, none⟩) n c) ∧ Rd w' (some ⟨db, 0, none⟩) (nv d) ∧ IsD n t E d ∧ Kept w w' ∧ (∃ rest, Blk w' db (nv d ++ rest).toArray 3) ∧ w.heap.size ≤ db
set_option maxHeartbeats 8000000 in
theorem refTo0_ok (N S T : Int) (n m : Nat) (a3 a4 a5 a6 a7 a8 : Option Addr) (c3 c4 c5 c6 c7 c8 : Nat) (ys : List Ar) (ra : Option Addr) (rc : Nat) (rs : List Int) (t : Nat) (w : World) (hg : Gr N S T n m ys) (hcr : CsrR w n ys a3 a4 a5 a6 a7 a8) (hr : Rd w ra (lv rs)) (hm : rs.length = m) (ht : t < n) :
    Calls Try.prog 56 #[.agg #[.int .i64 N, .int .i64 S, .int .i64 T, .slice a3 (n + 1) c3, .slice a4 m c4, .slice a5 m c5, .slice a6 m c6, .slice a7 m c7, .slice a8 m c8], .slice ra m rc, .int .i64 t] w (RefD n t (rlE n m ys rs true) w) := by
  have HK := Lib.hid ((Upd.refl (fun _ => False) w).alloc (.cells #[.int .i64 N, .int .i64 S, .int .i64 T, .slice a3 (n + 1) c3, .slice a4 m c4, .slice a5 m c5, .slice a6 m c6, .slice a7 m c7, .slice a8 m c8] 29))
  have HB := Lib.hid (Blk.new w #[.int .i64 N, .int .i64 S, .int .i64 T, .slice a3 (n + 1) c3, .slice a4 m c4, .slice a5 m c5, .slice a6 m c6, .slice a7 m c7, .slice a8 m c8] 29)
  obtain ⟨hnN, hn2, hn16, hm6, -⟩ := hg.len
  have HG := Lib.hid hg
  have HCR := Lib.hid hcr
  have HRR := Lib.hid hr
  have HRM := Lib.hid hm
  clear hg hcr hr hm
  subst hnN
  obtain ⟨b3, o3, e3, -⟩ := HCR.out.r3.at 0 (by rw [nv_len, firsts_len]; omega)
  subst e3
  have HF1 : Hid (∀ u, u < n → ∀ w', Kept w w' → w'.cell? ⟨b3, o3 + u, none⟩ = some (.int .i64 (fst ys u : Nat)) ∧ w'.cell? ⟨b3, o3 + (u + 1), none⟩ = some (.int .i64 (fst ys (u + 1) : Nat))) := Lib.hid (fun u hu w' k => by
    obtain ⟨b, o, e, h1⟩ := (HCR.out.kept k).r3.at u (by rw [nv_len, firsts_len]; omega)
    obtain ⟨b', o', e', h2⟩ := (HCR.out.kept k).r3.at (u + 1) (by rw [nv_len, firsts_len]; omega)
    cases e
    cases e'
    rw [firsts_get n ys _ (by omega)] at h1 h2
    exact ⟨h1, h2⟩)
  have HFM : Hid (fst ys n = m) := Lib.hid HG.out.hm
  have e1 : ((m : Int) != (m : Int)) = false := by simp
  have e2 : decide ((t : Int) < 0) = false := by simp
  have e3 : decide ((n : Int) ≤ (t : Int)) = false := by simp; omega
  have e4 : decide (n ≤ t) = false := by simp; omega
  go_enter Try.func56, Try.ntmps56
  go_upto_region 1 with (fail)
  generalize (w.alloc (.cells #[.int .i64 n, .int .i64 S, .int .i64 T, .slice (some ⟨b3, o3, none⟩) (n + 1) c3, .slice a4 m c4, .slice a5 m c5, .slice a6 m c6, .slice a7 m c7, .slice a8 m c8] 29)) = W0 at HK HB ⊢
  generalize w.heap.size = cb at HB ⊢
  have bx := HB.out.cell
  go_upto_region 5 with (fail)
  clear bx e1 e2 e3 e4
  go_loopw [7, 8] (fun ox vx wr => ∃ (v c : Nat) (a : Option Addr), ox = .slice a v c ∧ vx = .int .i64 v ∧ v ≤ n ∧ Hid (Kept W0 wr) ∧ Hid (wr.ownsRow W0.heap.size 3 1 (.slice a v c) v (nv (List.replicate v n)))) (fun _ vx _ => n - (intOf vx).toNat)
  case atStart => exact ⟨0, 0, none, rfl, rfl, by omega, Lib.hid (Upd.refl _ _), Lib.hid (World.ownsRow_nil W0 W0.heap.size 3 1)⟩
  case round =>
    obtain ⟨v, c, a, rfl, rfl, hvn, HKK, HRW⟩ := hrel
    have bx := (HB.out.kept HKK.out).cell
    by_cases hv : v < n
    · have j0 : (v : Int) < (n : Int) := by omega
      have hv16 : (v : Int) ≤ 1000 := by omega
      obtain ⟨i0', hi0, hz0, hz1, hz2⟩ := info_parts infoInt
      have hxl : v ≤ 2000000 := by omega
      have hbs := HKK.out.size
      have ho := HRW.out
      clear HRW
      go_upto_region 6 with (first | (at_builtin; refine wpList_push rfl _ _ 26 rfl W0.heap.size 3 i0' (.int .i64 0) 8 Try.underlying26 hi0 hz0 hz1 hz2 rfl (by decide) _ _ _ rfl ho (.int .i64 (n : Int)) rfl rfl hxl hbs ?_; intro g cap' w5 hown hg2; clear hi0 hz0 hz1 hz2 hxl hbs; have HK6 := Lib.hid (hg2.kept HKK.out ho (Nat.le_refl _)); have HR6 := Lib.hid hown; clear hown hg2 ho HKK) | fail)
      clear bx
      go_wp2_with fail
      go_roundw
      case rel => exact ⟨v + 1, _, _, rfl, by go_num, by omega, HK6, Lib.hid (by rw [show nv (List.replicate (v + 1) n) = nv (List.replicate v n) ++ [.int .i64 (n : Int)] by simp [nv, List.replicate_succ']]; exact HR6.out)⟩
      case measure => simp [intOf]; omega
    · have j0 : ¬ (v : Int) < (n : Int) := by omega
      obtain rfl : v = n := by omega
      have HLO : Hid (w.heap.size ≤ W0.heap.size) := Lib.hid HK.out.size
      obtain ⟨g, rest, eg, hdw⟩ := dw_of (HK.out.trans HKK.out) (HB.out.kept HKK.out) HRW.out (by omega) HLO.out (by decide)
      cases eg
      have HDW := Lib.hid hdw
      clear hdw HRW HKK HB HK HLO
      have dct := HDW.out.at t (by simpa using ht)
      have df := HDW.out.dd.free t
      have a1 : (0 : Int) ≤ (t : Int) := by omega
      have a2 : (t : Int) < (v : Int) := by omega
      have HDW0 : Hid (DW w cb g #[.int .i64 v, .int .i64 S, .int .i64 T, .slice (some ⟨b3, o3, none⟩) (v + 1) c3, .slice a4 m c4, .slice a5 m c5, .slice a6 m c6, .slice a7 m c7, .slice a8 m c8] 29 ((List.replicate v v).set t 0) rest (wr.setCell ⟨g, t, none⟩ (.int .i64 0))) := Lib.hid (HDW.out.set t 0 (by simpa using ht))
      clear HDW
      have HRL0 := Lib.hid (RL.start (n := v) (s := t) (rlE v m ys rs true) ht)
      go_upto_region 9 with (fail)
      generalize (wr.setCell ⟨g, t, none⟩ (.int .i64 0)) = w3 at HDW0 ⊢
      clear dct df bx a1 a2 j0 hvn hv
      obtain ⟨D0, hD0⟩ : ∃ D0, (List.replicate v v).set t 0 = D0 := ⟨_, rfl⟩
      rw [hD0] at HDW0 HRL0
      clear hD0
      go_upto_region 10 with (fail)
      go_loopg [9] (2 * D0.sum + 1) (fun k mo wr => ∃ (d : List Nat) (b : Bool), mo = .bool b ∧ Hid (2 * d.sum + b.toNat = k) ∧ Hid (RL v t (rlE v m ys rs true) d) ∧ Hid (DW w cb g #[.int .i64 v, .int .i64 S, .int .i64 T, .slice (some ⟨b3, o3, none⟩) (v + 1) c3, .slice a4 m c4, .slice a5 m c5, .slice a6 m c6, .slice a7 m c7, .slice a8 m c8] 29 d rest wr) ∧ Hid (b = false → ∀ c, c < m → 0 < rs.getD c 0 → d.getD (rlY v ys true c) 0 ≤ d.getD (rlX v ys true c) 0 + 1))
      case atStart => exact ⟨D0, true, rfl, Lib.hid rfl, HRL0, HDW0, Lib.hid (fun h => by cases h)⟩
      case round =>
        clear HRL0 HDW0
        obtain ⟨d, b, rfl, HK0, HRL, HDW, HST⟩ := hrel
        cases b with
        | false =>
          have HEND : Hid (IsD v t (rlE v m ys rs true) d) := Lib.hid (HRL.out.done (fun p q hp hq ⟨c, h1, h2, h3, h4⟩ => by have := HST.out rfl c h1 h4; rwa [h2, h3] at this))
          go_wp2_with fail
          go_ret
          refine ⟨g, _, d, rfl, ?_, HEND.out, HDW.out.kp, ⟨_, HDW.out.dd⟩, HDW.out.lo⟩
          exact Rd.dw HDW.out
        | true =>
          go_upto_region 13 with (fail)
          go_loopw [9, 10] (fun mo ux wr => ∃ (u : Nat) (d' : List Nat) (b : Bool), mo = .bool b ∧ ux = .int .i64 u ∧ u ≤ v ∧ Hid (RL v t (rlE v m ys rs true) d') ∧ Hid (DW w cb g #[.int .i64 v, .int .i64 S, .int .i64 T, .slice (some ⟨b3, o3, none⟩) (v + 1) c3, .slice a4 m c4, .slice a5 m c5, .slice a6 m c6, .slice a7 m c7, .slice a8 m c8] 29 d' rest wr) ∧ Hid (PG v ys rs true d d' b (fst ys u))) (fun _ ux _ => v - (intOf ux).toNat)
          case atStart => exact ⟨0, d, false, rfl, rfl, by omega, HRL, HDW, Lib.hid (by rw [fst_zero]; exact PG.start v ys rs true d)⟩
          case round =>
            clear HRL HDW HST
            obtain ⟨u, d1, b, rfl, rfl, hun, HRL, HDW, HPG⟩ := hrel
            have bx := HDW.out.box.cell
            by_cases hu : u < v
            · have hfm : fst ys u ≤ fst ys (u + 1) ∧ fst ys (u + 1) ≤ m := ⟨fst_mono ys (by omega), by have := HFM.out; have := fst_mono ys (show u + 1 ≤ v by omega); omega⟩
              obtain ⟨fc0, -⟩ := HF1.out u hu wr HDW.out.kp
              have HF2 := Lib.hid (HF1.out u hu)
              obtain ⟨q, hq⟩ : ∃ q, fst ys u = q := ⟨_, rfl⟩
              obtain ⟨q', hq'⟩ : ∃ q', fst ys (u + 1) = q' := ⟨_, rfl⟩
              rw [hq] at fc0 HPG
              rw [hq, hq'] at hfm HF2
              have HQ : Hid (fst ys u = q ∧ fst ys (u + 1) = q') := Lib.hid ⟨hq, hq'⟩
              clear hq hq'
              have hu16 : u ≤ 1000 := by omega
              have hv0 := wrap_upD u hu16
              have hv1 := wrap_upD' u hu16
              have i4 : (0 : Int) ≤ (u : Int) := by omega
              have i5 : (u : Int) < (v : Int) + 1 := by omega
              have i6 : ((u + 1 : Nat) : Int) < (v : Int) + 1 := by omega
              have i7 : (0 : Int) ≤ ((u + 1 : Nat) : Int) := by omega
              have i8 : (u : Int) < (v : Int) := by omega
              go_upto_region 16 with (fail)
              clear bx fc0
              go_loopw [9, 11] (fun mo ax wr => ∃ (a : Nat) (d' : List Nat) (b : Bool), mo = .bool b ∧ ax = .int .i64 a ∧ q ≤ a ∧ a ≤ q' ∧ Hid (RL v t (rlE v m ys rs true) d') ∧ Hid (DW w cb g #[.int .i64 v, .int .i64 S, .int .i64 T, .slice (some ⟨b3, o3, none⟩) (v + 1) c3, .slice a4 m c4, .slice a5 m c5, .slice a6 m c6, .slice a7 m c7, .slice a8 m c8] 29 d' rest wr) ∧ Hid (PG v ys rs true d d' b a)) (fun _ ax _ => q' - (intOf ax).toNat)
              case atStart => exact ⟨q, d1, b, rfl, rfl, by omega, hfm.1, HRL, HDW, HPG⟩
              case round =>
                clear HRL HDW HPG
                obtain ⟨a, d2, b, rfl, rfl, ha0, ha1, HRL, HDW, HPG⟩ := hrel
                have bx := HDW.out.box.cell
                obtain ⟨-, fc1⟩ := HF2.out wr HDW.out.kp
                by_cases hlt : a < q'
                · have ham : a < m := by omega
                  have j0 : (a : Int) < (q' : Int) := by omega
                  have j1 : (0 : Int) ≤ (a : Int) := by omega
                  have j2 : (a : Int) < (m : Int) := by omega
                  have ha16 : (a : Int) ≤ 1000 := by omega
                  obtain ⟨x, hx⟩ : ∃ x, hd v ys a = x := ⟨_, rfl⟩
                  have hxn : x < v := by rw [← hx]; exact (hd_get HG.out a ham).2
                  have htl : tl ys v a = u := tl_of ys a u (by rw [HQ.out.1]; exact ha0) (by rw [HQ.out.2]; exact hlt) v hu
                  have HXY : Hid (rlX v ys true a = x ∧ rlY v ys true a = u) := Lib.hid (by unfold rlX rlY; simp [htl, hx])
                  obtain ⟨b4, o4, rfl, hc4⟩ := (HCR.out.kept HDW.out.kp).r4.at a (by rw [show (hv (enAll v ys)).length = (enAll v ys).length by simp [hv], HG.out.hm]; exact ham)
                  rw [(hd_get HG.out a ham).1, hx] at hc4
                  have HC4 : Hid (∀ w', Kept w w' → w'.cell? ⟨b4, o4 + a, none⟩ = some (.int .i64 (x : Nat))) := Lib.hid (fun w' k' => by
                    obtain ⟨b4', o4', e, h⟩ := (HCR.out.kept k').r4.at a (by rw [show (hv (enAll v ys)).length = (enAll v ys).length by simp [hv], HG.out.hm]; exact ham)
                    cases e
                    rwa [(hd_get HG.out a ham).1, hx] at h)
                  obtain ⟨b6, o6, rfl, rc0⟩ := (HRR.out.kept HDW.out.kp).num (i := a) (by rw [HRM.out]; exact ham)
                  obtain ⟨r, hr⟩ : ∃ r, rs.getD a 0 = r := ⟨_, rfl⟩
                  rw [hr] at rc0
                  have HR := Lib.hid hr
                  have hdl := HRL.out.len
                  have dcx := HDW.out.at x (by rw [hdl]; exact hxn)
                  have dcu := HDW.out.at u (by rw [hdl]; exact hu)
                  obtain ⟨dx, hdx⟩ : ∃ y, d2.getD x 0 = y := ⟨_, rfl⟩
                  obtain ⟨du, hdu⟩ : ∃ y, d2.getD u 0 = y := ⟨_, rfl⟩
                  rw [hdx] at dcx
                  rw [hdu] at dcu
                  have hdn : dx ≤ 1000 := by rw [← hdx]; exact Nat.le_trans (HRL.out.le x (by assumption)) (by omega)
                  have HDX := Lib.hid (And.intro hdx (And.intro hdu hdl))
                  have hwu := wrap_upD dx hdn
                  have hwu' := wrap_upD' dx hdn
                  have b0 : (0 : Int) ≤ (x : Int) := by omega
                  have b1 : (x : Int) < (v : Int) := by omega
                  clear hx htl hr hdx hdu hdl
                  by_cases hr0 : 0 < r
                  · have z1 : decide (0 < r) = true := by simpa using hr0
                    by_cases hlw : dx + 1 < du
                    · have cc1 : decide (((dx + 1 : Nat) : Int) < (du : Int)) = true := (lt_casts _ _ hlw).1
                      have cc2 : decide ((dx : Int) + 1 < (du : Int)) = true := (lt_casts _ _ hlw).2
                      have cc3 : decide (dx + 1 < du) = true := by simpa using hlw
                      have HLO2 := Lib.hid (HRL.out.lower (x := x) (y := u) (by assumption) (by assumption) (show rlE v m ys rs true x u from ⟨a, ham, HXY.out.1, HXY.out.2, by rw [HR.out]; exact hr0⟩) (by rw [HDX.out.1, HDX.out.2.1]; exact hlw))
                      rw [show d2.getD x 0 = dx from HDX.out.1] at HLO2
                      have HPG2 : Hid (PG v ys rs true d (d2.set u (dx + 1)) true (a + 1)) := Lib.hid (HPG.out.put HLO2.out.2)
                      have HRL2 := Lib.hid HLO2.out.1
                      clear HLO2
                      go_upto_region 18 with (fail)
                      refine wp_region_kept (by kernel_rfl) (by kernel_rfl) ?_
                      repeat (go_big_quiet_step (fail))
                      refine wpQuiet_nil ?_
                      intro w1 hk1
                      have HDW1 := Lib.hid (HDW.out.kept hk1)
                      clear hk1 bx dcx dcu hc4 fc1 rc0
                      have dcx := HDW1.out.at x (by rw [HDX.out.2.2]; exact hxn)
                      have dcu := HDW1.out.at u (by rw [HDX.out.2.2]; exact hu)
                      rw [HDX.out.1] at dcx
                      rw [HDX.out.2.1] at dcu
                      have hc4 := HC4.out w1 HDW1.out.kp
                      have HDW2 : Hid (DW w cb g #[.int .i64 v, .int .i64 S, .int .i64 T, .slice (some ⟨b3, o3, none⟩) (v + 1) c3, .slice (some ⟨b4, o4, none⟩) m c4, .slice a5 m c5, .slice a6 m c6, .slice a7 m c7, .slice a8 m c8] 29 (d2.set u (dx + 1)) rest (w1.setCell ⟨g, u, none⟩ (.int .i64 ((dx : Int) + 1)))) := Lib.hid (HDW1.out.set u (dx + 1) (by rw [HDX.out.2.2]; assumption))
                      clear HDW
                      have bx1 := HDW1.out.box.cell
                      have sf := HDW1.out.dd.free u
                      go_upto_region 20 with (fail)
                      generalize (w1.setCell ⟨g, u, none⟩ (.int .i64 ((dx : Int) + 1))) = w4 at HDW2 ⊢
                      clear dcx dcu hc4 sf bx1
                      go_wp2_with fail
                      go_roundw
                      case rel => exact ⟨a + 1, _, true, rfl, by go_num, by omega, by omega, HRL2, HDW2, HPG2⟩
                      case measure => simp [intOf]; omega
                    · have cc1 : decide (((dx + 1 : Nat) : Int) < (du : Int)) = false := (nlt_casts _ _ hlw).1
                      have cc2 : decide ((dx : Int) + 1 < (du : Int)) = false := (nlt_casts _ _ hlw).2
                      have cc3 : decide (dx + 1 < du) = false := by simpa using hlw
                      have HPG2 : Hid (PG v ys rs true d d2 b (a + 1)) := Lib.hid (HPG.out.pass (fun _ => by rw [HXY.out.1, HXY.out.2, HDX.out.1, HDX.out.2.1]; exact Nat.le_of_not_lt hlw))
                      go_upto_region 18 with (fail)
                      refine wp_region_kept (by kernel_rfl) (by kernel_rfl) ?_
                      repeat (go_big_quiet_step (fail))
                      refine wpQuiet_nil ?_
                      intro w1 hk1
                      have HDW1 := Lib.hid (HDW.out.kept hk1)
                      clear hk1 bx dcx dcu hc4 fc1 rc0 HDW
                      go_wp2_with fail
                      go_roundw
                      case rel => exact ⟨a + 1, d2, b, rfl, by go_num, by omega, by omega, HRL, HDW1, HPG2⟩
                      case measure => simp [intOf]; omega
                  · have z1 : decide (0 < r) = false := by simpa using hr0
                    have HPG2 : Hid (PG v ys rs true d d2 b (a + 1)) := Lib.hid (HPG.out.pass (fun h => absurd h (by rw [HR.out]; exact hr0)))
                    go_upto_region 18 with (fail)
                    refine wp_region_kept (by kernel_rfl) (by kernel_rfl) ?_
                    repeat (go_big_quiet_step (fail))
                    refine wpQuiet_nil ?_
                    intro w1 hk1
                    have HDW1 := Lib.hid (HDW.out.kept hk1)
                    clear hk1 bx dcx dcu hc4 fc1 rc0 HDW
                    go_wp2_with fail
                    go_roundw
                    case rel => exact ⟨a + 1, d2, b, rfl, by go_num, by omega, by omega, HRL, HDW1, HPG2⟩
                    case measure => simp [intOf]; omega
                · have j0 : ¬ (a : Int) < (q' : Int) := by omega
                  have HPG2 : Hid (PG v ys rs true d d2 b (fst ys (u + 1))) := Lib.hid (by rw [HQ.out.2, show q' = a by omega]; exact HPG.out)
                  have hu1 : (u : Int) ≤ 1000 := by omega
                  clear HPG hv0 hv1
                  go_wp2_with fail
                  go_roundw
                  case rel => exact ⟨u + 1, d2, b, rfl, by go_num, by omega, HRL, HDW, HPG2⟩
                  case measure => simp [intOf]; omega
            · have j0 : ¬ (u : Int) < (v : Int) := by omega
              have HSTA : Hid (b = false → ∀ c, c < m → 0 < rs.getD c 0 → d1.getD (rlY v ys true c) 0 ≤ d1.getD (rlX v ys true c) 0 + 1) := Lib.hid (fun hb c hc => (HPG.out.f hb).2 c (by rw [show u = v by omega, HFM.out]; exact hc))
              have HMS : Hid (2 * d1.sum + b.toNat < gk) := Lib.hid (by
                have h0 := HK0.out
                have h1 := HPG.out
                cases b with
                | true => have := h1.t rfl; simp at h0 ⊢; omega
                | false => rw [(h1.f rfl).1]; simp at h0 ⊢; omega)
              clear HPG
              go_wp2_with fail
              go_roundg (2 * d1.sum + b.toNat)
              case rel => exact ⟨d1, b, rfl, Lib.hid rfl, HRL, HDW, HSTA⟩
              case measure => exact HMS.out
theorem refTo_ok (N S T : Int) (n m : Nat) (a3 a4 a5 a6 a7 a8 : Option Addr) (c3 c4 c5 c6 c7 c8 : Nat) (ys : List Ar) (ra : Option Addr) (rc : Nat) (rs : List Int) (t : Nat) (w : World) (hg : Gr N S T n m ys) (hcr : CsrR w n ys a3 a4 a5 a6 a7 a8) (hr : Rd w ra (lv rs)) (hm : rs.length = m) (ht : t < n) :
    Calls Try.prog 56 #[.agg #[.int .i64 N, .int .i64 S, .int .i64 T, .slice a3 (n + 1) c3, .slice a4 m c4, .slice a5 m c5, .slice a6 m c6, .slice a7 m c7, .slice a8 m c8], .slice ra m rc, .int .i64 t] w fun e w' => ∃ (db c : Nat) (d : List Nat), e = .returned (.slice (some ⟨db, 0, none⟩) n c) ∧ Rd w' (some ⟨db, 0, none⟩) (nv d) ∧ IsD n t (fun u x => OpenA n m ys rs x u) d ∧ Kept w w' :=
  (refTo0_ok N S T n m a3 a4 a5 a6 a7 a8 c3 c4 c5 c6 c7 c8 ys ra rc rs t w hg hcr hr hm ht).mono fun e w' ⟨db, c, d, h1, h2, h3, h4, _⟩ => ⟨db, c, d, h1, h2, h3.congr (fun u x _ _ => rlE_true n m ys rs u x), h4⟩
end Go.Proofs.Yticeionjlknlcaa
/- Valid heights, and how far T is. Plain. -/
namespace Go.Proofs.Yticeionjlknlcaa
set_option linter.unusedVariables false
set_option linter.unusedSimpArgs false
open Go.RowKit

/-- With S's arcs closed. -/
def Shut (n m : Nat) (ys : List Ar) (s : Nat) (rs ro : List Int) : Prop := ro.length = m ∧ ∀ i, i < m → ro.getD i 0 = if tl ys n i = s then 0 else rs.getD i 0
def natI (d : List Nat) : List Int := d.map fun (x : Nat) => (x : Int)
theorem natI_get (d : List Nat) (v : Nat) : (natI d).getD v 0 = (d.getD v 0 : Nat) := by
  simp only [natI, List.getD_eq_getElem?_getD, List.getElem?_map]
  cases d[v]? <;> rfl
theorem lv_natI (d : List Nat) : lv (natI d) = nv d := by simp [lv, natI, nv]
theorem shut_s {n m : Nat} {ys : List Ar} {s : Nat} {rs ro : List Int} (h : Shut n m ys s rs ro) {t : Nat} (hst : s ≠ t) {d : List Nat} (hsn : s < n) (hd : IsD n t (fun u x => OpenA n m ys ro x u) d) : d.getD s 0 = n := by
  have h1 := hd.le s hsn
  rcases Nat.lt_or_ge (d.getD s 0) n with h2 | h2
  · obtain ⟨u, hu, ⟨a, ha, e1, e2, e3⟩, -⟩ := hd.par s hsn hst h2
    rw [h.2 a ha, if_pos e1] at e3
    omega
  · omega
theorem valid_dist {n m s t : Nat} {ys : List Ar} {rs ro hs : List Int} (hg : Gr n s t n m ys) (hm : rs.length = m) (h : Shut n m ys s rs ro) {d : List Nat} (hd : IsD n t (fun u x => OpenA n m ys ro x u) d)
    (hv : validB n s t n m ys rs hs = true) : ∀ k v, v < n → v ≠ s → d.getD v 0 = k → hs.getD v 0 ≤ (d.getD v 0 : Nat) := by
  have hl := hg.len
  have hr : rightB n s t hs = true := by
    unfold validB mayB at hv
    simp only [Bool.and_eq_true] at hv
    exact hv.1.2
  have hvv := (validB_iff hm hr).1 hv
  obtain ⟨r1, r2, r3, r4⟩ := right_parts.1 hr
  intro k
  induction k using Nat.strongRecOn with
  | _ k ih =>
    intro v hv hne hk
    by_cases h2 : v = t
    · subst h2
      rw [hd.src]
      simp at r3 ⊢
      omega
    · rcases Nat.lt_or_ge (d.getD v 0) n with h1 | h1
      · obtain ⟨u, hu, ⟨a, ha, e1, e2, e3⟩, e4⟩ := hd.par v hv h2 h1
        rw [h.2 a ha] at e3
        split at e3
        · omega
        · rename_i e5
          have h6 := hvv a ha
          have hus : u ≠ s := fun e => by
            subst e
            have := shut_s h (by omega) hu hd
            omega
          have h7 := ih (d.getD u 0) (by omega) u hu hus rfl
          simp only [dnQ, byOf, isP, if_true, e1, e2] at h6
          rw [decide_eq_true (show (v : Int) ≠ s by omega), decide_eq_true e3, Bool.true_and, Bool.true_and] at h6
          have := of_decide_eq_false h6
          omega
      · obtain ⟨-, -, h8⟩ := rightB_in hr v (by omega)
        omega
theorem dist_valid {n m s t : Nat} {ys : List Ar} {rs ro : List Int} (hg : Gr n s t n m ys) (hm : rs.length = m) (h : Shut n m ys s rs ro) {d : List Nat} (hd : IsD n t (fun u x => OpenA n m ys ro x u) d) :
    rightB n s t (natI (d.set s n)) = true ∧ dnL n s t n m ys rs (natI (d.set s n)) (isP true) = [] ∧ validB n s t n m ys rs (natI (d.set s n)) = true := by
  have hl := hg.len
  have hdl := hd.len
  have hst : s ≠ t := by omega
  have hsn : s < n := by omega
  have htn : t < n := by omega
  have g : ∀ v, (natI (d.set s n)).getD v 0 = if s = v then (n : Int) else (d.getD v 0 : Nat) := fun v => by
    rw [natI_get, getDn_set (by omega)]
    split <;> rfl
  have hs0 := shut_s h hst hsn hd
  have hR : rightB n s t (natI (d.set s n)) = true := by
    refine right_parts.2 ⟨by simp [natI, hdl], fun x hx => ?_, ?_, ?_⟩
    · obtain ⟨y, hy, rfl⟩ := List.mem_map.1 hx
      rcases List.mem_or_eq_of_mem_set hy with e | e
      · obtain ⟨i, hi, e⟩ := List.getElem_of_mem e
        have := hd.le i (by omega)
        rw [show d.getD i 0 = y by simp [hi, e]] at this
        omega
      · omega
    · rw [show ((t : Int).toNat) = t from rfl, g, if_neg hst, hd.src]; rfl
    · rw [show ((s : Int).toNat) = s from rfl, g, if_pos rfl]
  have hV : ∀ a, a < m → dnQ s n ys rs (natI (d.set s n)) (isP true) a = false := by
    intro a ha
    cases hb : dnQ s n ys rs (natI (d.set s n)) (isP true) a with
    | false => rfl
    | true =>
      exfalso
      simp only [dnQ, byOf, isP, if_true, Bool.and_eq_true, decide_eq_true_eq, g] at hb
      obtain ⟨⟨q1, q2⟩, q3⟩ := hb
      have ht : tl ys n a < n := (tl_at ys a n (by have := hg.hm; unfold fst; omega)).1
      have hh := (hd_get hg a ha).2
      have q1' : tl ys n a ≠ s := by omega
      rw [if_neg (by omega)] at q3
      have hle := hd.le _ ht
      by_cases e : s = Go.Proofs.Yticeionjlknlcaa.hd n ys a
      · rw [if_pos e] at q3
        omega
      · rw [if_neg e] at q3
        have := hd.step _ _ hh ht ⟨a, ha, rfl, rfl, by rw [h.2 a ha, if_neg q1']; exact q2⟩
        omega
  have hV2 := (validB_iff hm hR).2 hV
  refine ⟨hR, ?_, hV2⟩
  unfold validB at hV2
  simp only [Bool.and_eq_true, decide_eq_true_eq] at hV2
  have := hV2.2
  simpa using this
end Go.Proofs.Yticeionjlknlcaa
/- acequiaref20.Exact where the numbers fit (printed by gen_refexact.py). -/
namespace Go.Proofs.Yticeionjlknlcaa
set_option linter.unusedVariables false
set_option linter.unusedSimpArgs false
open Go.RowKit
attribute [local go_sem] cell?_ext

theorem infoI64 : (Try.prog.info? 2).map (fun i => (i.zero, i.size, i.bytes)) = some (some (.int .i64 0), 1, 8) := by kernel_rfl
/-- So far with S shut, and n at S: the highest valid ones. -/
theorem isLow_dist {n m s t : Nat} {ys : List Ar} {rs ro : List Int} (hg : Gr n s t n m ys) (hm : rs.length = m) (h : Shut n m ys s rs ro) {d : List Nat} (hd : IsD n t (fun u x => OpenA n m ys ro x u) d) :
    IsLow (s : Int) n m ys rs (allN n n t) (natI (d.set s n)) := by
  have hl := hg.len
  have hdl := hd.len
  have hst : s ≠ t := by omega
  have hsn : s < n := by omega
  have htn : t < n := by omega
  have g : ∀ v, (natI (d.set s n)).getD v 0 = if s = v then (n : Int) else (d.getD v 0 : Nat) := fun v => by
    rw [natI_get, getDn_set (by omega)]
    split <;> rfl
  obtain ⟨hR, -, hV⟩ := dist_valid hg hm h hd
  have hs0 := shut_s h hst hsn hd
  refine ⟨by simp [natI, hdl], (valid_vld hm hR).1 hV, fun v hv => ?_, fun gs hvl hle => ?_⟩
  · rw [g, allN_get _ _ _ _ hv (by simpa using htn)]
    have := hd.le v hv
    by_cases e : v = t
    · subst e
      rw [if_neg hst, if_pos (by simp), hd.src]
      simp
    · rw [if_neg (show ¬ v = (t : Int).toNat by simpa using e)]
      split <;> omega
  · have hle2 : ∀ v, v < n → gs.getD v 0 ≤ if v = t then 0 else (n : Int) := fun v hv => by
      have := hle v hv
      rwa [allN_get _ _ _ _ hv (by simpa using htn), show ((t : Int).toNat) = t from rfl] at this
    have key : ∀ k v, v < n → v ≠ s → d.getD v 0 = k → gs.getD v 0 ≤ (d.getD v 0 : Nat) := by
      intro k
      induction k using Nat.strongRecOn with
      | _ k ih =>
        intro v hv hne hk
        have h0 := hle2 v hv
        by_cases h2 : v = t
        · subst h2
          rw [if_pos rfl] at h0
          omega
        · rw [if_neg h2] at h0
          rcases Nat.lt_or_ge (d.getD v 0) n with h1 | h1
          · obtain ⟨u, hu, ⟨a, ha, e1, e2, e3⟩, e4⟩ := hd.par v hv h2 h1
            rw [h.2 a ha] at e3
            split at e3
            · omega
            · rename_i e5
              have hus : u ≠ s := fun e => by
                subst e
                omega
              have h7 := ih (d.getD u 0) (by omega) u hu hus rfl
              have h8 := hvl a ha (by omega) e3
              rw [e1, e2] at h8
              omega
          · omega
    intro v hv
    rw [g]
    by_cases e : s = v
    · rw [if_pos e]
      have := hle2 v hv
      split at this <;> omega
    · rw [if_neg e]
      exact key _ v hv (fun h => e h.symm) rfl
/-- What acequiaref20.Exact hands back. -/
def RefExEnd (w : World) (N S T : Int) (n m : Nat) (ys : List Ar) (rs : List Int) (e : Ending) (w' : World) : Prop :=
  ∃ g c X, e = .returned (.slice (some ⟨g, 0, none⟩) n c) ∧ IsLow S n m ys rs (allN n N T) X ∧ Rd w' (some ⟨g, 0, none⟩) (lv X) ∧ w.heap.size ≤ g ∧ Kept w w'
set_option maxRecDepth 100000 in
set_option maxHeartbeats 4000000 in
theorem refExact_ok (N S T : Int) (n m : Nat) (a3 a4 a5 a6 a7 a8 : Option Addr) (c3 c4 c5 c6 c7 c8 : Nat) (ys : List Ar) (ra : Option Addr) (rc : Nat) (rs : List Int) (wk : Nat) (w : World) (hg : Gr N S T n m ys) (hrm : rs.length = m) (hcr : CsrR w n ys a3 a4 a5 a6 a7 a8) (hr : Rd w ra (lv rs)) (hwk1 : 1 ≤ wk) (hwk2 : wk ≤ 64) (hso : SomeOr ra m rc) :
    Calls Try.prog 31 #[.agg #[.int .i64 N, .int .i64 S, .int .i64 T, .slice a3 (n + 1) c3, .slice a4 m c4, .slice a5 m c5, .slice a6 m c6, .slice a7 m c7, .slice a8 m c8], .slice ra m rc, .int .i64 (wk : Int)] w (RefExEnd w N S T n m ys rs) := by
  obtain ⟨hnN, -, hn16, hm6, hS0, hS1, hT0, hT1, hST⟩ := hg.len
  obtain ⟨s, rfl⟩ : ∃ s : Nat, S = (s : Int) := ⟨S.toNat, by omega⟩
  obtain ⟨t, rfl⟩ : ∃ t : Nat, T = (t : Int) := ⟨T.toNat, by omega⟩
  subst hnN
  have hsn : s < n := by omega
  have htn : t < n := by omega
  have hn2 : 2 ≤ n := by have := hg.len; omega
  clear hS0 hS1 hT0 hT1
  have hmm : ((m : Int) != (m : Int)) = false := by simp
  have hN0 : ((n : Int) == 0) = false := by simp; omega
  have hk1 : decide ((wk : Int) < 1) = false := decide_eq_false (by omega)
  have hk2 : decide ((64 : Int) < (wk : Int)) = false := decide_eq_false (by omega)
  have HG := Lib.hid hg
  have HRM := Lib.hid hrm
  have HSO := Lib.hid hso
  have hA := (Upd.refl (fun _ => False) w).alloc (.cells #[.int .i64 n, .int .i64 s, .int .i64 t, .slice a3 (n + 1) c3, .slice a4 m c4, .slice a5 m c5, .slice a6 m c6, .slice a7 m c7, .slice a8 m c8] 29)
  have HK0 : Hid (Kept w (w.alloc (.cells #[.int .i64 n, .int .i64 s, .int .i64 t, .slice a3 (n + 1) c3, .slice a4 m c4, .slice a5 m c5, .slice a6 m c6, .slice a7 m c7, .slice a8 m c8] 29))) := Lib.hid hA
  have HGF : Hid (GF (n : Int) (s : Int) (t : Int) n m a3 a4 a5 a6 a7 a8 c3 c4 c5 c6 c7 c8 ys w.heap.size ra rs (w.alloc (.cells #[.int .i64 n, .int .i64 s, .int .i64 t, .slice a3 (n + 1) c3, .slice a4 m c4, .slice a5 m c5, .slice a6 m c6, .slice a7 m c7, .slice a8 m c8] 29))) := Lib.hid ⟨Blk.new w _ _, hcr.kept hA, hr.kept hA⟩
  clear hg hrm hcr hr hso hA
  go_enter Try.func31, Try.ntmps31
  go_upto_region 1 with (fail)
  generalize (w.alloc (.cells #[.int .i64 n, .int .i64 s, .int .i64 t, .slice a3 (n + 1) c3, .slice a4 m c4, .slice a5 m c5, .slice a6 m c6, .slice a7 m c7, .slice a8 m c8] 29)) = wB at HK0 HGF ⊢
  have HCBL : Hid (w.heap.size < wB.heap.size) := Lib.hid HGF.out.box.lt
  generalize hcb : w.heap.size = cb at HGF ⊢
  have HCB : Hid (w.heap.size = cb) := Lib.hid hcb
  clear hcb
  have bx := HGF.out.box.cell
  obtain ⟨i0, hi0, hz0, hz1, hz2⟩ := info_parts infoI64
  have hrs := HGF.out.rs
  have hrl := HRM.out
  have hml : m ≤ 2000000 := by omega
  have hso := HSO.out
  have h1c : ∀ u ∈ lv rs, u.oneCell' = true := by
    intro u hu
    obtain ⟨x, -, rfl⟩ := List.mem_map.1 hu
    rfl
  go_upto_region 4 with (first | (at_builtin; refine wpList_copied rfl _ _ 25 rfl 2 i0 (.int .i64 0) 8 Try.underlying25 hi0 hz0 hz1 hz2 rfl (by decide) ra m rc (lv rs) rfl rfl hrs (by rw [lv_len]; exact hrl) hso h1c hml ?_; intro oa oc W2 hown hk2; clear hi0 hz0 hz1 hz2 hrs hso h1c) | fail)
  have HW := Lib.hid hown
  have HK2 : Hid (Kept wB W2) := Lib.hid hk2
  have HF : Hid (∀ w', Kept wB w' → ∃ b3 o3, a3 = some ⟨b3, o3, none⟩ ∧ w'.cell? ⟨b3, o3 + s, none⟩ = some (.int .i64 (fst ys s : Nat)) ∧ w'.cell? ⟨b3, o3 + (s + 1), none⟩ = some (.int .i64 (fst ys (s + 1) : Nat))) := Lib.hid (fun w' k => by
    obtain ⟨b, o, e, h1⟩ := (HGF.out.kept k).cr.r3.at s (by rw [nv_len, firsts_len]; omega)
    obtain ⟨b', o', e', h2⟩ := (HGF.out.kept k).cr.r3.at (s + 1) (by rw [nv_len, firsts_len]; omega)
    rw [e] at e'
    cases e'
    rw [firsts_get n ys _ (by omega)] at h1 h2
    exact ⟨b, o, e, h1, h2⟩)
  obtain ⟨b3, o3, e3, -⟩ := HF.out wB (Upd.refl _ _)
  subst e3
  have HF1 : Hid (∀ w', Kept wB w' → w'.cell? ⟨b3, o3 + s, none⟩ = some (.int .i64 (fst ys s : Nat)) ∧ w'.cell? ⟨b3, o3 + (s + 1), none⟩ = some (.int .i64 (fst ys (s + 1) : Nat))) := Lib.hid (fun w' k => by
    obtain ⟨b, o, e, h1, h2⟩ := HF.out w' k
    cases e
    exact ⟨h1, h2⟩)
  clear HF hown hk2 hk1 hmm hN0
  have hfm : fst ys s ≤ fst ys (s + 1) ∧ fst ys (s + 1) ≤ m := ⟨fst_mono ys (by omega), by have := HG.out.hm; have := fst_mono ys (show s + 1 ≤ n by omega); unfold fst at *; omega⟩
  have HTL : Hid (∀ i, i < m → (tl ys n i = s ↔ fst ys s ≤ i ∧ i < fst ys (s + 1))) := Lib.hid (fun i hi => by
    obtain ⟨t1, t2, t3⟩ := tl_at ys i n (by have := HG.out.hm; unfold fst; omega)
    constructor
    · intro e
      rw [e] at t2 t3
      exact ⟨t2, t3⟩
    · rintro ⟨e1, e2⟩
      exact tl_of ys i s e1 e2 n hsn)
  obtain ⟨q, hq⟩ : ∃ q, fst ys s = q := ⟨_, rfl⟩
  obtain ⟨q', hq'⟩ : ∃ q', fst ys (s + 1) = q' := ⟨_, rfl⟩
  rw [hq, hq'] at HF1 hfm HTL
  clear hq hq'
  have bx := (HGF.out.kept HK2.out).box.cell
  have fc0 := (HF1.out _ HK2.out).1
  have hs16 : s ≤ 1000 := Nat.le_trans (Nat.le_of_lt hsn) (Nat.le_trans hn16 (by decide))
  have hw0 := wrap_upD s hs16
  have hw1 := wrap_upD' s hs16
  have i6 : ((s + 1 : Nat) : Int) < ((n : Int) + 1) := by omega
  have i7 : (0 : Int) ≤ ((s + 1 : Nat) : Int) := by omega
  have i8 : (0 : Int) ≤ (s : Int) := by omega
  have i9 : (s : Int) < ((n : Int) + 1) := by omega
  go_upto_region 5 with (fail)
  go_loopw [8] (fun ax wr => ∃ (a : Nat) (ro : List Int), ax = .int .i64 a ∧ q ≤ a ∧ a ≤ q' ∧ Hid (Kept wB wr) ∧ Hid (wr.ownsRow wB.heap.size 2 1 (.slice oa m oc) m (lv ro)) ∧ Hid (ro.length = m ∧ ∀ i, i < m → ro.getD i 0 = if q ≤ i ∧ i < a then 0 else rs.getD i 0)) (fun ax _ => q' - (intOf ax).toNat)
  case atStart => exact ⟨q, rs, rfl, by omega, by omega, HK2, HW, Lib.hid ⟨HRM.out, fun i hi => by rw [if_neg (by omega)]⟩⟩
  case round =>
    clear HW HK2 bx fc0
    obtain ⟨a, ro, rfl, ha0, ha1, HK2, HW, HO⟩ := hrel
    have bx := (HGF.out.kept HK2.out).box.cell
    obtain ⟨fc0, fc1⟩ := HF1.out _ HK2.out
    by_cases hlt : a < q'
    · have ham : a < m := by omega
      obtain ⟨og, hog⟩ : ∃ g, oa = some ⟨g, 0, none⟩ := by
        rcases HW.out.2 with ⟨h1, h2⟩ | ⟨g, cap, cur, h1, -⟩
        · cases h1; omega
        · cases h1; exact ⟨g, rfl⟩
      subst hog
      have oc0 := HW.out.cellAt a (by omega)
      rw [show (lv ro)[a]? = some (.int .i64 (ro.getD a 0)) from lv_get (by rw [HO.out.1]; exact ham)] at oc0
      generalize ro.getD a 0 = y0 at oc0
      have of0 := HW.out.frozenAt a
      have j0 : (a : Int) < (q' : Int) := by omega
      have j1 : (0 : Int) ≤ (a : Int) := by omega
      have j2 : (a : Int) < (m : Int) := by omega
      have ha2 : (a : Int) ≤ 1000 := by omega
      obtain ⟨hst1, hst2⟩ := HW.out.stored a (.int .i64 0)
      have HW2 : Hid ((wr.setCell ⟨og, a, none⟩ (.int .i64 0)).ownsRow wB.heap.size 2 1 (.slice (some ⟨og, 0, none⟩) m oc) m (lv (ro.set a 0))) := Lib.hid (by
        rwa [show lv (ro.set a 0) = (lv ro).set a (.int .i64 0) by simp [lv, List.map_set]])
      have HK3 : Hid (Kept wB (wr.setCell ⟨og, a, none⟩ (.int .i64 0))) := Lib.hid (Kept.set HK2.out (World.ownsRow.lt HW.out og rfl).1 _)
      have HO2 : Hid ((ro.set a 0).length = m ∧ ∀ i, i < m → (ro.set a 0).getD i 0 = if q ≤ i ∧ i < a + 1 then 0 else rs.getD i 0) := Lib.hid ⟨by rw [List.length_set]; exact HO.out.1, fun i hi => by
        have hlo := HO.out.1
        have h1 := HO.out.2 i hi
        rw [List.getD_eq_getElem?_getD, List.getElem?_set]
        by_cases e : a = i
        · subst e
          rw [if_pos rfl, if_pos (by omega), if_pos (by omega)]
          rfl
        · rw [if_neg e, ← List.getD_eq_getElem?_getD, h1]
          by_cases e2 : q ≤ i ∧ i < a
          · rw [if_pos e2, if_pos (by omega)]
          · rw [if_neg e2, if_neg (by omega)]⟩
      clear hst1 hst2 HK2 HW HO
      go_wp2_with fail
      go_roundw
      case rel => exact ⟨a + 1, ro.set a 0, by go_num, by omega, by omega, HK3, HW2, HO2⟩
      case measure => simp [intOf]; omega
    · have j0 : ¬ (a : Int) < (q' : Int) := by omega
      have haq : a = q' := by omega
      have HS : Hid (Shut n m ys s rs ro) := Lib.hid ⟨HO.out.1, fun i hi => by
        rw [HO.out.2 i hi, haq]
        by_cases e : tl ys n i = s
        · rw [if_pos e, if_pos ((HTL.out i hi).1 e)]
        · rw [if_neg e, if_neg (fun h => e ((HTL.out i hi).2 h))]⟩
      clear haq HTL
      obtain ⟨oa', oc', e9, hor⟩ := Rd.owns HW.out
      cases e9
      have HOR := Lib.hid hor
      clear hor fc0 HW HF1
      have HDT := Lib.hid (refTo0_ok (n : Int) (s : Int) (t : Int) n m (some ⟨b3, o3, none⟩) a4 a5 a6 a7 a8 c3 c4 c5 c6 c7 c8 ys oa oc ro t wr HG.out (HGF.out.kept HK2.out).cr HOR.out HS.out.1 htn)
      go_wp2_with fail
      refine HDT.out.mono ?_
      rintro e W3 ⟨db, c, d, rfl, -, hd2, hd3, ⟨rest, hd4⟩, hd5⟩
      have HX := Lib.hid (isLow_dist HG.out HRM.out HS.out (hd2.congr fun u x _ _ => rlE_true n m ys ro u x))
      have HDL : Hid (d.length = n) := Lib.hid hd2.len
      have HKB : Hid (Kept wB W3) := Lib.hid (HK2.out.trans hd3)
      have HDX : Hid (w.heap.size < db ∧ ¬ cb = db) := Lib.hid (by have h1 := HK2.out.size; have h2 := HCBL.out; have h3 := HCB.out; omega)
      have HB := Lib.hid hd4
      clear hd2 hd3 hd4 hd5 HDT HOR HS bx
      have bx := (HGF.out.kept HKB.out).box.cell
      have dc : W3.cell? ⟨db, s, none⟩ = some (.int .i64 (d.getD s 0 : Nat)) := by
        rw [HB.out.cell]
        simp only [List.getElem?_toArray]
        rw [List.getElem?_append_left (by rw [nv_len, HDL.out]; exact hsn), nv_get (by rw [HDL.out]; exact hsn)]
      generalize d.getD s 0 = ds at dc
      have df := HB.out.free s
      have i10 : (s : Int) < (n : Int) := by omega
      have HB2 : Hid (Blk (W3.setCell ⟨db, s, none⟩ (.int .i64 (n : Int))) db (nv (d.set s n) ++ rest).toArray 3) := Lib.hid (by
        have := HB.out.set s (.int .i64 (n : Int))
        rwa [show (nv (d.set s n) ++ rest).toArray = (nv d ++ rest).toArray.setIfInBounds s (.int .i64 (n : Int)) by
          have hkl : s < (nv d).length := by rw [nv_len, HDL.out]; exact hsn
          simp only [List.setIfInBounds_toArray, List.set_append_left s _ hkl]
          simp [nv, List.map_set]])
      have HK9 : Hid (Kept w (W3.setCell ⟨db, s, none⟩ (.int .i64 (n : Int)))) := Lib.hid (Kept.set (HK0.out.trans HKB.out) (p := ⟨db, s, none⟩) (by have := HDX.out; simp only; omega) _)
      clear HB
      go_wp2_with fail
      go_ret
      refine ⟨db, c, natI (d.set s n), rfl, HX.out, ?_, by have := HDX.out; omega, HK9.out⟩
      rw [lv_natI]
      refine .inr ⟨db, 0, rfl, fun i u hu => ?_⟩
      rw [Nat.zero_add, HB2.out.cell]
      simp only [List.getElem?_toArray]
      rw [List.getElem?_append_left (List.getElem?_eq_some_iff.1 hu).1, hu]
end Go.Proofs.Yticeionjlknlcaa
/- globals.Mark (printed by gen_mark20.py). -/
namespace Go.Proofs.Yticeionjlknlcaa
set_option linter.unusedVariables false
set_option linter.unusedSimpArgs false
open Go.RowKit
attribute [local go_sem] cell?_ext

theorem allN_right20 {N S T : Int} {n m : Nat} {ys : List Ar} (hg : Gr N S T n m ys) : rightB N S T (allN n N T) = true := by
  have hl := hg.len
  refine right_parts.2 ⟨by rw [allN_len]; omega, fun x hx => ?_, ?_, ?_⟩
  · obtain ⟨v, hv, rfl⟩ := List.mem_iff_getElem.1 hx
    rw [allN_len] at hv
    have e := allN_get n N T v hv (by omega)
    rw [show (allN n N T)[v] = (allN n N T).getD v 0 by simp [allN_len, hv], e]
    split <;> omega
  · rw [allN_get _ _ _ _ (by omega) (by omega), if_pos rfl]
  · rw [allN_get _ _ _ _ (by omega) (by omega), if_neg (by omega)]
theorem eqNilM {P : Program} {t e : TypeId} (ht : P.underlying t = some (.slice e)) (a : Option Addr) (l c : Nat) (w : World) : (binOp .eql t (.slice a l c) (.slice none 0 0)).run P w = .ok (.bool a.isNone) w := by
  simp [binOp, run_equal_slice_nil w t e a l c ht]
theorem take_next {X : List Int} {k : Nat} (h : k < X.length) : (X.take (k + 1)).sum = (X.take k).sum + X.getD k 0 := by
  rw [List.take_succ_eq_append_getElem h, List.sum_append, List.sum_singleton]
  simp [List.getD, List.getElem?_eq_getElem h]
theorem take_bd {X : List Int} (h : ∀ x ∈ X, 0 ≤ x ∧ x ≤ 16) : ∀ k, k ≤ X.length → 0 ≤ (X.take k).sum ∧ (X.take k).sum ≤ 16 * k
  | 0, _ => by simp
  | k + 1, hk => by
    have h1 := take_bd h k (by omega)
    have h2 := h _ (List.getElem_mem (show k < X.length by omega))
    rw [List.take_succ_eq_append_getElem (by omega), List.sum_append, List.sum_singleton]
    omega
def MarkEnd (w : World) (N S T : Int) (n m : Nat) (ys : List Ar) (rs es : List Int) (e : Ending) (w' : World) : Prop :=
  ∃ X, e = .returned (.agg #[.int .i64 (es.getD T.toNat 0), .int .i64 X.sum]) ∧ IsLow S n m ys rs (allN n N T) X ∧ Kept w w'
set_option maxRecDepth 100000 in
set_option maxHeartbeats 4000000 in
theorem mark_ok (N S T : Int) (n m : Nat) (a3 a4 a5 a6 a7 a8 : Option Addr) (c3 c4 c5 c6 c7 c8 : Nat) (ys : List Ar) (ra : Option Addr) (rc : Nat) (rs : List Int) (ea : Option Addr) (ec : Nat) (es : List Int) (za : Option Addr) (zl zc : Nat) (w : World) (hg : Gr N S T n m ys) (hrm : rs.length = m) (hcr : CsrR w n ys a3 a4 a5 a6 a7 a8) (hr : Rd w ra (lv rs)) (he : Rd w ea (lv es)) (hen : es.length = n) :
    Calls Try.prog 26 #[.agg #[.int .i64 N, .int .i64 S, .int .i64 T, .slice a3 (n + 1) c3, .slice a4 m c4, .slice a5 m c5, .slice a6 m c6, .slice a7 m c7, .slice a8 m c8], .agg #[.slice ra m rc, .slice ea n ec, .slice za zl zc]] w (MarkEnd w N S T n m ys rs es) := by
  have HX := fun (w : World) (hcr : CsrR w n ys a3 a4 a5 a6 a7 a8) (hr : Rd w ra (lv rs)) => Lib.hid (show Calls Try.prog 25 #[.agg #[.int .i64 N, .int .i64 S, .int .i64 T, .slice a3 (n + 1) c3, .slice a4 m c4, .slice a5 m c5, .slice a6 m c6, .slice a7 m c7, .slice a8 m c8], .slice ra m rc, .int .i64 1] w (ExactEnd w N S T n m ys rs) from exact_ok N S T n m a3 a4 a5 a6 a7 a8 c3 c4 c5 c6 c7 c8 ys ra rc rs 1 w hg hrm hcr hr (by omega) (by omega))
  have hn16 : n ≤ 16 := by have := hg.len; omega
  have HK1 : Hid (Kept w (((w.alloc (.cells #[.int .i64 N, .int .i64 S, .int .i64 T, .slice a3 (n + 1) c3, .slice a4 m c4, .slice a5 m c5, .slice a6 m c6, .slice a7 m c7, .slice a8 m c8] 29)).alloc (.cells #[.slice ra m rc, .slice ea n ec, .slice za zl zc] 51)).alloc (.cells #[.int .i64 0, .int .i64 0] 48))) := Lib.hid ((((Upd.refl (fun _ => False) w).alloc (.cells #[.int .i64 N, .int .i64 S, .int .i64 T, .slice a3 (n + 1) c3, .slice a4 m c4, .slice a5 m c5, .slice a6 m c6, .slice a7 m c7, .slice a8 m c8] 29)).alloc (.cells #[.slice ra m rc, .slice ea n ec, .slice za zl zc] 51)).alloc (.cells #[.int .i64 0, .int .i64 0] 48))
  have HCB : Hid (Blk (((w.alloc (.cells #[.int .i64 N, .int .i64 S, .int .i64 T, .slice a3 (n + 1) c3, .slice a4 m c4, .slice a5 m c5, .slice a6 m c6, .slice a7 m c7, .slice a8 m c8] 29)).alloc (.cells #[.slice ra m rc, .slice ea n ec, .slice za zl zc] 51)).alloc (.cells #[.int .i64 0, .int .i64 0] 48)) w.heap.size #[.int .i64 N, .int .i64 S, .int .i64 T, .slice a3 (n + 1) c3, .slice a4 m c4, .slice a5 m c5, .slice a6 m c6, .slice a7 m c7, .slice a8 m c8] 29) := Lib.hid (((Blk.new w _ _).alloc _).alloc _)
  have HPB : Hid (Blk (((w.alloc (.cells #[.int .i64 N, .int .i64 S, .int .i64 T, .slice a3 (n + 1) c3, .slice a4 m c4, .slice a5 m c5, .slice a6 m c6, .slice a7 m c7, .slice a8 m c8] 29)).alloc (.cells #[.slice ra m rc, .slice ea n ec, .slice za zl zc] 51)).alloc (.cells #[.int .i64 0, .int .i64 0] 48)) (w.alloc (.cells #[.int .i64 N, .int .i64 S, .int .i64 T, .slice a3 (n + 1) c3, .slice a4 m c4, .slice a5 m c5, .slice a6 m c6, .slice a7 m c7, .slice a8 m c8] 29)).heap.size #[.slice ra m rc, .slice ea n ec, .slice za zl zc] 51) := Lib.hid ((Blk.new _ _ _).alloc _)
  have HOB : Hid (Blk (((w.alloc (.cells #[.int .i64 N, .int .i64 S, .int .i64 T, .slice a3 (n + 1) c3, .slice a4 m c4, .slice a5 m c5, .slice a6 m c6, .slice a7 m c7, .slice a8 m c8] 29)).alloc (.cells #[.slice ra m rc, .slice ea n ec, .slice za zl zc] 51)).alloc (.cells #[.int .i64 0, .int .i64 0] 48)) ((w.alloc (.cells #[.int .i64 N, .int .i64 S, .int .i64 T, .slice a3 (n + 1) c3, .slice a4 m c4, .slice a5 m c5, .slice a6 m c6, .slice a7 m c7, .slice a8 m c8] 29)).alloc (.cells #[.slice ra m rc, .slice ea n ec, .slice za zl zc] 51)).heap.size #[.int .i64 0, .int .i64 0] 48) := Lib.hid (Blk.new _ _ _)
  have HC1 := Lib.hid (HX _ (hcr.kept HK1.out) (hr.kept HK1.out)).out
  have HE := Lib.hid (he.kept HK1.out)
  have HEN := Lib.hid hen
  have HG := Lib.hid hg
  clear hg hrm hcr hr he hen HX
  go_enter Try.func26, Try.ntmps26
  go_wp2_with fail
  change Calls _ _ _ (((w.alloc (.cells #[.int .i64 N, .int .i64 S, .int .i64 T, .slice a3 (n + 1) c3, .slice a4 m c4, .slice a5 m c5, .slice a6 m c6, .slice a7 m c7, .slice a8 m c8] 29)).alloc (.cells #[.slice ra m rc, .slice ea n ec, .slice za zl zc] 51)).alloc (.cells #[.int .i64 0, .int .i64 0] 48)) _
  refine HC1.out.mono ?_
  rintro e w1 ⟨xb, X, rfl, hX, hB, -, hk⟩
  have HK2 := Lib.hid (HK1.out.trans hk)
  have HCB2 := Lib.hid (HCB.out.kept hk)
  have HPB2 := Lib.hid (HPB.out.kept hk)
  have HOB2 := Lib.hid (HOB.out.kept hk)
  have HE2 := Lib.hid (HE.out.kept hk)
  have HXL := Lib.hid hX
  have HXB := Lib.hid hB
  have HXN : Hid (X.length = n) := Lib.hid hX.len
  have HXI : Hid (∀ x ∈ X, 0 ≤ x ∧ x ≤ 16) := Lib.hid (fun x hx => by
    have h1 := (right_parts.1 (low_right HG.out (allN_right20 HG.out) hX)).2.1 x hx
    have := HG.out.len
    omega)
  clear hX hB hk HK1 HCB HPB HOB HE HC1
  have hs1 : (w.alloc (.cells #[.int .i64 N, .int .i64 S, .int .i64 T, .slice a3 (n + 1) c3, .slice a4 m c4, .slice a5 m c5, .slice a6 m c6, .slice a7 m c7, .slice a8 m c8] 29)).heap.size = w.heap.size + 1 := World.size_alloc _ _
  have hs2 : ((w.alloc (.cells #[.int .i64 N, .int .i64 S, .int .i64 T, .slice a3 (n + 1) c3, .slice a4 m c4, .slice a5 m c5, .slice a6 m c6, .slice a7 m c7, .slice a8 m c8] 29)).alloc (.cells #[.slice ra m rc, .slice ea n ec, .slice za zl zc] 51)).heap.size = w.heap.size + 1 + 1 := by rw [← hs1]; exact World.size_alloc _ _
  rw [hs2] at HOB2
  rw [hs1] at HPB2
  clear hs1 hs2
  generalize hcb : w.heap.size = cb at HCB2 HPB2 HOB2 ⊢
  have HOBL : Hid (cb ≤ cb + 1 + 1 ∧ cb + 1 + 1 < w1.heap.size ∧ w.heap.size = cb) := Lib.hid ⟨by omega, HOB2.out.lt, hcb⟩
  have HNE : Hid (¬ cb + 1 = cb + 1 + 1 ∧ ¬ cb = cb + 1 + 1) := Lib.hid ⟨by omega, by omega⟩
  clear hcb
  generalize cb + 1 + 1 = ob at HOB2 HOBL HNE ⊢
  generalize cb + 1 = pb at HPB2 HNE ⊢
  obtain ⟨hT0, hT1⟩ : 0 ≤ T ∧ T < (n : Int) := by have := HG.out.len; omega
  obtain ⟨eb, eo, rfl, ec0⟩ := HE2.out.num (i := T.toNat) (by rw [HEN.out]; omega)
  have hnN : ((n : Int) != N) = false := by have := HG.out.len.1; simp [this]
  have bx := HCB2.out.cell
  have px := HPB2.out.cell
  obtain ⟨et, het⟩ : ∃ et, es.getD T.toNat 0 = et := ⟨_, rfl⟩
  rw [het] at ec0
  have HET := Lib.hid het
  clear het
  have hnil : ∀ w, (binOp .eql 26 (.slice (some ⟨xb, 0, none⟩) n n) (.slice none 0 0)).run Try.prog w = .ok (.bool false) w := fun w => eqNilM Try.underlying26 (some ⟨xb, 0, none⟩) n n w
  go_wp2_with fail
  have HSB : Hid (Blk (w1.alloc (.cells #[.int .i64 et, .int .i64 0] 48)) w1.heap.size #[.int .i64 et, .int .i64 (X.take 0).sum] 48) := Lib.hid (by rw [List.take_zero, List.sum_nil]; exact Blk.new _ _ _)
  have HKV : Hid (Kept w1 (w1.alloc (.cells #[.int .i64 et, .int .i64 0] 48))) := Lib.hid ((Upd.refl _ _).alloc _)
  clear bx px ec0 hnil hnN
  generalize (w1.alloc (.cells #[.int .i64 et, .int .i64 0] 48)) = W2 at HSB HKV ⊢
  obtain ⟨sb, hsb⟩ : ∃ sb, w1.heap.size = sb := ⟨_, rfl⟩
  rw [hsb] at HSB ⊢
  have HSE : Hid (w1.heap.size ≤ sb ∧ ¬ ob = sb) := Lib.hid ⟨by omega, by have := HOBL.out; omega⟩
  clear hsb
  go_loopw [33] (fun ix wr => ∃ k : Nat, ix = .int .i64 k ∧ k ≤ n ∧ Hid (Blk wr sb #[.int .i64 et, .int .i64 (X.take k).sum] 48) ∧ Hid (Kept w1 wr)) (fun ix _ => n - (intOf ix).toNat)
  case atStart => exact ⟨0, rfl, by omega, HSB, HKV⟩
  case round =>
    clear HSB HKV
    obtain ⟨k, rfl, hk, HSB, HKV⟩ := hrel
    have sx := HSB.out.cell
    by_cases hik : k < n
    · have i1 : (0 : Int) ≤ (k : Int) := by omega
      have i2 : (k : Int) < (n : Int) := by omega
      have xc : wr.cell? ⟨xb, k, none⟩ = some (.int .i64 (X.getD k 0)) := by rw [(HXB.out.kept HKV.out).cell]; simp only [List.getElem?_toArray]; exact lv_get (by rw [HXN.out]; exact hik)
      have HNX := Lib.hid (take_next (X := X) (k := k) (by rw [HXN.out]; exact hik))
      have hw := show wrap64 ((X.take k).sum + X.getD k 0) = (X.take (k + 1)).sum by
        have h1 := take_bd HXI.out (k + 1) (by rw [HXN.out]; exact hik)
        have h2 := HNX.out
        unfold wrap64
        omega
      have fo := HSB.out.free 1
      have HS2 : Hid (Blk (wr.setCell ⟨sb, 1, none⟩ (.int .i64 (X.take (k + 1)).sum)) sb #[.int .i64 et, .int .i64 (X.take (k + 1)).sum] 48) := Lib.hid (HSB.out.set 1 (.int .i64 (X.take (k + 1)).sum))
      have HK2' : Hid (Kept w1 (wr.setCell ⟨sb, 1, none⟩ (.int .i64 (X.take (k + 1)).sum))) := Lib.hid (HKV.out.set (p := ⟨sb, 1, none⟩) HSE.out.1 _)
      obtain ⟨s1, hs1⟩ : ∃ s, (X.take (k + 1)).sum = s := ⟨_, rfl⟩
      have HE1 := Lib.hid hs1
      rw [hs1] at hw HS2 HK2'
      clear hs1
      generalize (X.take k).sum = s0 at hw sx
      generalize X.getD k 0 = xv at hw xc
      clear HNX HSB HKV
      go_wp2_with fail
      go_roundw
      case rel => exact ⟨k + 1, by go_num, by omega, by rw [HE1.out]; exact HS2, HK2'⟩
      case measure => simp [intOf]; omega
    · obtain rfl : n = k := by omega
      have HTA : Hid (X.take n = X) := Lib.hid (List.take_of_length_le (by rw [HXN.out]; exact Nat.le_refl _))
      rw [HTA.out] at sx
      have HO2 := Lib.hid (HOB2.out.kept HKV.out)
      have ox := HO2.out.cell
      have f0 := HO2.out.free 0
      have f1 := HO2.out.free 1
      have HK9 : Hid (Kept w wr) := Lib.hid (HK2.out.trans HKV.out)
      have HFIN : Hid (∀ v0 v1, Kept w ((wr.setCell ⟨ob, 0, none⟩ v0).setCell ⟨ob, 1, none⟩ v1)) := Lib.hid (fun v0 v1 => (HK9.out.set (p := ⟨ob, 0, none⟩) (by have := HOBL.out; simp only; omega) _).set (p := ⟨ob, 1, none⟩) (by have := HOBL.out; simp only; omega) _)
      generalize hXs : X.sum = xs at sx
      have HXS := Lib.hid hXs
      clear hXs
      go_wp2_with fail
      have HBO : Hid (Blk ((wr.setCell ⟨ob, 0, none⟩ (.int .i64 et)).setCell ⟨ob, 1, none⟩ (.int .i64 xs)) ob #[.int .i64 et, .int .i64 xs] 48) := Lib.hid ((HO2.out.set 0 (.int .i64 et)).set 1 (.int .i64 xs))
      have HKF := Lib.hid (HFIN.out (.int .i64 et) (.int .i64 xs))
      clear HFIN HO2 ox f0 f1
      generalize ((wr.setCell ⟨ob, 0, none⟩ (.int .i64 et)).setCell ⟨ob, 1, none⟩ (.int .i64 xs)) = Wf at HBO HKF ⊢
      have o0 : Wf.cell? ⟨ob, 0, none⟩ = some (.int .i64 et) := by rw [HBO.out.cell]; rfl
      have o1 : Wf.cell? ⟨ob, 1, none⟩ = some (.int .i64 xs) := by rw [HBO.out.cell]; rfl
      refine bodyPost_ret (v := .agg #[.int .i64 et, .int .i64 xs]) (by simp [results, Try.results26, go_sem, o0, o1]) rfl ?_
      exact ⟨X, by rw [HXS.out, HET.out], HXL.out, HKF.out⟩
end Go.Proofs.Yticeionjlknlcaa
/- globals.Reached. -/
namespace Go.Proofs.Yticeionjlknlcaa
set_option linter.unusedVariables false
set_option linter.unusedSimpArgs false
open Go.RowKit
attribute [local go_sem] cell?_ext

theorem infoBoolG : (Try.prog.info? 4).map (fun i => (i.zero, i.size, i.bytes)) = some (some (.bool false), 1, 1) := by kernel_rfl
/-- Who is below N. -/
def rcL (N : Int) (X : List Int) : List Bool := X.map fun k => decide (k < N)
theorem rcL_next {N : Int} {X : List Int} {k : Nat} (h : k < X.length) : rcL N (X.take (k + 1)) = rcL N (X.take k) ++ [decide (X.getD k 0 < N)] := by
  unfold rcL
  rw [List.take_succ_eq_append_getElem h, List.map_append, List.map_singleton]
  simp [List.getD, List.getElem?_eq_getElem h]
def ReachEnd (w : World) (N S T : Int) (n m : Nat) (ys : List Ar) (rs : List Int) (e : Ending) (w' : World) : Prop :=
  ∃ a c X, e = .returned (.slice a n c) ∧ IsLow S n m ys rs (allN n N T) X ∧ Rd w' a ((rcL N X).map Value.bool) ∧ (∀ ad, a = some ad → w.heap.size ≤ ad.block) ∧ Kept w w'
set_option maxRecDepth 100000 in
set_option maxHeartbeats 8000000 in
theorem reached_ok (N S T : Int) (n m : Nat) (a3 a4 a5 a6 a7 a8 : Option Addr) (c3 c4 c5 c6 c7 c8 : Nat) (ys : List Ar) (ra : Option Addr) (rc : Nat) (rs : List Int) (w : World) (hg : Gr N S T n m ys) (hrm : rs.length = m) (hcr : CsrR w n ys a3 a4 a5 a6 a7 a8) (hr : Rd w ra (lv rs)) :
    Calls Try.prog 29 #[.agg #[.int .i64 N, .int .i64 S, .int .i64 T, .slice a3 (n + 1) c3, .slice a4 m c4, .slice a5 m c5, .slice a6 m c6, .slice a7 m c7, .slice a8 m c8], .slice ra m rc] w (ReachEnd w N S T n m ys rs) := by
  have HX := fun (w : World) (hcr : CsrR w n ys a3 a4 a5 a6 a7 a8) (hr : Rd w ra (lv rs)) => Lib.hid (show Calls Try.prog 25 #[.agg #[.int .i64 N, .int .i64 S, .int .i64 T, .slice a3 (n + 1) c3, .slice a4 m c4, .slice a5 m c5, .slice a6 m c6, .slice a7 m c7, .slice a8 m c8], .slice ra m rc, .int .i64 1] w (ExactEnd w N S T n m ys rs) from exact_ok N S T n m a3 a4 a5 a6 a7 a8 c3 c4 c5 c6 c7 c8 ys ra rc rs 1 w hg hrm hcr hr (by omega) (by omega))
  have hn16 : n ≤ 16 := by have := hg.len; omega
  have hA := (Upd.refl (fun _ => False) w).alloc (.cells #[.int .i64 N, .int .i64 S, .int .i64 T, .slice a3 (n + 1) c3, .slice a4 m c4, .slice a5 m c5, .slice a6 m c6, .slice a7 m c7, .slice a8 m c8] 29)
  have HK1 : Hid (Kept w (w.alloc (.cells #[.int .i64 N, .int .i64 S, .int .i64 T, .slice a3 (n + 1) c3, .slice a4 m c4, .slice a5 m c5, .slice a6 m c6, .slice a7 m c7, .slice a8 m c8] 29))) := Lib.hid hA
  have HC1 := Lib.hid (HX _ (hcr.kept hA) (hr.kept hA)).out
  have HCB : Hid (Blk (w.alloc (.cells #[.int .i64 N, .int .i64 S, .int .i64 T, .slice a3 (n + 1) c3, .slice a4 m c4, .slice a5 m c5, .slice a6 m c6, .slice a7 m c7, .slice a8 m c8] 29)) w.heap.size #[.int .i64 N, .int .i64 S, .int .i64 T, .slice a3 (n + 1) c3, .slice a4 m c4, .slice a5 m c5, .slice a6 m c6, .slice a7 m c7, .slice a8 m c8] 29) := Lib.hid (Blk.new _ _ _)
  clear hg hrm hcr hr hA HX
  go_enter Try.func29, Try.ntmps29
  go_wp2_with fail
  change Calls _ _ _ (w.alloc (.cells #[.int .i64 N, .int .i64 S, .int .i64 T, .slice a3 (n + 1) c3, .slice a4 m c4, .slice a5 m c5, .slice a6 m c6, .slice a7 m c7, .slice a8 m c8] 29)) _
  refine HC1.out.mono ?_
  rintro e w1 ⟨xb, X, rfl, hX, hB, -, hk⟩
  have HK2 := Lib.hid (HK1.out.trans hk)
  have HCB2 := Lib.hid (HCB.out.kept hk)
  have HXL := Lib.hid hX
  have HXB := Lib.hid hB
  have HXN : Hid (X.length = n) := Lib.hid hX.len
  clear hX hB hk HK1 HCB HC1
  generalize w.heap.size = cb at HCB2 ⊢
  go_wp2_with fail
  go_loopw [5, 12] (fun y z wr => ∃ (k : Nat) (oa : Option Addr) (oc : Nat), y = .slice oa k oc ∧ z = .int .i64 k ∧ k ≤ n ∧ Hid (wr.ownsRow w1.heap.size 4 1 (.slice oa k oc) k ((rcL N (X.take k)).map Value.bool)) ∧ Hid (Kept w1 wr)) (fun _ z _ => n - (intOf z).toNat)
  case atStart => exact ⟨0, none, 0, rfl, rfl, by omega, Lib.hid (by simpa [rcL] using World.ownsRow_nil _ _ _ _), Lib.hid (Upd.refl _ _)⟩
  case round =>
    obtain ⟨k, oa, oc, rfl, rfl, hk, HO, HK⟩ := hrel
    have bx := (HCB2.out.kept HK.out).cell
    by_cases hik : k < n
    · have xc : wr.cell? ⟨xb, k, none⟩ = some (.int .i64 (X.getD k 0)) := by rw [(HXB.out.kept HK.out).cell]; simp only [List.getElem?_toArray]; exact lv_get (by rw [HXN.out]; exact hik)
      have HNX := Lib.hid (rcL_next (N := N) (X := X) (k := k) (by rw [HXN.out]; exact hik))
      generalize X.getD k 0 = xv at xc HNX
      obtain ⟨z, hz⟩ : ∃ z, decide (xv < N) = z := ⟨_, rfl⟩
      rw [hz] at HNX
      have i1 : (0 : Int) ≤ (k : Int) := by omega
      have i2 : (k : Int) < (n : Int) := by omega
      obtain ⟨i0, hi0, hz0, hz1, hz2⟩ := info_parts infoBoolG
      have ho := HO.out
      have hbs := HK.out.size
      cases z
      all_goals
        go_wp2_with (first | (at_builtin; refine wpList_push rfl _ _ 27 rfl w1.heap.size 4 i0 (.bool false) 1 Try.underlying27 hi0 hz0 hz1 hz2 rfl (by decide) _ _ _ rfl ho _ rfl rfl (by omega) hbs ?_; intro gg cap' w7 hown hg2; clear hi0 hz0 hz1 hz2 ho hbs) | fail)
        have HK3 : Hid (Kept w1 w7) := Lib.hid (hg2.kept HK.out HO.out (Nat.le_refl _))
        have HO3 : Hid (w7.ownsRow w1.heap.size 4 1 (.slice (some ⟨gg, 0, none⟩) (k + 1) cap') (k + 1) ((rcL N (X.take (k + 1))).map Value.bool)) := Lib.hid (by rw [HNX.out, List.map_append]; exact hown)
        clear hown hg2 HO HK HNX bx xc hz
        go_wp2_with fail
        go_roundw
        case rel => exact ⟨k + 1, _, _, rfl, by go_num, by omega, HO3, HK3⟩
        case measure => simp [intOf]; omega
    · obtain rfl : n = k := by omega
      have HTA : Hid (X.take n = X) := Lib.hid (List.take_of_length_le (by rw [HXN.out]; exact Nat.le_refl _))
      go_wp2_with fail
      go_ret
      exact ⟨oa, oc, X, rfl, HXL.out, by
        obtain ⟨a', c', e, hr⟩ := Rd.owns HO.out
        cases e
        rwa [HTA.out] at hr, fun ad e => by
        have h1 := (World.ownsRow.lt HO.out ad.block (by rw [e]; rfl)).1
        have h2 := HK2.out.size
        omega, HK2.out.trans HK.out⟩
set_option maxHeartbeats 1000000 in
theorem bools_eq (a a' : Option Addr) (c c' : Nat) (xs : List Bool) (n : Nat) (w : World) (hx : Rd w a (xs.map Value.bool)) (hy : Rd w a' (xs.map Value.bool)) (hn : xs.length = n) (mx : n ≤ 1000000000) :
    Calls Try.prog 30 #[.slice a n c, .slice a' n c'] w fun e w' => e = .returned (.bool true) ∧ Kept w w' := by
  have HX := Lib.hid hx
  have HY := Lib.hid hy
  have HN := Lib.hid hn
  clear hx hy hn
  go_enter Try.func30, Try.ntmps30
  go_wp2_with fail
  go_loopw [13] (fun i wr => ∃ k : Nat, i = .int .i64 k ∧ k ≤ n ∧ Hid (Kept w wr)) (fun i _ => n - (intOf i).toNat)
  case atStart => exact ⟨0, rfl, by omega, Lib.hid (Upd.refl _ _)⟩
  case round =>
    obtain ⟨k, rfl, hk, HK⟩ := hrel
    by_cases hlt : k < n
    · have hkx : k < xs.length := by rw [HN.out]; exact hlt
      obtain ⟨b, off, rfl, hc1⟩ := (HX.out.kept HK.out).at k (by simpa using hkx)
      obtain ⟨b', off', rfl, hc2⟩ := (HY.out.kept HK.out).at k (by simpa using hkx)
      rw [show (xs.map Value.bool)[k]? = some (.bool xs[k]) by simp [hkx]] at hc1 hc2
      generalize xs[k] = z at hc1 hc2
      have j0 : (0 : Int) ≤ (k : Int) := by omega
      have j1 : (k : Int) < (n : Int) := by omega
      clear hkx
      cases z
      all_goals
        go_wp2_with fail
        go_quiet (fail)
        have HK3 : Hid (Kept w (wr.drewN nq)) := Lib.hid (HK.out.trans ⟨rfl, rfl, rfl, Nat.le_refl _, fun _ _ _ => rfl⟩)
        clear HK hc1 hc2
        go_wp2_with fail
        go_roundw
        case rel => exact ⟨k + 1, by go_num, by omega, HK3⟩
        case measure => simp [intOf]; omega
    · go_wp2_with fail
      go_ret
      exact ⟨rfl, HK.out⟩
end Go.Proofs.Yticeionjlknlcaa
/- What globals and acequiaref20 tell where the numbers do not fit; Risen (printed by gen_glono.py). -/
namespace Go.Proofs.Yticeionjlknlcaa
set_option linter.unusedVariables false
set_option linter.unusedSimpArgs false
open Go.RowKit
attribute [local go_sem] cell?_ext

set_option maxHeartbeats 2000000 in
theorem exact_no (N S T : Int) (n m : Nat) (a3 a4 a5 a6 a7 a8 : Option Addr) (c3 c4 c5 c6 c7 c8 : Nat) (ra : Option Addr) (rl rc : Nat) (wk : Int) (w : World) (hN : 2 ≤ N) (hz : (decide (rl = m) && decide (1 ≤ wk) && decide (wk ≤ 64)) = false) :
    Calls Try.prog 25 #[.agg #[.int .i64 N, .int .i64 S, .int .i64 T, .slice a3 (n + 1) c3, .slice a4 m c4, .slice a5 m c5, .slice a6 m c6, .slice a7 m c7, .slice a8 m c8], .slice ra rl rc, .int .i64 wk] w fun e w' => e = .returned (.slice none 0 0) ∧ Kept w w' := by
  have HK := Lib.hid ((Upd.refl (fun _ => False) w).alloc (.cells #[.int .i64 N, .int .i64 S, .int .i64 T, .slice a3 (n + 1) c3, .slice a4 m c4, .slice a5 m c5, .slice a6 m c6, .slice a7 m c7, .slice a8 m c8] 29))
  have HB := Lib.hid (Blk.new w #[.int .i64 N, .int .i64 S, .int .i64 T, .slice a3 (n + 1) c3, .slice a4 m c4, .slice a5 m c5, .slice a6 m c6, .slice a7 m c7, .slice a8 m c8] 29)
  have hN0 : (N == 0) = false := by simp; omega
  go_enter Try.func25, Try.ntmps25
  go_wp2_with fail
  change Calls _ _ _ (w.alloc (.cells #[.int .i64 N, .int .i64 S, .int .i64 T, .slice a3 (n + 1) c3, .slice a4 m c4, .slice a5 m c5, .slice a6 m c6, .slice a7 m c7, .slice a8 m c8] 29)) _
  refine (len_any N S T n m a3 a4 a5 a6 a7 a8 c3 c4 c5 c6 c7 c8 _).mono ?_
  rintro e w1 ⟨rfl, hk⟩
  have HK2 := Lib.hid (HK.out.trans hk)
  have HB2 := Lib.hid (HB.out.kept hk)
  clear hk HK HB
  generalize w.heap.size = cb at HB2 ⊢
  have bx := HB2.out.cell
  by_cases q1 : rl = m
  · have b1 : ((rl : Int) != (m : Int)) = false := by simp [q1]
    by_cases q2 : wk < 1
    · have b2 : decide (wk < 1) = true := by simpa using q2
      clear q1 hz
      go_wp2_with fail
      go_ret
      exact ⟨rfl, HK2.out⟩
    · have b2 : decide (wk < 1) = false := by simpa using q2
      have b3 : decide (64 < wk) = true := by
        rw [decide_eq_true q1, decide_eq_true (show 1 ≤ wk by omega)] at hz
        simp at hz ⊢
        omega
      have b4 : 64 < wk := by simpa using b3
      clear q1 hz
      go_wp2_with fail
      go_ret
      exact ⟨rfl, HK2.out⟩
  · have b1 : ((rl : Int) != (m : Int)) = true := by simp; omega
    have b2 : (rl != m) = true := by simpa using q1
    clear hz q1
    go_wp2_with fail
    go_ret
    exact ⟨rfl, HK2.out⟩
set_option maxHeartbeats 2000000 in
theorem refExact_no (N S T : Int) (n m : Nat) (a3 a4 a5 a6 a7 a8 : Option Addr) (c3 c4 c5 c6 c7 c8 : Nat) (ra : Option Addr) (rl rc : Nat) (wk : Int) (w : World) (hN : 2 ≤ N) (hz : (decide (rl = m) && decide (1 ≤ wk) && decide (wk ≤ 64)) = false) :
    Calls Try.prog 31 #[.agg #[.int .i64 N, .int .i64 S, .int .i64 T, .slice a3 (n + 1) c3, .slice a4 m c4, .slice a5 m c5, .slice a6 m c6, .slice a7 m c7, .slice a8 m c8], .slice ra rl rc, .int .i64 wk] w fun e w' => e = .returned (.slice none 0 0) ∧ Kept w w' := by
  have HK := Lib.hid ((Upd.refl (fun _ => False) w).alloc (.cells #[.int .i64 N, .int .i64 S, .int .i64 T, .slice a3 (n + 1) c3, .slice a4 m c4, .slice a5 m c5, .slice a6 m c6, .slice a7 m c7, .slice a8 m c8] 29))
  have HB := Lib.hid (Blk.new w #[.int .i64 N, .int .i64 S, .int .i64 T, .slice a3 (n + 1) c3, .slice a4 m c4, .slice a5 m c5, .slice a6 m c6, .slice a7 m c7, .slice a8 m c8] 29)
  have hN0 : (N == 0) = false := by simp; omega
  go_enter Try.func31, Try.ntmps31
  go_upto_region 1 with (fail)
  have HK2 := HK
  have HB2 := HB
  generalize (w.alloc (.cells #[.int .i64 N, .int .i64 S, .int .i64 T, .slice a3 (n + 1) c3, .slice a4 m c4, .slice a5 m c5, .slice a6 m c6, .slice a7 m c7, .slice a8 m c8] 29)) = W0 at HK2 HB2 ⊢
  generalize w.heap.size = cb at HB2 ⊢
  have bx := HB2.out.cell
  by_cases q1 : rl = m
  · have b1 : ((rl : Int) != (m : Int)) = false := by simp [q1]
    by_cases q2 : wk < 1
    · have b2 : decide (wk < 1) = true := by simpa using q2
      clear q1 hz
      go_wp2_with fail
      go_ret
      exact ⟨rfl, HK2.out⟩
    · have b2 : decide (wk < 1) = false := by simpa using q2
      have b3 : decide (64 < wk) = true := by
        rw [decide_eq_true q1, decide_eq_true (show 1 ≤ wk by omega)] at hz
        simp at hz ⊢
        omega
      have b4 : 64 < wk := by simpa using b3
      clear q1 hz
      go_wp2_with fail
      go_ret
      exact ⟨rfl, HK2.out⟩
  · have b1 : ((rl : Int) != (m : Int)) = true := by simp; omega
    have b2 : (rl != m) = true := by simpa using q1
    clear hz q1
    go_wp2_with fail
    go_ret
    exact ⟨rfl, HK2.out⟩
set_option maxHeartbeats 2000000 in
theorem reached_no (N S T : Int) (n m : Nat) (a3 a4 a5 a6 a7 a8 : Option Addr) (c3 c4 c5 c6 c7 c8 : Nat) (ra : Option Addr) (rl rc : Nat) (w : World) (hN : 2 ≤ N) (hz : ¬ rl = m) :
    Calls Try.prog 29 #[.agg #[.int .i64 N, .int .i64 S, .int .i64 T, .slice a3 (n + 1) c3, .slice a4 m c4, .slice a5 m c5, .slice a6 m c6, .slice a7 m c7, .slice a8 m c8], .slice ra rl rc] w fun e w' => e = .returned (.slice none 0 0) ∧ Kept w w' := by
  have HK := Lib.hid ((Upd.refl (fun _ => False) w).alloc (.cells #[.int .i64 N, .int .i64 S, .int .i64 T, .slice a3 (n + 1) c3, .slice a4 m c4, .slice a5 m c5, .slice a6 m c6, .slice a7 m c7, .slice a8 m c8] 29))
  have HB := Lib.hid (Blk.new w #[.int .i64 N, .int .i64 S, .int .i64 T, .slice a3 (n + 1) c3, .slice a4 m c4, .slice a5 m c5, .slice a6 m c6, .slice a7 m c7, .slice a8 m c8] 29)
  have HX := fun w => Lib.hid (exact_no N S T n m a3 a4 a5 a6 a7 a8 c3 c4 c5 c6 c7 c8 ra rl rc 1 w hN (by simp [hz]))
  clear hz
  go_enter Try.func29, Try.ntmps29
  go_wp2_with fail
  refine (HX _).out.mono ?_
  rintro e w1 ⟨rfl, hk⟩
  have HK2 := Lib.hid (HK.out.trans hk)
  clear hk HK HB HX
  go_wp2_with fail
  go_loopw [5, 12] (fun x y wr => x = .slice none 0 0 ∧ y = .int .i64 0 ∧ Hid (Kept w wr)) (fun _ _ _ => 0)
  case atStart => exact ⟨rfl, rfl, HK2⟩
  case round =>
    clear HK2
    obtain ⟨rfl, rfl, HK2⟩ := hrel
    go_wp2_with fail
    go_ret
    exact ⟨rfl, HK2.out⟩
set_option maxHeartbeats 2000000 in
theorem refReached_no (N S T : Int) (n m : Nat) (a3 a4 a5 a6 a7 a8 : Option Addr) (c3 c4 c5 c6 c7 c8 : Nat) (ra : Option Addr) (rl rc : Nat) (w : World) (hN : 2 ≤ N) (hz : ¬ rl = m) :
    Calls Try.prog 32 #[.agg #[.int .i64 N, .int .i64 S, .int .i64 T, .slice a3 (n + 1) c3, .slice a4 m c4, .slice a5 m c5, .slice a6 m c6, .slice a7 m c7, .slice a8 m c8], .slice ra rl rc] w fun e w' => e = .returned (.slice none 0 0) ∧ Kept w w' := by
  have HK := Lib.hid ((Upd.refl (fun _ => False) w).alloc (.cells #[.int .i64 N, .int .i64 S, .int .i64 T, .slice a3 (n + 1) c3, .slice a4 m c4, .slice a5 m c5, .slice a6 m c6, .slice a7 m c7, .slice a8 m c8] 29))
  have HB := Lib.hid (Blk.new w #[.int .i64 N, .int .i64 S, .int .i64 T, .slice a3 (n + 1) c3, .slice a4 m c4, .slice a5 m c5, .slice a6 m c6, .slice a7 m c7, .slice a8 m c8] 29)
  have HX := fun w => Lib.hid (refExact_no N S T n m a3 a4 a5 a6 a7 a8 c3 c4 c5 c6 c7 c8 ra rl rc 1 w hN (by simp [hz]))
  clear hz
  go_enter Try.func32, Try.ntmps32
  go_wp2_with fail
  refine (HX _).out.mono ?_
  rintro e w1 ⟨rfl, hk⟩
  have HK2 := Lib.hid (HK.out.trans hk)
  clear hk HK HB HX
  go_wp2_with fail
  go_loopw [6, 7] (fun x y wr => x = .slice none 0 0 ∧ y = .int .i64 0 ∧ Hid (Kept w wr)) (fun _ _ _ => 0)
  case atStart => exact ⟨rfl, rfl, HK2⟩
  case round =>
    clear HK2
    obtain ⟨rfl, rfl, HK2⟩ := hrel
    go_wp2_with fail
    go_ret
    exact ⟨rfl, HK2.out⟩
set_option maxRecDepth 100000 in
set_option maxHeartbeats 4000000 in
theorem mark_no (N S T : Int) (n m : Nat) (a3 a4 a5 a6 a7 a8 : Option Addr) (c3 c4 c5 c6 c7 c8 : Nat) (ys : List Ar) (ra : Option Addr) (rl rc : Nat) (rs : List Int) (ea : Option Addr) (el ec : Nat) (za : Option Addr) (zl zc : Nat) (w : World) (hg : Gr N S T n m ys) (hrm : rs.length = rl) (hcr : CsrR w n ys a3 a4 a5 a6 a7 a8) (hr : Rd w ra (lv rs)) (hz : (decide (rl = m) && decide (el = n)) = false) :
    Calls Try.prog 26 #[.agg #[.int .i64 N, .int .i64 S, .int .i64 T, .slice a3 (n + 1) c3, .slice a4 m c4, .slice a5 m c5, .slice a6 m c6, .slice a7 m c7, .slice a8 m c8], .agg #[.slice ra rl rc, .slice ea el ec, .slice za zl zc]] w fun e w' => e = .returned (.agg #[.int .i64 0, .int .i64 0]) ∧ Kept w w' := by
  have hln := hg.len
  have hN : 2 ≤ N := by omega
  have HK1 : Hid (Kept w (((w.alloc (.cells #[.int .i64 N, .int .i64 S, .int .i64 T, .slice a3 (n + 1) c3, .slice a4 m c4, .slice a5 m c5, .slice a6 m c6, .slice a7 m c7, .slice a8 m c8] 29)).alloc (.cells #[.slice ra rl rc, .slice ea el ec, .slice za zl zc] 51)).alloc (.cells #[.int .i64 0, .int .i64 0] 48))) := Lib.hid ((((Upd.refl (fun _ => False) w).alloc (.cells #[.int .i64 N, .int .i64 S, .int .i64 T, .slice a3 (n + 1) c3, .slice a4 m c4, .slice a5 m c5, .slice a6 m c6, .slice a7 m c7, .slice a8 m c8] 29)).alloc (.cells #[.slice ra rl rc, .slice ea el ec, .slice za zl zc] 51)).alloc (.cells #[.int .i64 0, .int .i64 0] 48))
  have HCB : Hid (Blk (((w.alloc (.cells #[.int .i64 N, .int .i64 S, .int .i64 T, .slice a3 (n + 1) c3, .slice a4 m c4, .slice a5 m c5, .slice a6 m c6, .slice a7 m c7, .slice a8 m c8] 29)).alloc (.cells #[.slice ra rl rc, .slice ea el ec, .slice za zl zc] 51)).alloc (.cells #[.int .i64 0, .int .i64 0] 48)) w.heap.size #[.int .i64 N, .int .i64 S, .int .i64 T, .slice a3 (n + 1) c3, .slice a4 m c4, .slice a5 m c5, .slice a6 m c6, .slice a7 m c7, .slice a8 m c8] 29) := Lib.hid (((Blk.new w _ _).alloc _).alloc _)
  have HPB : Hid (Blk (((w.alloc (.cells #[.int .i64 N, .int .i64 S, .int .i64 T, .slice a3 (n + 1) c3, .slice a4 m c4, .slice a5 m c5, .slice a6 m c6, .slice a7 m c7, .slice a8 m c8] 29)).alloc (.cells #[.slice ra rl rc, .slice ea el ec, .slice za zl zc] 51)).alloc (.cells #[.int .i64 0, .int .i64 0] 48)) (w.alloc (.cells #[.int .i64 N, .int .i64 S, .int .i64 T, .slice a3 (n + 1) c3, .slice a4 m c4, .slice a5 m c5, .slice a6 m c6, .slice a7 m c7, .slice a8 m c8] 29)).heap.size #[.slice ra rl rc, .slice ea el ec, .slice za zl zc] 51) := Lib.hid ((Blk.new _ _ _).alloc _)
  have HOB : Hid (Blk (((w.alloc (.cells #[.int .i64 N, .int .i64 S, .int .i64 T, .slice a3 (n + 1) c3, .slice a4 m c4, .slice a5 m c5, .slice a6 m c6, .slice a7 m c7, .slice a8 m c8] 29)).alloc (.cells #[.slice ra rl rc, .slice ea el ec, .slice za zl zc] 51)).alloc (.cells #[.int .i64 0, .int .i64 0] 48)) ((w.alloc (.cells #[.int .i64 N, .int .i64 S, .int .i64 T, .slice a3 (n + 1) c3, .slice a4 m c4, .slice a5 m c5, .slice a6 m c6, .slice a7 m c7, .slice a8 m c8] 29)).alloc (.cells #[.slice ra rl rc, .slice ea el ec, .slice za zl zc] 51)).heap.size #[.int .i64 0, .int .i64 0] 48) := Lib.hid (Blk.new _ _ _)
  have HXN := fun (q : ¬ rl = m) w => Lib.hid (exact_no N S T n m a3 a4 a5 a6 a7 a8 c3 c4 c5 c6 c7 c8 ra rl rc 1 w hN (by simp [q]))
  have HXO := fun (q : rl = m) (w' : World) (k : Kept w w') => Lib.hid (show Calls Try.prog 25 #[.agg #[.int .i64 N, .int .i64 S, .int .i64 T, .slice a3 (n + 1) c3, .slice a4 m c4, .slice a5 m c5, .slice a6 m c6, .slice a7 m c7, .slice a8 m c8], .slice ra rl rc, .int .i64 1] w' (ExactEnd w' N S T n m ys rs) by
    rw [show Value.slice ra rl rc = Value.slice ra m rc by rw [q]]
    exact exact_ok N S T n m a3 a4 a5 a6 a7 a8 c3 c4 c5 c6 c7 c8 ys ra rc rs 1 w' hg (hrm.trans q) (hcr.kept k) (hr.kept k) (by omega) (by omega))
  have HG := Lib.hid hg
  have hs1 : (w.alloc (.cells #[.int .i64 N, .int .i64 S, .int .i64 T, .slice a3 (n + 1) c3, .slice a4 m c4, .slice a5 m c5, .slice a6 m c6, .slice a7 m c7, .slice a8 m c8] 29)).heap.size = w.heap.size + 1 := World.size_alloc _ _
  have hs2 : ((w.alloc (.cells #[.int .i64 N, .int .i64 S, .int .i64 T, .slice a3 (n + 1) c3, .slice a4 m c4, .slice a5 m c5, .slice a6 m c6, .slice a7 m c7, .slice a8 m c8] 29)).alloc (.cells #[.slice ra rl rc, .slice ea el ec, .slice za zl zc] 51)).heap.size = w.heap.size + 1 + 1 := by rw [← hs1]; exact World.size_alloc _ _
  rw [hs2] at HOB
  rw [hs1] at HPB
  clear hs1 hs2 hg hrm hcr hr hln
  go_enter Try.func26, Try.ntmps26
  go_wp2_with fail
  change Calls _ _ _ (((w.alloc (.cells #[.int .i64 N, .int .i64 S, .int .i64 T, .slice a3 (n + 1) c3, .slice a4 m c4, .slice a5 m c5, .slice a6 m c6, .slice a7 m c7, .slice a8 m c8] 29)).alloc (.cells #[.slice ra rl rc, .slice ea el ec, .slice za zl zc] 51)).alloc (.cells #[.int .i64 0, .int .i64 0] 48)) _
  by_cases q1 : rl = m
  · have q2 : ¬ el = n := by rw [decide_eq_true q1] at hz; simpa using hz
    refine (HXO q1 _ HK1.out).out.mono ?_
    rintro e w1 ⟨xb, X, rfl, hX, hB, -, hk⟩
    have HK2 : Hid (Kept w w1) := Lib.hid (HK1.out.trans hk)
    have HCB2 := Lib.hid (HCB.out.kept hk)
    have HPB2 := Lib.hid (HPB.out.kept hk)
    have HOB2 := Lib.hid (HOB.out.kept hk)
    clear hX hB hk HK1 HCB HPB HOB HXO HXN
    generalize hcb : w.heap.size = cb at HCB2 HPB2 HOB2 ⊢
    have HSZ : Hid (w.heap.size ≤ cb + 1 + 1) := Lib.hid (by omega)
    clear hcb
    generalize cb + 1 + 1 = ob at HOB2 HSZ ⊢
    have bx := HCB2.out.cell
    have px := HPB2.out.cell
    have f0 := HOB2.out.free 0
    have f1 := HOB2.out.free 1
    have o0 := HOB2.out.cell 0
    have o1 := HOB2.out.cell 1
    have hnN : ((el : Int) != N) = true := by have := HG.out.len.1; simp; omega
    have hnil : ∀ w, (binOp .eql 26 (.slice (some ⟨xb, 0, none⟩) n n) (.slice none 0 0)).run Try.prog w = .ok (.bool false) w := fun w => eqNilM Try.underlying26 (some ⟨xb, 0, none⟩) n n w
    go_wp2_with fail
    have HBO : Hid (Blk ((w1.setCell ⟨ob, 0, none⟩ (.int .i64 0)).setCell ⟨ob, 1, none⟩ (.int .i64 0)) ob #[.int .i64 0, .int .i64 0] 48) := Lib.hid ((HOB2.out.set 0 (.int .i64 0)).set 1 (.int .i64 0))
    have HKF : Hid (Kept w ((w1.setCell ⟨ob, 0, none⟩ (.int .i64 0)).setCell ⟨ob, 1, none⟩ (.int .i64 0))) := Lib.hid ((HK2.out.set (p := ⟨ob, 0, none⟩) HSZ.out _).set (p := ⟨ob, 1, none⟩) HSZ.out _)
    clear o0 o1 f0 f1 HOB2
    generalize ((w1.setCell ⟨ob, 0, none⟩ (.int .i64 0)).setCell ⟨ob, 1, none⟩ (.int .i64 0)) = Wf at HBO HKF ⊢
    have o0 : Wf.cell? ⟨ob, 0, none⟩ = some (.int .i64 0) := by rw [HBO.out.cell]; rfl
    have o1 : Wf.cell? ⟨ob, 1, none⟩ = some (.int .i64 0) := by rw [HBO.out.cell]; rfl
    refine bodyPost_ret (v := .agg #[.int .i64 0, .int .i64 0]) (by simp [results, Try.results26, go_sem, o0, o1]) rfl ?_
    exact ⟨rfl, HKF.out⟩
  · refine (HXN q1 _).out.mono ?_
    rintro e w1 ⟨rfl, hk⟩
    have HK2 : Hid (Kept w w1) := Lib.hid (HK1.out.trans hk)
    have HCB2 := Lib.hid (HCB.out.kept hk)
    have HPB2 := Lib.hid (HPB.out.kept hk)
    have HOB2 := Lib.hid (HOB.out.kept hk)
    clear hk HK1 HCB HPB HOB HXO HXN
    generalize hcb : w.heap.size = cb at HCB2 HPB2 HOB2 ⊢
    have HSZ : Hid (w.heap.size ≤ cb + 1 + 1) := Lib.hid (by omega)
    clear hcb
    generalize cb + 1 + 1 = ob at HOB2 HSZ ⊢
    have bx := HCB2.out.cell
    have px := HPB2.out.cell
    have f0 := HOB2.out.free 0
    have f1 := HOB2.out.free 1
    have o0 := HOB2.out.cell 0
    have o1 := HOB2.out.cell 1
    have hnil : ∀ w, (binOp .eql 26 (.slice none 0 0) (.slice none 0 0)).run Try.prog w = .ok (.bool true) w := fun w => eqNilM Try.underlying26 none 0 0 w
    go_wp2_with fail
    have HBO : Hid (Blk ((w1.setCell ⟨ob, 0, none⟩ (.int .i64 0)).setCell ⟨ob, 1, none⟩ (.int .i64 0)) ob #[.int .i64 0, .int .i64 0] 48) := Lib.hid ((HOB2.out.set 0 (.int .i64 0)).set 1 (.int .i64 0))
    have HKF : Hid (Kept w ((w1.setCell ⟨ob, 0, none⟩ (.int .i64 0)).setCell ⟨ob, 1, none⟩ (.int .i64 0))) := Lib.hid ((HK2.out.set (p := ⟨ob, 0, none⟩) HSZ.out _).set (p := ⟨ob, 1, none⟩) HSZ.out _)
    clear o0 o1 f0 f1 HOB2
    generalize ((w1.setCell ⟨ob, 0, none⟩ (.int .i64 0)).setCell ⟨ob, 1, none⟩ (.int .i64 0)) = Wf at HBO HKF ⊢
    have o0 : Wf.cell? ⟨ob, 0, none⟩ = some (.int .i64 0) := by rw [HBO.out.cell]; rfl
    have o1 : Wf.cell? ⟨ob, 1, none⟩ = some (.int .i64 0) := by rw [HBO.out.cell]; rfl
    refine bodyPost_ret (v := .agg #[.int .i64 0, .int .i64 0]) (by simp [results, Try.results26, go_sem, o0, o1]) rfl ?_
    exact ⟨rfl, HKF.out⟩
set_option maxHeartbeats 2000000 in
theorem refRisen_any (g1 s1 g2 s2 : Int) (w : World) : Calls Try.prog 34 #[.agg #[.int .i64 g1, .int .i64 s1], .agg #[.int .i64 g2, .int .i64 s2]] w fun e w' => e = .returned (.bool (riB g1 s1 g2 s2)) ∧ Kept w w' := by
  have HK := Lib.hid (((Upd.refl (fun _ => False) w).alloc (.cells #[.int .i64 g1, .int .i64 s1] 48)).alloc (.cells #[.int .i64 g2, .int .i64 s2] 48))
  have HA := Lib.hid ((Blk.new w #[.int .i64 g1, .int .i64 s1] 48).alloc (.cells #[.int .i64 g2, .int .i64 s2] 48))
  have HB := Lib.hid (Blk.new (w.alloc (.cells #[.int .i64 g1, .int .i64 s1] 48)) #[.int .i64 g2, .int .i64 s2] 48)
  have HR : Hid (riB g1 s1 g2 s2 = (decide (g1 < g2) || (decide (g2 = g1) && decide (s1 < s2)))) := Lib.hid (by
    unfold riB
    by_cases a : g1 < g2
    · simp [a]
    · by_cases b : g1 = g2
      · simp [b]
      · have : ¬ g2 = g1 := fun h => b h.symm
        simp [a, b, this])
  rw [HR.out]
  clear HR
  obtain ⟨x, hx⟩ : ∃ x, decide (g1 < g2) = x := ⟨_, rfl⟩
  obtain ⟨y, hy⟩ : ∃ y, decide (g2 = g1) = y := ⟨_, rfl⟩
  have hy2 : (g2 == g1) = y := hy
  obtain ⟨z, hz⟩ : ∃ z, decide (s1 < s2) = z := ⟨_, rfl⟩
  rw [hx, hy, hz]
  go_enter Try.func34, Try.ntmps34
  rw [World.size_alloc] at HB
  go_upto_region 1 with (fail)
  generalize ((w.alloc (.cells #[.int .i64 g1, .int .i64 s1] 48)).alloc (.cells #[.int .i64 g2, .int .i64 s2] 48)) = W0 at HK HA HB ⊢
  have ax := HA.out.cell
  have bx := HB.out.cell
  cases x <;> cases y
  all_goals
    go_wp2_with fail
    go_ret
    exact ⟨rfl, HK.out⟩
end Go.Proofs.Yticeionjlknlcaa
/- acequiaref20.Reached and Mark (printed by gen_refmark.py). -/
namespace Go.Proofs.Yticeionjlknlcaa
set_option linter.unusedVariables false
set_option linter.unusedSimpArgs false
open Go.RowKit
attribute [local go_sem] cell?_ext

set_option maxRecDepth 100000 in
set_option maxHeartbeats 8000000 in
theorem refReached_ok (N S T : Int) (n m : Nat) (a3 a4 a5 a6 a7 a8 : Option Addr) (c3 c4 c5 c6 c7 c8 : Nat) (ys : List Ar) (ra : Option Addr) (rc : Nat) (rs : List Int) (w : World) (hg : Gr N S T n m ys) (hrm : rs.length = m) (hcr : CsrR w n ys a3 a4 a5 a6 a7 a8) (hr : Rd w ra (lv rs)) (hso : SomeOr ra m rc) :
    Calls Try.prog 32 #[.agg #[.int .i64 N, .int .i64 S, .int .i64 T, .slice a3 (n + 1) c3, .slice a4 m c4, .slice a5 m c5, .slice a6 m c6, .slice a7 m c7, .slice a8 m c8], .slice ra m rc] w (ReachEnd w N S T n m ys rs) := by
  have HX := fun (w : World) (hcr : CsrR w n ys a3 a4 a5 a6 a7 a8) (hr : Rd w ra (lv rs)) => Lib.hid (show Calls Try.prog 31 #[.agg #[.int .i64 N, .int .i64 S, .int .i64 T, .slice a3 (n + 1) c3, .slice a4 m c4, .slice a5 m c5, .slice a6 m c6, .slice a7 m c7, .slice a8 m c8], .slice ra m rc, .int .i64 1] w (RefExEnd w N S T n m ys rs) from refExact_ok N S T n m a3 a4 a5 a6 a7 a8 c3 c4 c5 c6 c7 c8 ys ra rc rs 1 w hg hrm hcr hr (by omega) (by omega) hso)
  have hn16 : n ≤ 16 := by have := hg.len; omega
  have hA := (Upd.refl (fun _ => False) w).alloc (.cells #[.int .i64 N, .int .i64 S, .int .i64 T, .slice a3 (n + 1) c3, .slice a4 m c4, .slice a5 m c5, .slice a6 m c6, .slice a7 m c7, .slice a8 m c8] 29)
  have HK1 : Hid (Kept w (w.alloc (.cells #[.int .i64 N, .int .i64 S, .int .i64 T, .slice a3 (n + 1) c3, .slice a4 m c4, .slice a5 m c5, .slice a6 m c6, .slice a7 m c7, .slice a8 m c8] 29))) := Lib.hid hA
  have HC1 := Lib.hid (HX _ (hcr.kept hA) (hr.kept hA)).out
  have HCB : Hid (Blk (w.alloc (.cells #[.int .i64 N, .int .i64 S, .int .i64 T, .slice a3 (n + 1) c3, .slice a4 m c4, .slice a5 m c5, .slice a6 m c6, .slice a7 m c7, .slice a8 m c8] 29)) w.heap.size #[.int .i64 N, .int .i64 S, .int .i64 T, .slice a3 (n + 1) c3, .slice a4 m c4, .slice a5 m c5, .slice a6 m c6, .slice a7 m c7, .slice a8 m c8] 29) := Lib.hid (Blk.new w _ _)
  clear hg hrm hcr hr hA HX
  go_enter Try.func32, Try.ntmps32
  go_wp2_with fail
  change Calls _ _ _ (w.alloc (.cells #[.int .i64 N, .int .i64 S, .int .i64 T, .slice a3 (n + 1) c3, .slice a4 m c4, .slice a5 m c5, .slice a6 m c6, .slice a7 m c7, .slice a8 m c8] 29)) _
  refine HC1.out.mono ?_
  rintro e w1 ⟨xb, xc0, X, rfl, hX, hB, -, hk⟩
  have HK2 : Hid (Kept w w1) := Lib.hid (HK1.out.trans hk)
  have HCB2 := Lib.hid (HCB.out.kept hk)
  have HXL := Lib.hid hX
  have HXB := Lib.hid hB
  have HXN : Hid (X.length = n) := Lib.hid hX.len
  clear hX hB hk HK1 HCB HC1
  generalize w.heap.size = cb at HCB2 ⊢
  go_wp2_with fail
  go_loopw [6, 7] (fun y z wr => ∃ (k : Nat) (oa : Option Addr) (oc : Nat), y = .slice oa k oc ∧ z = .int .i64 k ∧ k ≤ n ∧ Hid (wr.ownsRow w1.heap.size 4 1 (.slice oa k oc) k ((rcL N (X.take k)).map Value.bool)) ∧ Hid (Kept w1 wr)) (fun _ z _ => n - (intOf z).toNat)
  case atStart => exact ⟨0, none, 0, rfl, rfl, by omega, Lib.hid (by simpa [rcL] using World.ownsRow_nil _ _ _ _), Lib.hid (Upd.refl _ _)⟩
  case round =>
    obtain ⟨k, oa, oc, rfl, rfl, hk, HO, HK⟩ := hrel
    have bx := (HCB2.out.kept HK.out).cell
    by_cases hik : k < n
    · obtain ⟨xb', xo, ex, xc⟩ := (HXB.out.kept HK.out).num (i := k) (by rw [HXN.out]; exact hik)
      cases ex
      rw [Nat.zero_add] at xc
      have HNX := Lib.hid (rcL_next (N := N) (X := X) (k := k) (by rw [HXN.out]; exact hik))
      obtain ⟨xv, hxv⟩ : ∃ xv, X.getD k 0 = xv := ⟨_, rfl⟩
      rw [hxv] at xc HNX
      have HXV := Lib.hid hxv
      clear hxv
      obtain ⟨z, hz⟩ : ∃ z, decide (xv < N) = z := ⟨_, rfl⟩
      rw [hz] at HNX
      have i1 : (0 : Int) ≤ (k : Int) := by omega
      have i2 : (k : Int) < (n : Int) := by omega
      obtain ⟨i0, hi0, hz0, hz1, hz2⟩ := info_parts infoBoolG
      have hbs := HK.out.size
      go_upto_region 6 with (fail)
      have C0 : ((∀ i, wr.drew.cell? ⟨cb, i, none⟩ = (#[.int .i64 N, .int .i64 S, .int .i64 T, .slice a3 (n + 1) c3, .slice a4 m c4, .slice a5 m c5, .slice a6 m c6, .slice a7 m c7, .slice a8 m c8] : Array Value)[i]?) ∧ wr.drew.cell? ⟨xb, k, none⟩ = some (.int .i64 xv)) := ⟨bx, xc⟩
      have hal := (Upd.refl (fun _ => False) wr).drew.alloc (.cells #[.bool z] 4)
      have C1 : ((∀ i, (wr.drew.alloc (.cells #[.bool z] 4)).cell? ⟨cb, i, none⟩ = (#[.int .i64 N, .int .i64 S, .int .i64 T, .slice a3 (n + 1) c3, .slice a4 m c4, .slice a5 m c5, .slice a6 m c6, .slice a7 m c7, .slice a8 m c8] : Array Value)[i]?) ∧ (wr.drew.alloc (.cells #[.bool z] 4)).cell? ⟨xb, k, none⟩ = some (.int .i64 xv)) := ⟨((HCB2.out.kept HK.out).kept hal).cell, by obtain ⟨_, _, ex, xc⟩ := (HXB.out.kept (HK.out.trans hal)).num (i := k) (by rw [HXN.out]; exact hik); cases ex; rw [Nat.zero_add, HXV.out] at xc; exact xc⟩
      have ho : ((wr.drew.alloc (.cells #[.bool z] 4))).ownsRow w1.heap.size 4 1 (.slice oa k oc) k ((rcL N (X.take k)).map Value.bool) := ownsRow_upd HO.out hal (fun _ _ f => f)
      have hnews : ∀ (j : Nat) (u : Value), [Value.bool z][j]? = some u → ((wr.drew.alloc (.cells #[.bool z] 4))).cell? ((⟨wr.drew.heap.size, 0, none⟩ : Addr).add j) = some u := fun j u hu => by
        rw [add_off, Nat.zero_add, (Blk.new wr.drew #[.bool z] 4).cell, ← hu]
        simp
      have hbs2 : w1.heap.size ≤ ((wr.drew.alloc (.cells #[.bool z] 4))).heap.size := by have h1 := hal.size; exact Nat.le_trans hbs h1
      go_region_held3 (fun w' => ((∀ i, w'.cell? ⟨cb, i, none⟩ = (#[.int .i64 N, .int .i64 S, .int .i64 T, .slice a3 (n + 1) c3, .slice a4 m c4, .slice a5 m c5, .slice a6 m c6, .slice a7 m c7, .slice a8 m c8] : Array Value)[i]?) ∧ w'.cell? ⟨xb, k, none⟩ = some (.int .i64 xv)))
        (first | exact C0 | exact C1 | exact C2)
        ((refine step_append_own (o := ⟨some 26, _, _, _, _, none⟩) rfl (.tmp 17) (.tmp 25) 27 rfl w1.heap.size 4 i0 (.bool false) 1 1 Try.underlying27 hi0 hz0 hz1 hz2 rfl (by decide) (.slice oa k oc) k ((rcL N (X.take k)).map Value.bool) (by simp [Act.eval, Act.put]) ho ⟨wr.drew.heap.size, 0, none⟩ 1 1 [.bool z] (by simp [Act.eval, Act.put]) rfl hnews (by simp [Value.oneCell']) (k + 1) rfl (by omega) (by unfold maxLen; omega) (by omega) hbs2 ?_; intro gg cap' w7 hown hgrow; have hU : Upd (fun i => w1.heap.size ≤ i) ((wr.drew.alloc (.cells #[.bool z] 4))) w7 := Upd.grown (Upd.refl _ _) hgrow (fun i hi => .inl (World.ownsRow.lt ho i hi).1); have HK3 : Hid (Kept w1 w7) := Lib.hid ((HK.out.trans hal).then hU (fun i hi he => by omega)); have HO3 : Hid (w7.ownsRow w1.heap.size 4 1 (.slice (some ⟨gg, 0, none⟩) (k + 1) cap') (k + 1) ((rcL N (X.take (k + 1))).map Value.bool)) := Lib.hid (by rw [HNX.out, List.map_append]; exact hown); have C2 : ((∀ i, w7.cell? ⟨cb, i, none⟩ = (#[.int .i64 N, .int .i64 S, .int .i64 T, .slice a3 (n + 1) c3, .slice a4 m c4, .slice a5 m c5, .slice a6 m c6, .slice a7 m c7, .slice a8 m c8] : Array Value)[i]?) ∧ w7.cell? ⟨xb, k, none⟩ = some (.int .i64 xv)) := ⟨(HCB2.out.kept HK3.out).cell, (by obtain ⟨_, _, ex, xc⟩ := (HXB.out.kept HK3.out).num (i := k) (by rw [HXN.out]; exact hik); cases ex; rw [Nat.zero_add, HXV.out] at xc; exact xc)⟩; clear hown hgrow hU))
      clear HXV C0 C1 C2 hal ho hnews hbs2 HO HK HNX bx xc hz
      go_wp2_with fail
      go_roundw
      case rel => exact ⟨k + 1, _, _, rfl, by go_num, by omega, HO3, HK3⟩
      case measure => simp [intOf]; omega
    · obtain rfl : n = k := by omega
      have HTA : Hid (X.take n = X) := Lib.hid (List.take_of_length_le (by rw [HXN.out]; exact Nat.le_refl _))
      go_wp2_with fail
      go_ret
      exact ⟨oa, oc, X, rfl, HXL.out, by
        obtain ⟨a', c', e, hr⟩ := Rd.owns HO.out
        cases e
        rwa [HTA.out] at hr, fun ad e => by
        have h1 := (World.ownsRow.lt HO.out ad.block (by rw [e]; rfl)).1
        have h2 := HK2.out.size
        omega, HK2.out.trans HK.out⟩
set_option maxRecDepth 100000 in
set_option maxHeartbeats 4000000 in
theorem refMark_ok (N S T : Int) (n m : Nat) (a3 a4 a5 a6 a7 a8 : Option Addr) (c3 c4 c5 c6 c7 c8 : Nat) (ys : List Ar) (ra : Option Addr) (rc : Nat) (rs : List Int) (ea : Option Addr) (ec : Nat) (es : List Int) (za : Option Addr) (zl zc : Nat) (w : World) (hg : Gr N S T n m ys) (hrm : rs.length = m) (hcr : CsrR w n ys a3 a4 a5 a6 a7 a8) (hr : Rd w ra (lv rs)) (he : Rd w ea (lv es)) (hen : es.length = n) (hso : SomeOr ra m rc) :
    Calls Try.prog 33 #[.agg #[.int .i64 N, .int .i64 S, .int .i64 T, .slice a3 (n + 1) c3, .slice a4 m c4, .slice a5 m c5, .slice a6 m c6, .slice a7 m c7, .slice a8 m c8], .agg #[.slice ra m rc, .slice ea n ec, .slice za zl zc]] w (MarkEnd w N S T n m ys rs es) := by
  have HX := fun (w : World) (hcr : CsrR w n ys a3 a4 a5 a6 a7 a8) (hr : Rd w ra (lv rs)) => Lib.hid (show Calls Try.prog 31 #[.agg #[.int .i64 N, .int .i64 S, .int .i64 T, .slice a3 (n + 1) c3, .slice a4 m c4, .slice a5 m c5, .slice a6 m c6, .slice a7 m c7, .slice a8 m c8], .slice ra m rc, .int .i64 1] w (RefExEnd w N S T n m ys rs) from refExact_ok N S T n m a3 a4 a5 a6 a7 a8 c3 c4 c5 c6 c7 c8 ys ra rc rs 1 w hg hrm hcr hr (by omega) (by omega) hso)
  have hn16 : n ≤ 16 := by have := hg.len; omega
  have HK1 : Hid (Kept w (((w.alloc (.cells #[.int .i64 N, .int .i64 S, .int .i64 T, .slice a3 (n + 1) c3, .slice a4 m c4, .slice a5 m c5, .slice a6 m c6, .slice a7 m c7, .slice a8 m c8] 29)).alloc (.cells #[.slice ra m rc, .slice ea n ec, .slice za zl zc] 51)).alloc (.cells #[.int .i64 0, .int .i64 0] 48))) := Lib.hid ((((Upd.refl (fun _ => False) w).alloc (.cells #[.int .i64 N, .int .i64 S, .int .i64 T, .slice a3 (n + 1) c3, .slice a4 m c4, .slice a5 m c5, .slice a6 m c6, .slice a7 m c7, .slice a8 m c8] 29)).alloc (.cells #[.slice ra m rc, .slice ea n ec, .slice za zl zc] 51)).alloc (.cells #[.int .i64 0, .int .i64 0] 48))
  have HCB : Hid (Blk (((w.alloc (.cells #[.int .i64 N, .int .i64 S, .int .i64 T, .slice a3 (n + 1) c3, .slice a4 m c4, .slice a5 m c5, .slice a6 m c6, .slice a7 m c7, .slice a8 m c8] 29)).alloc (.cells #[.slice ra m rc, .slice ea n ec, .slice za zl zc] 51)).alloc (.cells #[.int .i64 0, .int .i64 0] 48)) w.heap.size #[.int .i64 N, .int .i64 S, .int .i64 T, .slice a3 (n + 1) c3, .slice a4 m c4, .slice a5 m c5, .slice a6 m c6, .slice a7 m c7, .slice a8 m c8] 29) := Lib.hid (((Blk.new w _ _).alloc _).alloc _)
  have HPB : Hid (Blk (((w.alloc (.cells #[.int .i64 N, .int .i64 S, .int .i64 T, .slice a3 (n + 1) c3, .slice a4 m c4, .slice a5 m c5, .slice a6 m c6, .slice a7 m c7, .slice a8 m c8] 29)).alloc (.cells #[.slice ra m rc, .slice ea n ec, .slice za zl zc] 51)).alloc (.cells #[.int .i64 0, .int .i64 0] 48)) (w.alloc (.cells #[.int .i64 N, .int .i64 S, .int .i64 T, .slice a3 (n + 1) c3, .slice a4 m c4, .slice a5 m c5, .slice a6 m c6, .slice a7 m c7, .slice a8 m c8] 29)).heap.size #[.slice ra m rc, .slice ea n ec, .slice za zl zc] 51) := Lib.hid ((Blk.new _ _ _).alloc _)
  have HOB : Hid (Blk (((w.alloc (.cells #[.int .i64 N, .int .i64 S, .int .i64 T, .slice a3 (n + 1) c3, .slice a4 m c4, .slice a5 m c5, .slice a6 m c6, .slice a7 m c7, .slice a8 m c8] 29)).alloc (.cells #[.slice ra m rc, .slice ea n ec, .slice za zl zc] 51)).alloc (.cells #[.int .i64 0, .int .i64 0] 48)) ((w.alloc (.cells #[.int .i64 N, .int .i64 S, .int .i64 T, .slice a3 (n + 1) c3, .slice a4 m c4, .slice a5 m c5, .slice a6 m c6, .slice a7 m c7, .slice a8 m c8] 29)).alloc (.cells #[.slice ra m rc, .slice ea n ec, .slice za zl zc] 51)).heap.size #[.int .i64 0, .int .i64 0] 48) := Lib.hid (Blk.new _ _ _)
  have HC1 := Lib.hid (HX _ (hcr.kept HK1.out) (hr.kept HK1.out)).out
  have HE := Lib.hid (he.kept HK1.out)
  have HEN := Lib.hid hen
  have HG := Lib.hid hg
  clear hg hrm hcr hr he hen HX
  go_enter Try.func33, Try.ntmps33
  go_wp2_with fail
  change Calls _ _ _ (((w.alloc (.cells #[.int .i64 N, .int .i64 S, .int .i64 T, .slice a3 (n + 1) c3, .slice a4 m c4, .slice a5 m c5, .slice a6 m c6, .slice a7 m c7, .slice a8 m c8] 29)).alloc (.cells #[.slice ra m rc, .slice ea n ec, .slice za zl zc] 51)).alloc (.cells #[.int .i64 0, .int .i64 0] 48)) _
  refine HC1.out.mono ?_
  rintro e w1 ⟨xb, xc0, X, rfl, hX, hB, -, hk⟩
  have HK2 : Hid (Kept w w1) := Lib.hid (HK1.out.trans hk)
  have HCB2 := Lib.hid (HCB.out.kept hk)
  have HPB2 := Lib.hid (HPB.out.kept hk)
  have HOB2 := Lib.hid (HOB.out.kept hk)
  have HE2 := Lib.hid (HE.out.kept hk)
  have HXL := Lib.hid hX
  have HXB := Lib.hid hB
  have HXN : Hid (X.length = n) := Lib.hid hX.len
  have HXI : Hid (∀ x ∈ X, 0 ≤ x ∧ x ≤ 16) := Lib.hid (fun x hx => by
    have h1 := (right_parts.1 (low_right HG.out (allN_right20 HG.out) hX)).2.1 x hx
    have := HG.out.len
    omega)
  clear hX hB hk HK1 HCB HPB HOB HE HC1
  have hs1 : (w.alloc (.cells #[.int .i64 N, .int .i64 S, .int .i64 T, .slice a3 (n + 1) c3, .slice a4 m c4, .slice a5 m c5, .slice a6 m c6, .slice a7 m c7, .slice a8 m c8] 29)).heap.size = w.heap.size + 1 := World.size_alloc _ _
  have hs2 : ((w.alloc (.cells #[.int .i64 N, .int .i64 S, .int .i64 T, .slice a3 (n + 1) c3, .slice a4 m c4, .slice a5 m c5, .slice a6 m c6, .slice a7 m c7, .slice a8 m c8] 29)).alloc (.cells #[.slice ra m rc, .slice ea n ec, .slice za zl zc] 51)).heap.size = w.heap.size + 1 + 1 := by rw [← hs1]; exact World.size_alloc _ _
  rw [hs2] at HOB2
  rw [hs1] at HPB2
  clear hs1 hs2
  generalize hcb : w.heap.size = cb at HCB2 HPB2 HOB2 ⊢
  have HOBL : Hid (w.heap.size ≤ cb + 1 + 1) := Lib.hid (by omega)
  clear hcb
  generalize cb + 1 + 1 = ob at HOB2 HOBL ⊢
  generalize cb + 1 = pb at HPB2 ⊢
  obtain ⟨hT0, hT1⟩ : 0 ≤ T ∧ T < (n : Int) := by have := HG.out.len; omega
  obtain ⟨eb, eo, rfl, ec0⟩ := HE2.out.num (i := T.toNat) (by rw [HEN.out]; omega)
  have hnN : ((n : Int) != N) = false := by have := HG.out.len.1; simp [this]
  have hn0 : ((n : Int) == 0) = false := by have := HG.out.len; simp; omega
  have HNN : Hid (N = (n : Int)) := Lib.hid (by have := HG.out.len.1; omega)
  have bx := HCB2.out.cell
  have px := HPB2.out.cell
  clear ec0
  go_upto_region 6 with (fail)
  clear bx px
  go_loopw [6, 7] (fun y z wr => ∃ k : Nat, y = .int .i64 (X.take k).sum ∧ z = .int .i64 k ∧ k ≤ n ∧ Hid (Kept w1 wr)) (fun _ z _ => n - (intOf z).toNat)
  case atStart => exact ⟨0, by rw [List.take_zero, List.sum_nil], rfl, by omega, Lib.hid (Upd.refl _ _)⟩
  case round =>
    obtain ⟨k, rfl, rfl, hk, HKV⟩ := hrel
    have bx := (HCB2.out.kept HKV.out).cell
    have px := (HPB2.out.kept HKV.out).cell
    by_cases hik : k < n
    · have i1 : (0 : Int) ≤ (k : Int) := by omega
      have i2 : (k : Int) < (n : Int) := by omega
      have i3 : decide ((k : Int) < N) = true := by rw [HNN.out]; simpa using i2
      have i4 : (k : Int) < N := by simpa using i3
      obtain ⟨xb', xo, ex, xc⟩ := (HXB.out.kept HKV.out).num (i := k) (by rw [HXN.out]; exact hik)
      cases ex
      rw [Nat.zero_add] at xc
      have HNX := Lib.hid (take_next (X := X) (k := k) (by rw [HXN.out]; exact hik))
      have hw := show wrap64 ((X.take k).sum + X.getD k 0) = (X.take (k + 1)).sum by
        have h1 := take_bd HXI.out (k + 1) (by rw [HXN.out]; exact hik)
        have h2 := HNX.out
        unfold wrap64
        omega
      obtain ⟨s1, hs1⟩ : ∃ s, (X.take (k + 1)).sum = s := ⟨_, rfl⟩
      have HE1 := Lib.hid hs1
      rw [hs1] at hw
      clear hs1
      generalize (X.take k).sum = s0 at hw
      generalize X.getD k 0 = xv at hw xc
      clear HNX
      go_wp2_with fail
      go_roundw
      case rel => exact ⟨k + 1, by rw [HE1.out, hw], by go_num, by omega, HKV⟩
      case measure => simp [intOf]; omega
    · obtain rfl : n = k := by omega
      have i3 : decide ((n : Int) < N) = false := by rw [HNN.out]; simp
      have i4 : ¬ (n : Int) < N := by simpa using i3
      have HTA : Hid (X.take n = X) := Lib.hid (List.take_of_length_le (by rw [HXN.out]; exact Nat.le_refl _))
      rw [HTA.out]
      obtain ⟨eb', eo', ex, ec0⟩ := (HE2.out.kept HKV.out).num (i := T.toNat) (by rw [HEN.out]; omega)
      cases ex
      obtain ⟨et, het⟩ : ∃ et, es.getD T.toNat 0 = et := ⟨_, rfl⟩
      rw [het] at ec0
      have HET := Lib.hid het
      clear het
      have HO2 := Lib.hid (HOB2.out.kept HKV.out)
      have HK9 : Hid (Kept w wr) := Lib.hid (HK2.out.trans HKV.out)
      have f0 := HO2.out.free 0
      have f1 := HO2.out.free 1
      have ox := HO2.out.cell
      generalize hXs : X.sum = xs
      have HXS := Lib.hid hXs
      clear hXs
      go_wp2_with fail
      have HBO : Hid (Blk ((wr.setCell ⟨ob, 0, none⟩ (.int .i64 et)).setCell ⟨ob, 1, none⟩ (.int .i64 xs)) ob #[.int .i64 et, .int .i64 xs] 48) := Lib.hid ((HO2.out.set 0 (.int .i64 et)).set 1 (.int .i64 xs))
      have HKF : Hid (Kept w ((wr.setCell ⟨ob, 0, none⟩ (.int .i64 et)).setCell ⟨ob, 1, none⟩ (.int .i64 xs))) := Lib.hid ((HK9.out.set (p := ⟨ob, 0, none⟩) HOBL.out _).set (p := ⟨ob, 1, none⟩) HOBL.out _)
      clear HO2 ox f0 f1
      generalize ((wr.setCell ⟨ob, 0, none⟩ (.int .i64 et)).setCell ⟨ob, 1, none⟩ (.int .i64 xs)) = Wf at HBO HKF ⊢
      have o0 : Wf.cell? ⟨ob, 0, none⟩ = some (.int .i64 et) := by rw [HBO.out.cell]; rfl
      have o1 : Wf.cell? ⟨ob, 1, none⟩ = some (.int .i64 xs) := by rw [HBO.out.cell]; rfl
      refine bodyPost_ret (v := .agg #[.int .i64 et, .int .i64 xs]) (by simp [results, Try.results33, go_sem, o0, o1]) rfl ?_
      exact ⟨X, by rw [HXS.out, HET.out], HXL.out, HKF.out⟩
set_option maxRecDepth 100000 in
set_option maxHeartbeats 4000000 in
theorem refMark_no (N S T : Int) (n m : Nat) (a3 a4 a5 a6 a7 a8 : Option Addr) (c3 c4 c5 c6 c7 c8 : Nat) (ys : List Ar) (ra : Option Addr) (rl rc : Nat) (rs : List Int) (ea : Option Addr) (el ec : Nat) (za : Option Addr) (zl zc : Nat) (w : World) (hg : Gr N S T n m ys) (hrm : rs.length = rl) (hcr : CsrR w n ys a3 a4 a5 a6 a7 a8) (hr : Rd w ra (lv rs)) (hz : (decide (rl = m) && decide (el = n)) = false) (hso : SomeOr ra rl rc) :
    Calls Try.prog 33 #[.agg #[.int .i64 N, .int .i64 S, .int .i64 T, .slice a3 (n + 1) c3, .slice a4 m c4, .slice a5 m c5, .slice a6 m c6, .slice a7 m c7, .slice a8 m c8], .agg #[.slice ra rl rc, .slice ea el ec, .slice za zl zc]] w fun e w' => e = .returned (.agg #[.int .i64 0, .int .i64 0]) ∧ Kept w w' := by
  have hln := hg.len
  have hN : 2 ≤ N := by omega
  have HK1 : Hid (Kept w (((w.alloc (.cells #[.int .i64 N, .int .i64 S, .int .i64 T, .slice a3 (n + 1) c3, .slice a4 m c4, .slice a5 m c5, .slice a6 m c6, .slice a7 m c7, .slice a8 m c8] 29)).alloc (.cells #[.slice ra rl rc, .slice ea el ec, .slice za zl zc] 51)).alloc (.cells #[.int .i64 0, .int .i64 0] 48))) := Lib.hid ((((Upd.refl (fun _ => False) w).alloc (.cells #[.int .i64 N, .int .i64 S, .int .i64 T, .slice a3 (n + 1) c3, .slice a4 m c4, .slice a5 m c5, .slice a6 m c6, .slice a7 m c7, .slice a8 m c8] 29)).alloc (.cells #[.slice ra rl rc, .slice ea el ec, .slice za zl zc] 51)).alloc (.cells #[.int .i64 0, .int .i64 0] 48))
  have HCB : Hid (Blk (((w.alloc (.cells #[.int .i64 N, .int .i64 S, .int .i64 T, .slice a3 (n + 1) c3, .slice a4 m c4, .slice a5 m c5, .slice a6 m c6, .slice a7 m c7, .slice a8 m c8] 29)).alloc (.cells #[.slice ra rl rc, .slice ea el ec, .slice za zl zc] 51)).alloc (.cells #[.int .i64 0, .int .i64 0] 48)) w.heap.size #[.int .i64 N, .int .i64 S, .int .i64 T, .slice a3 (n + 1) c3, .slice a4 m c4, .slice a5 m c5, .slice a6 m c6, .slice a7 m c7, .slice a8 m c8] 29) := Lib.hid (((Blk.new w _ _).alloc _).alloc _)
  have HPB : Hid (Blk (((w.alloc (.cells #[.int .i64 N, .int .i64 S, .int .i64 T, .slice a3 (n + 1) c3, .slice a4 m c4, .slice a5 m c5, .slice a6 m c6, .slice a7 m c7, .slice a8 m c8] 29)).alloc (.cells #[.slice ra rl rc, .slice ea el ec, .slice za zl zc] 51)).alloc (.cells #[.int .i64 0, .int .i64 0] 48)) (w.alloc (.cells #[.int .i64 N, .int .i64 S, .int .i64 T, .slice a3 (n + 1) c3, .slice a4 m c4, .slice a5 m c5, .slice a6 m c6, .slice a7 m c7, .slice a8 m c8] 29)).heap.size #[.slice ra rl rc, .slice ea el ec, .slice za zl zc] 51) := Lib.hid ((Blk.new _ _ _).alloc _)
  have HOB : Hid (Blk (((w.alloc (.cells #[.int .i64 N, .int .i64 S, .int .i64 T, .slice a3 (n + 1) c3, .slice a4 m c4, .slice a5 m c5, .slice a6 m c6, .slice a7 m c7, .slice a8 m c8] 29)).alloc (.cells #[.slice ra rl rc, .slice ea el ec, .slice za zl zc] 51)).alloc (.cells #[.int .i64 0, .int .i64 0] 48)) ((w.alloc (.cells #[.int .i64 N, .int .i64 S, .int .i64 T, .slice a3 (n + 1) c3, .slice a4 m c4, .slice a5 m c5, .slice a6 m c6, .slice a7 m c7, .slice a8 m c8] 29)).alloc (.cells #[.slice ra rl rc, .slice ea el ec, .slice za zl zc] 51)).heap.size #[.int .i64 0, .int .i64 0] 48) := Lib.hid (Blk.new _ _ _)
  have HXN := fun (q : ¬ rl = m) w => Lib.hid (refExact_no N S T n m a3 a4 a5 a6 a7 a8 c3 c4 c5 c6 c7 c8 ra rl rc 1 w hN (by simp [q]))
  have HXO := fun (q : rl = m) (w' : World) (k : Kept w w') => Lib.hid (show Calls Try.prog 31 #[.agg #[.int .i64 N, .int .i64 S, .int .i64 T, .slice a3 (n + 1) c3, .slice a4 m c4, .slice a5 m c5, .slice a6 m c6, .slice a7 m c7, .slice a8 m c8], .slice ra rl rc, .int .i64 1] w' (RefExEnd w' N S T n m ys rs) by
    rw [show Value.slice ra rl rc = Value.slice ra m rc by rw [q]]
    exact refExact_ok N S T n m a3 a4 a5 a6 a7 a8 c3 c4 c5 c6 c7 c8 ys ra rc rs 1 w' hg (hrm.trans q) (hcr.kept k) (hr.kept k) (by omega) (by omega) (q ▸ hso))
  have HG := Lib.hid hg
  have hs1 : (w.alloc (.cells #[.int .i64 N, .int .i64 S, .int .i64 T, .slice a3 (n + 1) c3, .slice a4 m c4, .slice a5 m c5, .slice a6 m c6, .slice a7 m c7, .slice a8 m c8] 29)).heap.size = w.heap.size + 1 := World.size_alloc _ _
  have hs2 : ((w.alloc (.cells #[.int .i64 N, .int .i64 S, .int .i64 T, .slice a3 (n + 1) c3, .slice a4 m c4, .slice a5 m c5, .slice a6 m c6, .slice a7 m c7, .slice a8 m c8] 29)).alloc (.cells #[.slice ra rl rc, .slice ea el ec, .slice za zl zc] 51)).heap.size = w.heap.size + 1 + 1 := by rw [← hs1]; exact World.size_alloc _ _
  rw [hs2] at HOB
  rw [hs1] at HPB
  clear hs1 hs2 hg hrm hcr hr hln
  go_enter Try.func33, Try.ntmps33
  go_wp2_with fail
  change Calls _ _ _ (((w.alloc (.cells #[.int .i64 N, .int .i64 S, .int .i64 T, .slice a3 (n + 1) c3, .slice a4 m c4, .slice a5 m c5, .slice a6 m c6, .slice a7 m c7, .slice a8 m c8] 29)).alloc (.cells #[.slice ra rl rc, .slice ea el ec, .slice za zl zc] 51)).alloc (.cells #[.int .i64 0, .int .i64 0] 48)) _
  by_cases q1 : rl = m
  · have q2 : ¬ el = n := by rw [decide_eq_true q1] at hz; simpa using hz
    refine (HXO q1 _ HK1.out).out.mono ?_
    rintro e w1 ⟨xb, xc, X, rfl, hX, hB, -, hk⟩
    have HK2 : Hid (Kept w w1) := Lib.hid (HK1.out.trans hk)
    have HCB2 := Lib.hid (HCB.out.kept hk)
    have HPB2 := Lib.hid (HPB.out.kept hk)
    have HOB2 := Lib.hid (HOB.out.kept hk)
    clear hX hB hk HK1 HCB HPB HOB HXO HXN
    generalize hcb : w.heap.size = cb at HCB2 HPB2 HOB2 ⊢
    have HSZ : Hid (w.heap.size ≤ cb + 1 + 1) := Lib.hid (by omega)
    clear hcb
    generalize cb + 1 + 1 = ob at HOB2 HSZ ⊢
    have bx := HCB2.out.cell
    have px := HPB2.out.cell
    have f0 := HOB2.out.free 0
    have f1 := HOB2.out.free 1
    have o0 := HOB2.out.cell 0
    have o1 := HOB2.out.cell 1
    have hnN : ((el : Int) != N) = true := by have := HG.out.len.1; simp; omega
    have hnil : ((n : Int) == 0) = false := by have := HG.out.len; simp; omega
    go_wp2_with fail
    have HBO : Hid (Blk ((w1.setCell ⟨ob, 0, none⟩ (.int .i64 0)).setCell ⟨ob, 1, none⟩ (.int .i64 0)) ob #[.int .i64 0, .int .i64 0] 48) := Lib.hid ((HOB2.out.set 0 (.int .i64 0)).set 1 (.int .i64 0))
    have HKF : Hid (Kept w ((w1.setCell ⟨ob, 0, none⟩ (.int .i64 0)).setCell ⟨ob, 1, none⟩ (.int .i64 0))) := Lib.hid ((HK2.out.set (p := ⟨ob, 0, none⟩) HSZ.out _).set (p := ⟨ob, 1, none⟩) HSZ.out _)
    clear o0 o1 f0 f1 HOB2
    generalize ((w1.setCell ⟨ob, 0, none⟩ (.int .i64 0)).setCell ⟨ob, 1, none⟩ (.int .i64 0)) = Wf at HBO HKF ⊢
    have o0 : Wf.cell? ⟨ob, 0, none⟩ = some (.int .i64 0) := by rw [HBO.out.cell]; rfl
    have o1 : Wf.cell? ⟨ob, 1, none⟩ = some (.int .i64 0) := by rw [HBO.out.cell]; rfl
    refine bodyPost_ret (v := .agg #[.int .i64 0, .int .i64 0]) (by simp [results, Try.results33, go_sem, o0, o1]) rfl ?_
    exact ⟨rfl, HKF.out⟩
  · refine (HXN q1 _).out.mono ?_
    rintro e w1 ⟨rfl, hk⟩
    have HK2 : Hid (Kept w w1) := Lib.hid (HK1.out.trans hk)
    have HCB2 := Lib.hid (HCB.out.kept hk)
    have HPB2 := Lib.hid (HPB.out.kept hk)
    have HOB2 := Lib.hid (HOB.out.kept hk)
    clear hk HK1 HCB HPB HOB HXO HXN
    generalize hcb : w.heap.size = cb at HCB2 HPB2 HOB2 ⊢
    have HSZ : Hid (w.heap.size ≤ cb + 1 + 1) := Lib.hid (by omega)
    clear hcb
    generalize cb + 1 + 1 = ob at HOB2 HSZ ⊢
    have bx := HCB2.out.cell
    have px := HPB2.out.cell
    have f0 := HOB2.out.free 0
    have f1 := HOB2.out.free 1
    have o0 := HOB2.out.cell 0
    have o1 := HOB2.out.cell 1
    
    go_wp2_with fail
    have HBO : Hid (Blk ((w1.setCell ⟨ob, 0, none⟩ (.int .i64 0)).setCell ⟨ob, 1, none⟩ (.int .i64 0)) ob #[.int .i64 0, .int .i64 0] 48) := Lib.hid ((HOB2.out.set 0 (.int .i64 0)).set 1 (.int .i64 0))
    have HKF : Hid (Kept w ((w1.setCell ⟨ob, 0, none⟩ (.int .i64 0)).setCell ⟨ob, 1, none⟩ (.int .i64 0))) := Lib.hid ((HK2.out.set (p := ⟨ob, 0, none⟩) HSZ.out _).set (p := ⟨ob, 1, none⟩) HSZ.out _)
    clear o0 o1 f0 f1 HOB2
    generalize ((w1.setCell ⟨ob, 0, none⟩ (.int .i64 0)).setCell ⟨ob, 1, none⟩ (.int .i64 0)) = Wf at HBO HKF ⊢
    have o0 : Wf.cell? ⟨ob, 0, none⟩ = some (.int .i64 0) := by rw [HBO.out.cell]; rfl
    have o1 : Wf.cell? ⟨ob, 1, none⟩ = some (.int .i64 0) := by rw [HBO.out.cell]; rfl
    refine bodyPost_ret (v := .agg #[.int .i64 0, .int .i64 0]) (by simp [results, Try.results33, go_sem, o0, o1]) rfl ?_
    exact ⟨rfl, HKF.out⟩
end Go.Proofs.Yticeionjlknlcaa
/- Of each pair of answers of chapter 20 that they are one (printed by gen_glotell.py). -/
namespace Go.Proofs.Yticeionjlknlcaa
set_option linter.unusedVariables false
set_option linter.unusedSimpArgs false
open Go.RowKit

theorem low_ex (N S T : Int) (n m : Nat) (ys : List Ar) (rs : List Int) : ∃ D : List Int, D.length ≤ n ∧ ∀ X, IsLow S n m ys rs (allN n N T) X → X = D := by
  by_cases h : ∃ X, IsLow S n m ys rs (allN n N T) X
  · obtain ⟨D, hD⟩ := h
    exact ⟨D, by rw [hD.len]; exact Nat.le_refl _, fun X hX => hX.unique hD⟩
  · exact ⟨[], by simp, fun X hX => absurd ⟨X, hX⟩ h⟩
def SlI (D : List Int) (w : World) (e : Ending) (w' : World) : Prop := ∃ a c, e = .returned (.slice a D.length c) ∧ Rd w' a (lv D) ∧ Kept w w'
def SlB (D : List Bool) (w : World) (e : Ending) (w' : World) : Prop := ∃ a c, e = .returned (.slice a D.length c) ∧ Rd w' a (D.map Value.bool) ∧ Kept w w'
def MkE (g s : Int) (w : World) (e : Ending) (w' : World) : Prop := e = .returned (.agg #[.int .i64 g, .int .i64 s]) ∧ Kept w w'
theorem rcL_len (N : Int) (X : List Int) : (rcL N X).length = X.length := by simp [rcL]
theorem exact_pair (N S T : Int) (n m : Nat) (a3 a4 a5 a6 a7 a8 : Option Addr) (c3 c4 c5 c6 c7 c8 : Nat) (ys : List Ar) (ra : Option Addr) (rl rc : Nat) (rs : List Int) (wk : Int) (hg : Gr N S T n m ys) (hrl : rs.length = rl) (hso : SomeOr ra rl rc) : ∃ D : List Int, D.length ≤ 16 ∧ ∀ w, CsrR w n ys a3 a4 a5 a6 a7 a8 → Rd w ra (lv rs) →
    Calls Try.prog 25 #[.agg #[.int .i64 N, .int .i64 S, .int .i64 T, .slice a3 (n + 1) c3, .slice a4 m c4, .slice a5 m c5, .slice a6 m c6, .slice a7 m c7, .slice a8 m c8], .slice ra rl rc, .int .i64 wk] w (SlI D w) ∧ Calls Try.prog 31 #[.agg #[.int .i64 N, .int .i64 S, .int .i64 T, .slice a3 (n + 1) c3, .slice a4 m c4, .slice a5 m c5, .slice a6 m c6, .slice a7 m c7, .slice a8 m c8], .slice ra rl rc, .int .i64 wk] w (SlI D w) := by
  have hl := hg.len
  cases hz : (decide (rl = m) && decide (1 ≤ wk) && decide (wk ≤ 64)) with
  | true =>
    simp only [Bool.and_eq_true, decide_eq_true_eq] at hz
    obtain ⟨⟨h1, h2⟩, h3⟩ := hz
    obtain rfl : m = rl := h1.symm
    obtain ⟨j, rfl⟩ : ∃ j : Nat, wk = (j : Int) := ⟨wk.toNat, by omega⟩
    obtain ⟨D, h5, h6⟩ := low_ex N S T n m ys rs
    refine ⟨D, by omega, fun w hc hr => ⟨?_, ?_⟩⟩
    · refine (exact_ok N S T n m a3 a4 a5 a6 a7 a8 c3 c4 c5 c6 c7 c8 ys ra rc rs j w hg hrl hc hr (by omega) (by omega)).mono ?_
      rintro e w' ⟨g, X, rfl, hX, hB, -, hk⟩
      rw [← h6 X hX]
      exact ⟨_, n, by rw [hX.len], Rd.blk hB, hk⟩
    · refine (refExact_ok N S T n m a3 a4 a5 a6 a7 a8 c3 c4 c5 c6 c7 c8 ys ra rc rs j w hg hrl hc hr (by omega) (by omega) hso).mono ?_
      rintro e w' ⟨g, c, X, rfl, hX, hB, -, hk⟩
      rw [← h6 X hX]
      exact ⟨_, c, by rw [hX.len], hB, hk⟩
  | false =>
    refine ⟨[], by simp, fun w hc hr => ⟨?_, ?_⟩⟩
    · exact (exact_no N S T n m a3 a4 a5 a6 a7 a8 c3 c4 c5 c6 c7 c8 ra rl rc wk w (by omega) hz).mono fun e w' ⟨h1, h2⟩ => ⟨none, 0, h1, .inl rfl, h2⟩
    · exact (refExact_no N S T n m a3 a4 a5 a6 a7 a8 c3 c4 c5 c6 c7 c8 ra rl rc wk w (by omega) hz).mono fun e w' ⟨h1, h2⟩ => ⟨none, 0, h1, .inl rfl, h2⟩
theorem reached_pair (N S T : Int) (n m : Nat) (a3 a4 a5 a6 a7 a8 : Option Addr) (c3 c4 c5 c6 c7 c8 : Nat) (ys : List Ar) (ra : Option Addr) (rl rc : Nat) (rs : List Int) (hg : Gr N S T n m ys) (hrl : rs.length = rl) (hso : SomeOr ra rl rc) : ∃ D : List Bool, D.length ≤ 16 ∧ ∀ w, CsrR w n ys a3 a4 a5 a6 a7 a8 → Rd w ra (lv rs) →
    Calls Try.prog 29 #[.agg #[.int .i64 N, .int .i64 S, .int .i64 T, .slice a3 (n + 1) c3, .slice a4 m c4, .slice a5 m c5, .slice a6 m c6, .slice a7 m c7, .slice a8 m c8], .slice ra rl rc] w (SlB D w) ∧ Calls Try.prog 32 #[.agg #[.int .i64 N, .int .i64 S, .int .i64 T, .slice a3 (n + 1) c3, .slice a4 m c4, .slice a5 m c5, .slice a6 m c6, .slice a7 m c7, .slice a8 m c8], .slice ra rl rc] w (SlB D w) := by
  have hl := hg.len
  by_cases h1 : rl = m
  · obtain rfl : m = rl := h1.symm
    obtain ⟨D, h5, h6⟩ := low_ex N S T n m ys rs
    refine ⟨rcL N D, by rw [rcL_len]; omega, fun w hc hr => ⟨?_, ?_⟩⟩
    · refine (reached_ok N S T n m a3 a4 a5 a6 a7 a8 c3 c4 c5 c6 c7 c8 ys ra rc rs w hg hrl hc hr).mono ?_
      rintro e w' ⟨a, c, X, rfl, hX, hB, -, hk⟩
      rw [← h6 X hX]
      exact ⟨_, c, by rw [rcL_len, hX.len], hB, hk⟩
    · refine (refReached_ok N S T n m a3 a4 a5 a6 a7 a8 c3 c4 c5 c6 c7 c8 ys ra rc rs w hg hrl hc hr hso).mono ?_
      rintro e w' ⟨a, c, X, rfl, hX, hB, -, hk⟩
      rw [← h6 X hX]
      exact ⟨_, c, by rw [rcL_len, hX.len], hB, hk⟩
  · refine ⟨[], by simp, fun w hc hr => ⟨?_, ?_⟩⟩
    · exact (reached_no N S T n m a3 a4 a5 a6 a7 a8 c3 c4 c5 c6 c7 c8 ra rl rc w (by omega) h1).mono fun e w' ⟨h1, h2⟩ => ⟨none, 0, h1, .inl rfl, h2⟩
    · exact (refReached_no N S T n m a3 a4 a5 a6 a7 a8 c3 c4 c5 c6 c7 c8 ra rl rc w (by omega) h1).mono fun e w' ⟨h1, h2⟩ => ⟨none, 0, h1, .inl rfl, h2⟩
theorem mark_pair (N S T : Int) (n m : Nat) (a3 a4 a5 a6 a7 a8 : Option Addr) (c3 c4 c5 c6 c7 c8 : Nat) (ys : List Ar) (ra : Option Addr) (rl rc : Nat) (rs : List Int) (ea : Option Addr) (el ec : Nat) (es : List Int) (hg : Gr N S T n m ys) (hrl : rs.length = rl) (hso : SomeOr ra rl rc) (hel : es.length = el) : ∃ g s : Int, ∀ w, CsrR w n ys a3 a4 a5 a6 a7 a8 → Rd w ra (lv rs) → Rd w ea (lv es) →
    Calls Try.prog 26 #[.agg #[.int .i64 N, .int .i64 S, .int .i64 T, .slice a3 (n + 1) c3, .slice a4 m c4, .slice a5 m c5, .slice a6 m c6, .slice a7 m c7, .slice a8 m c8], .agg #[.slice ra rl rc, .slice ea el ec, .slice none 0 0]] w (MkE g s w) ∧ Calls Try.prog 33 #[.agg #[.int .i64 N, .int .i64 S, .int .i64 T, .slice a3 (n + 1) c3, .slice a4 m c4, .slice a5 m c5, .slice a6 m c6, .slice a7 m c7, .slice a8 m c8], .agg #[.slice ra rl rc, .slice ea el ec, .slice none 0 0]] w (MkE g s w) := by
  have hl := hg.len
  cases hz : (decide (rl = m) && decide (el = n)) with
  | true =>
    simp only [Bool.and_eq_true, decide_eq_true_eq] at hz
    obtain ⟨h1, h2⟩ := hz
    obtain rfl : m = rl := h1.symm
    obtain rfl : n = el := h2.symm
    obtain ⟨D, h5, h6⟩ := low_ex N S T n m ys rs
    refine ⟨es.getD T.toNat 0, D.sum, fun w hc hr he => ⟨?_, ?_⟩⟩
    · refine (mark_ok N S T n m a3 a4 a5 a6 a7 a8 c3 c4 c5 c6 c7 c8 ys ra rc rs ea ec es none 0 0 w hg hrl hc hr he hel).mono ?_
      rintro e w' ⟨X, rfl, hX, hk⟩
      rw [← h6 X hX]
      exact ⟨rfl, hk⟩
    · refine (refMark_ok N S T n m a3 a4 a5 a6 a7 a8 c3 c4 c5 c6 c7 c8 ys ra rc rs ea ec es none 0 0 w hg hrl hc hr he hel hso).mono ?_
      rintro e w' ⟨X, rfl, hX, hk⟩
      rw [← h6 X hX]
      exact ⟨rfl, hk⟩
  | false =>
    refine ⟨0, 0, fun w hc hr he => ⟨?_, ?_⟩⟩
    · exact mark_no N S T n m a3 a4 a5 a6 a7 a8 c3 c4 c5 c6 c7 c8 ys ra rl rc rs ea el ec none 0 0 w hg hrl hc hr hz
    · exact refMark_no N S T n m a3 a4 a5 a6 a7 a8 c3 c4 c5 c6 c7 c8 ys ra rl rc rs ea el ec none 0 0 w hg hrl hc hr hz hso
end Go.Proofs.Yticeionjlknlcaa
/- Slices of numbers that came in: how great they may be. A long slice, copied. No program in sight. -/
namespace Go.Proofs.Yticeionjlknlcaa
set_option linter.unusedVariables false
open Go.RowKit Go.ChangeShapes Go.WideShapes Go.ChangeAt
section
variable {P : Program} {H : Type} {enc : TypeId × Value → H} {w : World}
/-- A slice of numbers of 8 bytes that came in: it has a block, or nothing; and it fits a machine. -/
theorem intRow_big {t e : TypeId} {ts : List TypeId} {ds : List (DataW H)} (hsz : (DataW.weightsEach P ts ds).all (· ≤ reachBytes) = true) {j : Nat} (htj : ts[j]? = some t) {d : DataW H} (hdj : ds[j]? = some d) (ht : P.underlying t = some (.slice e)) (he : P.underlying e = some (.int .i64)) (hc : P.cellsOf e = 1) (hb : P.bytesOf e = 8)
    {a : Option Addr} {len cap : Nat} {p : List MemPlace} (h : DataW.Trod enc P w 0 (fun _ => true) true t (.slice a len cap) d p) : SomeOr a len cap ∧ cap * 8 ≤ 140737488351232 := by
  obtain ⟨fuel, hf⟩ := h
  rcases open_ints ht he hc hf with ⟨hcs, _⟩ | ⟨x, l, c, zs, hcs, _, hl, hm, hz, hx, hcell, hwz⟩
  · simp [Value.cells] at hcs
    obtain ⟨rfl, rfl, rfl⟩ := hcs
    exact ⟨.inr ⟨rfl, rfl, rfl⟩, by omega⟩
  · simp [Value.cells] at hcs
    obtain ⟨rfl, rfl, rfl⟩ := hcs
    refine ⟨.inl ⟨_, rfl⟩, ?_⟩
    have hz' : zs.length = cap := by simpa using hz
    simp only [Prod.mk.injEq] at hx
    obtain ⟨rfl, -⟩ := hx
    have h1 := sized_slice hsz htj hdj ht
    rw [hb] at h1
    simp only [lits, List.length_map, List.length_take, List.length_drop, reachBytes] at h1
    omega
end
/-- As wpList_copied, of any length that fits a machine. -/
theorem run_copiedB {P : Program} (W : World) (t ty e : TypeId) (i : TypeInfo) (z : Value) (bytes : Nat) (ht : P.underlying t = some (.slice e)) (hi : P.info? e = some i) (hz : i.zero = some z)
    (hsize : i.size = 1) (hby : i.bytes = bytes) (hzs : z.cells.size = 1)
    (a : Option Addr) (m c : Nat) (vs : List Value) (hr : Rd W a vs) (hl : vs.length = m) (hs : SomeOr a m c) (h1 : ∀ u ∈ vs, u.oneCell' = true) (hn : m * bytes ≤ 140737488355328) (hmx : m ≤ maxLen) :
    ∃ a' c' w', (Builtin.append_ #[t, t] ty #[.slice (some ⟨W.heap.size, 0, none⟩) 0 0, .slice a m c]).run P (W.alloc (.cells #[] e)) = .ok (.slice a' m c') w' ∧
      w'.ownsRow W.heap.size e 1 (.slice a' m c') m vs ∧ Kept W w' := by
  have ho := World.ownsRow_lit (base := W.heap.size) (e := e) (size := 1) W #[] 0 (Nat.le_refl _) (by unfold maxLen; omega) rfl
  have hK := (Upd.refl (fun _ => False) W).alloc (.cells #[] e)
  rcases hs with ⟨ad, rfl⟩ | ⟨rfl, rfl, rfl⟩
  · have hnews : ∀ (j : Nat) (u : Value), vs[j]? = some u → (W.alloc (.cells #[] e)).cell? (ad.add j) = some u := by
      rcases hr.kept hK with rfl | ⟨b, off, e1, hc⟩
      · intro j u hu; simp at hu
      · cases e1
        intro j u hu
        rw [add_off]
        exact hc j u hu
    obtain ⟨v', w', hrun, h2, h3, -⟩ := run_append_own (P := P) (W.alloc (.cells #[] e)) W.heap.size t ty e i z 1 bytes ht hi hz hsize hby hzs (by omega) _ 0 [] ho ad m c vs (by omega) hnews h1 (by omega) (by rw [Nat.zero_add]; exact hn) hK.size
    rw [Nat.zero_add] at h2
    obtain ⟨a', c', rfl⟩ := row_form h2
    refine ⟨a', c', w', hrun, by simpa using h2, ?_⟩
    exact hK.then (Upd.grown (S := fun k => k = W.heap.size) (Upd.refl _ _) h3 (fun k hk => .inl (by cases hk; rfl))) (fun i hi e => by omega)
  · have hvs : vs = [] := List.eq_nil_of_length_eq_zero hl
    subst hvs
    have := run_append_owned_none (P := P) (W.alloc (.cells #[] e)) W.heap.size t ty e i 1 ht hi _ 0 [] ho
    exact ⟨_, _, _, this, ho, hK⟩
theorem wpList_copiedB {P : Program} {W : World} {ops : Array Oper} {rest : List Oper} {o : Oper} {a : Act} {Q : Exit → Act → World → Prop} (hgd : o.guard = none) (s x : Operand) (t : TypeId)
    (ho : o.op = .call { callee := .builtin .append, args := #[s, x], argTypes := #[t, t] })
    (e : TypeId) (i : TypeInfo) (z : Value) (bytes : Nat) (ht : P.underlying t = some (.slice e)) (hi : P.info? e = some i) (hz : i.zero = some z)
    (hsize : i.size = 1) (hby : i.bytes = bytes) (hzs : z.cells.size = 1)
    (ad : Option Addr) (m c : Nat) (vs : List Value) (hs : a.eval s = .slice (some ⟨W.heap.size, 0, none⟩) 0 0) (hx : a.eval x = .slice ad m c) (hr : Rd W ad vs) (hl : vs.length = m) (hso : SomeOr ad m c) (h1 : ∀ u ∈ vs, u.oneCell' = true) (hn : m * bytes ≤ 140737488355328) (hmx : m ≤ maxLen)
    (h : ∀ a' c' w', w'.ownsRow W.heap.size e 1 (.slice a' m c') m vs → Kept W w' → wpList P ops Q rest (a.put o.dst (.slice a' m c')) w') :
    wpList P ops Q (o :: rest) a (W.alloc (.cells #[] e)) := by
  obtain ⟨a', c', w', hrun, h2, h3⟩ := run_copiedB (P := P) W t o.type e i z bytes ht hi hz hsize hby hzs ad m c vs hr hl hso h1 hn hmx
  refine wpList_plain hgd fun K hK => ?_
  unfold Oper.wp execOp
  simp only [ho, resolve, invoke, builtin, Sem.run_bind, Sem.run_pure, Result.andThen_ok, List.map_toArray, List.map_cons, List.map_nil, hs, hx, hrun]
  exact hK _ _ (h a' c' w' h2 h3)
end Go.Proofs.Yticeionjlknlcaa
/- append(s, make([]int64, k)...) on a row of one's own. No program in sight. -/
namespace Go.Proofs.Yticeionjlknlcaa
set_option linter.unusedVariables false
set_option linter.unusedSimpArgs false
open Go.RowKit

theorem zeros_list (k : Nat) : (Builtin.zeroCells #[Value.int .i64 0] k).toList = List.replicate k (Value.int .i64 0) := by
  unfold Builtin.zeroCells
  rw [Array.toList_map]
  refine List.ext_getElem (by simp) fun j h1 h2 => ?_
  simp [Nat.mod_one]
theorem run_zeros_own {P : Program} (w : World) (base : Nat) (t tn ty e : TypeId) (i : TypeInfo) (ht : P.underlying t = some (.slice e)) (htn : P.underlying tn = some (.int .i64)) (hi : P.info? e = some i) (hz : i.zero = some (.int .i64 0))
    (hsize : i.size = 1) (hby : i.bytes = 8) (v : Value) (n : Nat) (xs : List Value) (hown : w.ownsRow base e 1 v n xs) (k : Nat) (h0 : 0 < k) (hn : (n + k) * 8 ≤ 140737488355328) (hmx : n + k ≤ maxLen) (hbase : base ≤ w.heap.size) :
    ∃ a' c' w', (Builtin.append_ #[t, tn] ty #[v, .int .i64 k]).run P w = .ok (.slice a' (n + k) c') w' ∧ w'.ownsRow base e 1 (.slice a' (n + k) c') (n + k) (xs ++ List.replicate k (.int .i64 0)) ∧ w.grownBy w' v.ownBlock := by
  have hxl : xs.length = n := by have := hown.1; omega
  have hzc : (Value.int .i64 0).cells = #[Value.int .i64 0] := rfl
  have hgrown : ∀ (cap : Nat) (row : Option Nat), cap < n + k →
      (w.drew.alloc (.cells (xs.toArray ++ Builtin.zeroCells #[Value.int .i64 0] k ++ Builtin.zeroCells #[Value.int .i64 0] (grownCap w (n + k) cap e - (n + k))) e)).ownsRow base e 1 (.slice (some ⟨w.heap.size, 0, none⟩) (n + k) (grownCap w (n + k) cap e)) (n + k) (xs ++ List.replicate k (.int .i64 0)) ∧
      w.grownBy (w.drew.alloc (.cells (xs.toArray ++ Builtin.zeroCells #[Value.int .i64 0] k ++ Builtin.zeroCells #[Value.int .i64 0] (grownCap w (n + k) cap e - (n + k))) e)) row := by
    intro cap row hc
    have hge := grownCap_ge w (n + k) cap e
    refine ⟨⟨by simp [hxl], .inr ⟨w.heap.size, _, _, rfl, hbase, heap_alloc_new w.drew _, hge, grownCap_le_maxLen w (n + k) cap e hmx, ?_, ?_⟩⟩, ⟨rfl, rfl, rfl, by simp, fun j hj _ => heap_alloc_old w.drew _ hj⟩⟩
    · simp [Builtin.zeroCells, hxl]
      omega
    · rw [Array.toList_append, Array.toList_append, zeros_list, Nat.mul_one]
      exact List.take_left' (by simp [hxl])
  rcases hown.2 with ⟨rfl, rfl⟩ | ⟨g, cap, cur, rfl, hbg, hg, hnc, hcm, hcs, htake⟩
  · have hx : xs = [] := List.eq_nil_of_length_eq_zero (by omega)
    subst hx
    have hr := Lib.run_append_grow_zeros (P := P) w t tn ty e i (.int .i64 0) .i64 .i64 ht htn hi hz none 0 0 [] (run_firstCells_none w.drew i.size 0 0 0) k h0 (by omega) (by omega) (by unfold maxLen at hmx; omega) (by rw [hby]; omega) (by
      rw [hby]
      exact growslice_fits (by omega) (by omega))
    obtain ⟨h1, h2⟩ := hgrown 0 (Value.ownBlock (.slice none 0 0)) (by omega)
    exact ⟨_, _, _, hr, h1, h2⟩
  · by_cases hroom : n + k ≤ cap
    · have hfit : n + 0 + (List.replicate k (Value.int .i64 0)).length ≤ cur.size := by rw [List.length_replicate]; omega
      have hst := run_storeCells_at P g n e (List.replicate k (Value.int .i64 0)) 0 cur w hg hfit (by
        intro u hu
        rw [(List.mem_replicate.1 hu).2]
        rfl)
      simp only [Nat.add_zero] at hst
      have hk : ¬ k = 0 := by omega
      have hw : IntKind.i64.wrap (k : Int) = k := by rw [IntKind.wrap_i64]; omega
      have hneg : ¬ ((k : Int) < 0) := by omega
      have h48i : ¬ (281474976710656 < (k : Int) * 8) := by omega
      refine ⟨some ⟨g, 0, none⟩, cap, w.setRow g (cur.toList.take n ++ List.replicate k (Value.int .i64 0) ++ cur.toList.drop (n + (List.replicate k (Value.int .i64 0)).length)).toArray, ?_, ⟨by simp [hxl], .inr ⟨g, cap, _, rfl, hbg, setRow_heap w g cur _ e _ hg, hroom, hcm, ?_, ?_⟩⟩, ⟨rfl, rfl, rfl, by simp, fun j _ hj => setRow_other w g j _ (fun e => hj (by simp [Value.ownBlock, e]))⟩⟩
      · simp [Builtin.append_, run_underlying ht, run_underlying htn, sizeOf, typeInfo, zeroValue, hi, hz, hsize, hby, asInt, asIntOf, hw, hneg, h48i, hroom, hk, hzc, zeros_list, Addr.add_lit, hst]
      · simp only [List.size_toArray, List.length_append, List.length_take, List.length_drop, Array.length_toList, List.length_replicate]
        omega
      · rw [Nat.mul_one] at htake ⊢
        rw [htake]
        exact List.take_left' (by simp [hxl])
    · have hold : (Builtin.firstCells i.size n (.slice (some ⟨g, 0, none⟩) n cap)).run P w.drew = .ok xs.toArray w.drew := by
        have holds : ∀ j u, xs[j]? = some u → w.drew.cell? ((⟨g, 0, none⟩ : Addr).add j) = some u := hown.cells (g := g) rfl
        exact run_firstCells_some (P := P) w.drew i.size n ⟨g, 0, none⟩ n cap xs (by rw [hsize]; omega) holds
      have hr := Lib.run_append_grow_zeros (P := P) w t tn ty e i (.int .i64 0) .i64 .i64 ht htn hi hz (some ⟨g, 0, none⟩) n cap xs hold k h0 (by omega) (by omega) (by unfold maxLen at hmx; omega) (by rw [hby]; omega) (by
        rw [hby]
        exact growslice_fits (by omega) (by omega))
      obtain ⟨h1, h2⟩ := hgrown cap (Value.ownBlock (.slice (some ⟨g, 0, none⟩) n cap)) (by omega)
      exact ⟨_, _, _, hr, h1, h2⟩
/-- At a step of a region that draws its order. -/
theorem step_zeros_own {P : Program} {w : World} {ops : Array Oper} {o : Oper} {a : Act} {K : Act → World → Prop} {E : Prop} {Q : Exit → Act → World → Prop} (hgd : o.guard = none) (s x : Operand) (t tn : TypeId)
    (ho : o.op = .call { callee := .builtin .append, args := #[s, x], argTypes := #[t, tn] })
    (base : Nat) (e : TypeId) (i : TypeInfo) (ht : P.underlying t = some (.slice e)) (htn : P.underlying tn = some (.int .i64)) (hi : P.info? e = some i) (hz : i.zero = some (.int .i64 0))
    (hsize : i.size = 1) (hby : i.bytes = 8) (v : Value) (n : Nat) (xs : List Value) (hs : a.eval s = v) (hown : w.ownsRow base e 1 v n xs) (k : Nat) (hx : a.eval x = .int .i64 k) (h0 : 0 < k) (hn : (n + k) * 8 ≤ 140737488355328) (hmx : n + k ≤ maxLen) (hbase : base ≤ w.heap.size)
    (h : ∀ a' c' w', w'.ownsRow base e 1 (.slice a' (n + k) c') (n + k) (xs ++ List.replicate k (.int .i64 0)) → w.grownBy w' v.ownBlock → K (a.put o.dst (.slice a' (n + k) c')) w') :
    if Region.wanted o (yielded ops a.tmps) = true then Oper.wp P o a w K Q else E := by
  have hw : Region.wanted o (yielded ops a.tmps) = true := by simp [Region.wanted, hgd]
  rw [if_pos hw]
  obtain ⟨a', c', w', hr, h2, h3⟩ := run_zeros_own (P := P) w base t tn o.type e i ht htn hi hz hsize hby v n xs hown k h0 hn hmx hbase
  exact Lib.wp_append_run w s x t tn ho _ _ hs hx _ _ hr (h a' c' w' h2 h3)
theorem step_copiedB {P : Program} {W : World} {ops : Array Oper} {o : Oper} {a : Act} {K : Act → World → Prop} {E : Prop} {Q : Exit → Act → World → Prop} (hgd : o.guard = none) (s x : Operand) (t : TypeId)
    (ho : o.op = .call { callee := .builtin .append, args := #[s, x], argTypes := #[t, t] })
    (e : TypeId) (i : TypeInfo) (z : Value) (bytes : Nat) (ht : P.underlying t = some (.slice e)) (hi : P.info? e = some i) (hz : i.zero = some z)
    (hsize : i.size = 1) (hby : i.bytes = bytes) (hzs : z.cells.size = 1)
    (ad : Option Addr) (m c : Nat) (vs : List Value) (hs : a.eval s = .slice (some ⟨W.heap.size, 0, none⟩) 0 0) (hx : a.eval x = .slice ad m c) (hr : Rd W ad vs) (hl : vs.length = m) (hso : SomeOr ad m c) (h1 : ∀ u ∈ vs, u.oneCell' = true) (hn : m * bytes ≤ 140737488355328) (hmx : m ≤ maxLen)
    (h : ∀ a' c' w', w'.ownsRow W.heap.size e 1 (.slice a' m c') m vs → Kept W w' → K (a.put o.dst (.slice a' m c')) w') :
    if Region.wanted o (yielded ops a.tmps) = true then Oper.wp P o a (W.alloc (.cells #[] e)) K Q else E := by
  have hw : Region.wanted o (yielded ops a.tmps) = true := by simp [Region.wanted, hgd]
  rw [if_pos hw]
  obtain ⟨a', c', w', hrun, h2, h3⟩ := run_copiedB (P := P) W t o.type e i z bytes ht hi hz hsize hby hzs ad m c vs hr hl hso h1 hn hmx
  exact Lib.wp_append_run _ s x t t ho _ _ hs hx _ _ hrun (h a' c' w' h2 h3)
end Go.Proofs.Yticeionjlknlcaa
/- What a law is handed: rows of numbers, as they are read. -/
namespace Go.Proofs.Yticeionjlknlcaa
set_option linter.unusedVariables false
open Go.RowKit

theorem IntRow.rd {k : IntKind} {w : World} {a : Option Addr} {cap : Nat} {zs : List Int} (h : IntRow k w a cap zs) : Rd w a (zs.map (Value.int k)) := by
  rcases h.cells with h0 | ⟨b, off, rfl, hc⟩
  · exact .inl (by rw [List.eq_nil_of_length_eq_zero h0]; rfl)
  · refine .inr ⟨b, off, rfl, fun i u hu => ?_⟩
    rw [List.getElem?_map] at hu
    obtain ⟨x, hx, rfl⟩ := Option.map_eq_some_iff.1 hu
    obtain ⟨hi, rfl⟩ := List.getElem?_eq_some_iff.1 hx
    exact hc i hi
end Go.Proofs.Yticeionjlknlcaa
/- The law GlobalsTell (printed by gen_glotell.py). -/
namespace Go.Proofs.Yticeionjlknlcaa
set_option linter.unusedVariables false
set_option linter.unusedSimpArgs false
open Go.RowKit

/-- What the law looks at. -/
structure TG (S T : Int) (n m : Nat) (a3 a4 a5 a6 a7 a8 : Option Addr) (c3 c4 c5 c6 c7 c8 : Nat) (w : World) (ys : List Ar) (cb pb ab bb : Nat) (g1 s1 g2 s2 : Int) (ra : Option Addr) (rl rc : Nat) (rs : List Int) (ea : Option Addr) (el ec : Nat) (es : List Int) (wr : World) : Prop where
  kp : Kept w wr
  box : Blk wr cb #[.int .i64 n, .int .i64 S, .int .i64 T, .slice a3 (n + 1) c3, .slice a4 m c4, .slice a5 m c5, .slice a6 m c6, .slice a7 m c7, .slice a8 m c8] 29
  cr : CsrR wr n ys a3 a4 a5 a6 a7 a8
  pb : Blk wr pb #[.slice ra rl rc, .slice ea el ec, .slice none 0 0] 51
  ab : Blk wr ab #[.int .i64 g1, .int .i64 s1] 48
  bb : Blk wr bb #[.int .i64 g2, .int .i64 s2] 48
  r : Rd wr ra (lv rs)
  e : Rd wr ea (lv es)
section
variable {S T : Int} {n m : Nat} {a3 a4 a5 a6 a7 a8 : Option Addr} {c3 c4 c5 c6 c7 c8 : Nat} {w : World} {ys : List Ar} {cb pb ab bb : Nat} {g1 s1 g2 s2 : Int} {ra : Option Addr} {rl rc : Nat} {rs : List Int} {ea : Option Addr} {el ec : Nat} {es : List Int} {wr w' : World}
theorem TG.kept (h : TG S T n m a3 a4 a5 a6 a7 a8 c3 c4 c5 c6 c7 c8 w ys cb pb ab bb g1 s1 g2 s2 ra rl rc rs ea el ec es wr) (k : Kept wr w') : TG S T n m a3 a4 a5 a6 a7 a8 c3 c4 c5 c6 c7 c8 w ys cb pb ab bb g1 s1 g2 s2 ra rl rc rs ea el ec es w' := ⟨h.kp.trans k, h.box.kept k, h.cr.kept k, h.pb.kept k, h.ab.kept k, h.bb.kept k, h.r.kept k, h.e.kept k⟩
theorem TG.all (h : TG S T n m a3 a4 a5 a6 a7 a8 c3 c4 c5 c6 c7 c8 w ys cb pb ab bb g1 s1 g2 s2 ra rl rc rs ea el ec es wr) : ((∀ i, wr.cell? ⟨cb, i, none⟩ = (#[.int .i64 n, .int .i64 S, .int .i64 T, .slice a3 (n + 1) c3, .slice a4 m c4, .slice a5 m c5, .slice a6 m c6, .slice a7 m c7, .slice a8 m c8] : Array Value)[i]?) ∧ (∀ i, wr.cell? ⟨pb, i, none⟩ = (#[.slice ra rl rc, .slice ea el ec, .slice none 0 0] : Array Value)[i]?) ∧ (∀ i, wr.cell? ⟨ab, i, none⟩ = (#[.int .i64 g1, .int .i64 s1] : Array Value)[i]?) ∧ (∀ i, wr.cell? ⟨bb, i, none⟩ = (#[.int .i64 g2, .int .i64 s2] : Array Value)[i]?)) := ⟨h.box.cell, h.pb.cell, h.ab.cell, h.bb.cell⟩
end
theorem ints_at2 (a a' : Option Addr) (c c' : Nat) (xs : List Int) (n : Nat) (w : World) (hx : Rd w a (lv xs)) (hy : Rd w a' (lv xs)) (hn : xs.length = n) (hm : xs.length ≤ 1000000000) :
    Calls Try.prog 15 #[.slice a n c, .slice a' n c'] w fun e w' => e = .returned (.bool true) ∧ Kept w w' := by
  subst hn
  have h1 := ints_same a a' c c' xs xs w hx hy hm hm
  simpa using h1
set_option maxRecDepth 100000 in
set_option maxHeartbeats 4000000 in
theorem globalsTell_core (N0 S0 T0 : Int) (a : Option Addr) (k0 cap : Nat) (ys0 : List Ar) (la : Option Addr) (lc : Nat) (ls : List Int) (ea : Option Addr) (ec : Nat) (es0 : List Int) (wk g1 s1 g2 s2 odd : Int) (w : World)
    (h : Ars w a ys0) (hk0 : ys0.length = k0) (hle : k0 ≤ cap) (hmost : cap ≤ 9223372036854775807) (hwf : ∀ x ∈ ys0, -9223372036854775808 ≤ x.c ∧ x.c ≤ 9223372036854775807)
    (hl : Rd w la (lv ls)) (hli : ∀ x ∈ ls, -9223372036854775808 ≤ x ∧ x ≤ 9223372036854775807) (hll : ls.length ≤ 9223372036854775807)
    (he1 : Rd w ea (lv es0)) (hcap : es0.length ≤ ec) (hsz : SomeOr ea es0.length ec ∧ ec * 8 ≤ 140737488351232) (ho0 : 0 ≤ odd) (ho1 : odd ≤ 255) :
    Calls Try.prog 11 #[.agg #[.int .i64 N0, .int .i64 S0, .int .i64 T0, .slice a k0 cap], .slice la ls.length lc, .slice ea es0.length ec, .int .i64 wk, .agg #[.int .i64 g1, .int .i64 s1], .agg #[.int .i64 g2, .int .i64 s2], .int .u8 odd] w fun e w' => e = .returned (.bool true) ∧ Kept w w' := by
  have HS : ∀ (w : World), Ars w a ys0 → Hid (Calls Try.prog 13 #[.agg #[.int .i64 N0, .int .i64 S0, .int .i64 T0, .slice a k0 cap], .int .i64 16, .int .i64 40] w (NetIs w)) := by
    intro w h
    subst hk0
    exact Lib.hid (Some_any N0 S0 T0 a cap ys0 w h hle hmost hwf)
  have hAA := (((Upd.refl (fun _ => False) w).alloc (.cells #[.int .i64 N0, .int .i64 S0, .int .i64 T0, .slice a k0 cap] 24)).alloc (.cells #[.int .i64 g1, .int .i64 s1] 48)).alloc (.cells #[.int .i64 g2, .int .i64 s2] 48)
  have HX := Lib.hid (h.kept hAA)
  have HK : Hid (Kept w (((w.alloc (.cells #[.int .i64 N0, .int .i64 S0, .int .i64 T0, .slice a k0 cap] 24)).alloc (.cells #[.int .i64 g1, .int .i64 s1] 48)).alloc (.cells #[.int .i64 g2, .int .i64 s2] 48))) := Lib.hid hAA
  have HAB : Hid (Blk (((w.alloc (.cells #[.int .i64 N0, .int .i64 S0, .int .i64 T0, .slice a k0 cap] 24)).alloc (.cells #[.int .i64 g1, .int .i64 s1] 48)).alloc (.cells #[.int .i64 g2, .int .i64 s2] 48)) (w.heap.size + 1) #[.int .i64 g1, .int .i64 s1] 48 ∧ Blk (((w.alloc (.cells #[.int .i64 N0, .int .i64 S0, .int .i64 T0, .slice a k0 cap] 24)).alloc (.cells #[.int .i64 g1, .int .i64 s1] 48)).alloc (.cells #[.int .i64 g2, .int .i64 s2] 48)) (w.heap.size + 1 + 1) #[.int .i64 g2, .int .i64 s2] 48) := Lib.hid (by
    have h1 := (Blk.new (w.alloc (.cells #[.int .i64 N0, .int .i64 S0, .int .i64 T0, .slice a k0 cap] 24)) #[.int .i64 g1, .int .i64 s1] 48).alloc (.cells #[.int .i64 g2, .int .i64 s2] 48)
    have h2 := Blk.new ((w.alloc (.cells #[.int .i64 N0, .int .i64 S0, .int .i64 T0, .slice a k0 cap] 24)).alloc (.cells #[.int .i64 g1, .int .i64 s1] 48)) #[.int .i64 g2, .int .i64 s2] 48
    have e1 : (w.alloc (.cells #[.int .i64 N0, .int .i64 S0, .int .i64 T0, .slice a k0 cap] 24)).heap.size = w.heap.size + 1 := World.size_alloc _ _
    have e2 : ((w.alloc (.cells #[.int .i64 N0, .int .i64 S0, .int .i64 T0, .slice a k0 cap] 24)).alloc (.cells #[.int .i64 g1, .int .i64 s1] 48)).heap.size = w.heap.size + 1 + 1 := by rw [← e1]; exact World.size_alloc _ _
    rw [e1] at h1
    rw [e2] at h2
    exact ⟨h1, h2⟩)
  clear hAA
  have HL := Lib.hid hl
  have HLI := Lib.hid hli
  have HEX := Lib.hid he1
  have HSZ := Lib.hid hsz
  clear he1 hsz
  clear h hl hli hle hmost hwf
  go_enter Try.func11, Try.ntmps11
  go_wp2_with fail
  refine (HS _ HX.out).out.mono ?_
  rintro e w1 ⟨N, S, T, a', cap', ys, rfl, hok, hown, hk1⟩
  have HK1 := Lib.hid (HK.out.trans hk1)
  have HAB1 := Lib.hid (And.intro (HAB.out.1.kept hk1) (HAB.out.2.kept hk1))
  have HOK := Lib.hid hok
  have HA : Hid (Ars w1 a' ys) := Lib.hid hown.at.2
  clear hk1 hok hown HS HX HK HAB
  have HLE := fun (w : World) (h : Ars w a' ys) (hl : Rd w la (lv ls)) => Lib.hid (Left_ok N S T a' cap' ys la lc ls w h HOK.out hl HLI.out hll)
  go_wp2_with fail
  refine (HLE _ HA.out (HL.out.kept HK1.out)).out.mono ?_
  rintro e w2 ⟨B, n, m, a3, c3, a4, c4, a5, c5, a6, c6, a7, c7, a8, c8, ra, rc, rfl, hn, hm2, hcr, -, hk2, -, hro⟩
  have HG : Hid (Gr N S T n m ys) := Lib.hid ⟨HOK.out, hn, hm2⟩
  obtain ⟨rs, hrs⟩ : ∃ rs, resAll (wths ls ys) n ys = rs := ⟨_, rfl⟩
  have HRM : Hid (rs.length = m) := Lib.hid (by rw [← hrs, resAll_len]; exact hm2)
  have HRI : Hid (∀ x ∈ rs, 0 ≤ x ∧ x < 1125899906842624) := Lib.hid (by rw [← hrs]; exact left_in HG.out HLI.out)
  rw [hrs] at hro
  have HRC : Hid (m ≤ rc) := Lib.hid (row_cap' hro)
  have HSO : Hid ((∃ ad, ra = some ad) ∨ (ra = none ∧ m = 0 ∧ rc = 0)) := Lib.hid (someOr_row hro)
  obtain ⟨ra', rc', e9, hrr⟩ := Rd.owns hro
  cases e9
  have hA := (Upd.refl (fun _ => False) w2).alloc (.cells #[.int .i64 N, .int .i64 S, .int .i64 T, .slice a3 (n + 1) c3, .slice a4 m c4, .slice a5 m c5, .slice a6 m c6, .slice a7 m c7, .slice a8 m c8] 29)
  have HK0 := Lib.hid ((HK1.out.trans hk2).trans hA)
  have HAB2 := Lib.hid (And.intro ((HAB1.out.1.kept hk2).kept hA) ((HAB1.out.2.kept hk2).kept hA))
  have HGF : Hid (GF N S T n m a3 a4 a5 a6 a7 a8 c3 c4 c5 c6 c7 c8 ys w2.heap.size ra rs (w2.alloc (.cells #[.int .i64 N, .int .i64 S, .int .i64 T, .slice a3 (n + 1) c3, .slice a4 m c4, .slice a5 m c5, .slice a6 m c6, .slice a7 m c7, .slice a8 m c8] 29))) := Lib.hid ⟨Blk.new _ _ _, hcr.kept hA, hrr.kept hA⟩
  clear hn hm2 hcr hk2 hro hrr hrs hA HAB1 HLE HA HOK HK1 HL HLI hll
  clear hk0
  go_upto_region 2 with (fail)
  generalize (w2.alloc (.cells #[.int .i64 N, .int .i64 S, .int .i64 T, .slice a3 (n + 1) c3, .slice a4 m c4, .slice a5 m c5, .slice a6 m c6, .slice a7 m c7, .slice a8 m c8] 29)) = wB at HGF HK0 HAB2 ⊢
  generalize w2.heap.size = cb at HGF ⊢
  generalize w.heap.size + 1 + 1 = bb at HAB2 ⊢
  generalize w.heap.size + 1 = ab at HAB2 ⊢
  obtain ⟨hnN, -⟩ := HG.out.len
  subst hnN
  have hn16 : 2 ≤ n ∧ n ≤ 16 ∧ m ≤ 640 := by have := HG.out.len; omega
  have hm640 := hn16.2.2
  have HRD : Hid (Rd wB ra (lv rs)) := Lib.hid HGF.out.rs
  have bx := HGF.out.box.cell
  clear HRI
  go_upto_if 27 with (fail)
  go_cut [16] from 25 to 32 (fun x wx => ∃ (rl rc2 : Nat) (rs2 : List Int), x = .slice ra rl rc2 ∧ Hid (rs2.length = rl ∧ SomeOr ra rl rc2) ∧ Hid (Kept wB wx ∧ Rd wx ea (lv es0) ∧ Rd wx ra (lv rs2)))
  case first =>
    by_cases q8 : odd % 8 = 7
    · have hb8 : (odd % 8 == 7) = true := by simpa using q8
      obtain ⟨rl, hrl⟩ : ∃ rl, rl = m / 2 := ⟨_, rfl⟩
      have e2 : (m : Int) / 2 = (rl : Int) := by omega
      have hrb : (rl : Int) ≤ 1000 := by omega
      have hw8 : wrap64 (rl : Int) = (rl : Int) := by unfold wrap64; omega
      have hsl := fun w => run_take (P := Try.prog) Try.underlying25 (size := 1) (by kernel_rfl) ra m rc rl (by have := HRC.out; omega) w
      have HRL : Hid ((rs.take rl).length = rl ∧ SomeOr ra rl rc) := Lib.hid ⟨by have := HRM.out; rw [List.length_take]; omega, by
        rcases HSO.out with h | ⟨h1, h2, h3⟩
        · exact .inl h
        · exact .inr ⟨h1, by omega, h3⟩⟩
      have HX2 : Hid (Kept wB wB ∧ Rd wB ea (lv es0) ∧ Rd wB ra (lv (rs.take rl))) := Lib.hid ⟨Upd.refl _ _, HEX.out.kept HK0.out, HRD.out.take rl⟩
      clear hrl
      go_wp2_with fail
      go_meet
      case rel => exact ⟨rl, rc, rs.take rl, rfl, HRL, HX2⟩
    · have hb8 : (odd % 8 == 7) = false := by simpa using q8
      go_wp2_with fail
      go_meet
      case rel => exact ⟨m, rc, rs, rfl, Lib.hid ⟨HRM.out, HSO.out⟩, Lib.hid ⟨Upd.refl _ _, HEX.out.kept HK0.out, HRD.out⟩⟩
  case rest =>
    clear HSO HRM HRC HRD
    obtain ⟨rl, rc2, rs2, rfl, HR2, HX1⟩ := hcut
    rename World => W1
    have bx := (HGF.out.kept HX1.out.1).box.cell
    go_upto_if 35 with (fail)
    go_cut [2] from 33 to 44 (fun x wx => ∃ (ea2 : Option Addr) (el ec2 : Nat) (es2 : List Int), x = .slice ea2 el ec2 ∧ Hid (es2.length = el) ∧ Hid (Kept wB wx ∧ Rd wx ea2 (lv es2) ∧ Rd wx ra (lv rs2)))
    case first =>
      by_cases q4 : 0 < odd % 4
      · as_aux_lemma =>
        have hb4 : decide (0 < odd % 4) = true := by simpa using q4
        obtain ⟨i0, hi0, hz0, hz1, hz2⟩ := info_parts infoI64
        have hcl : (lv es0).length = es0.length := lv_len es0
        have h1c : ∀ x ∈ lv es0, x.oneCell' = true := by
          intro x hx
          obtain ⟨y, -, rfl⟩ := List.mem_map.1 hx
          rfl
        obtain ⟨hl, hhl⟩ : ∃ hl, es0.length = hl := ⟨_, rfl⟩
        have hnb : hl * 8 ≤ 140737488351232 := by have h1 := HSZ.out.2; have h2 := hcap; omega
        have hnb2 : hl * 8 ≤ 140737488355328 := by omega
        have hmx : hl ≤ maxLen := by unfold maxLen; omega
        have hmx2 : hl + n ≤ maxLen := by unfold maxLen; omega
        have hso := HSZ.out.1
        rw [hhl] at hcl hso ⊢
        have HHL := Lib.hid hhl
        clear hhl hcap
        go_upto_region 5 with (fail)
        have hRe : Rd W1.drew ea (lv es0) := HX1.out.2.1
        have hKd := (Upd.refl (fun _ => False) W1).drew.alloc (.cells #[] 2)
        have C0 : (∀ i, W1.drew.cell? ⟨cb, i, none⟩ = (#[.int .i64 n, .int .i64 S, .int .i64 T, .slice a3 (n + 1) c3, .slice a4 m c4, .slice a5 m c5, .slice a6 m c6, .slice a7 m c7, .slice a8 m c8] : Array Value)[i]?) := (HGF.out.kept HX1.out.1).box.cell
        have C1 : (∀ i, (W1.drew.alloc (.cells #[] 2)).cell? ⟨cb, i, none⟩ = (#[.int .i64 n, .int .i64 S, .int .i64 T, .slice a3 (n + 1) c3, .slice a4 m c4, .slice a5 m c5, .slice a6 m c6, .slice a7 m c7, .slice a8 m c8] : Array Value)[i]?) := ((HGF.out.kept HX1.out.1).kept hKd).box.cell
        go_region_held3 (fun w' => (∀ i, w'.cell? ⟨cb, i, none⟩ = (#[.int .i64 n, .int .i64 S, .int .i64 T, .slice a3 (n + 1) c3, .slice a4 m c4, .slice a5 m c5, .slice a6 m c6, .slice a7 m c7, .slice a8 m c8] : Array Value)[i]?))
          (first | exact C0 | exact C1 | exact C2 | exact C3)
          (first
            | (refine step_zeros_own (o := ⟨some 41, _, _, _, _, none⟩) rfl (.tmp 38) (.tmp 40) 25 3 rfl W1.drew.heap.size 2 i0 Try.underlying25 Try.underlying3 hi0 hz0 hz1 hz2 (.slice ua hl uc) hl (lv es0) (by simp [Act.eval, Act.put]) hown n (by simp [Act.eval, Act.put]) (by omega) (by omega) hmx2 hK4.size ?_; intro va vc V5 hown2 hgrow; have hU : Upd (fun i => W1.drew.heap.size ≤ i) V4 V5 := Upd.grown (Upd.refl _ _) hgrow (fun i hi => .inl (World.ownsRow.lt hown i hi).1); have hK5 : Kept W1 V5 := hK4.then hU (fun i hi he => by have h1 : W1.drew.heap.size = W1.heap.size := rfl; omega); have HO5 := Lib.hid hown2; have HK5 := Lib.hid hK5; have hvc := row_cap' hown2; have hsl := fun w => run_take (P := Try.prog) Try.underlying25 (size := 1) (by kernel_rfl) va (hl + n) vc n (by omega) w; have C3 : (∀ i, V5.cell? ⟨cb, i, none⟩ = (#[.int .i64 n, .int .i64 S, .int .i64 T, .slice a3 (n + 1) c3, .slice a4 m c4, .slice a5 m c5, .slice a6 m c6, .slice a7 m c7, .slice a8 m c8] : Array Value)[i]?) := (HGF.out.kept (HX1.out.1.trans hK5)).box.cell; clear hown2 hgrow hU hvc)
            | (refine step_copiedB (o := ⟨some 38, _, _, _, _, none⟩) rfl (.tmp 36) (.tmp 37) 25 rfl 2 i0 (.int .i64 0) 8 Try.underlying25 hi0 hz0 hz1 hz2 rfl ea hl ec (lv es0) (by simp [Act.eval, Act.put]) (by simp [Act.eval, Act.put]) hRe hcl hso h1c hnb2 hmx ?_; intro ua uc V4 hown hk; have hK4 : Kept W1 V4 := (Upd.refl (fun _ => False) W1).drew.trans hk; have C2 : (∀ i, V4.cell? ⟨cb, i, none⟩ = (#[.int .i64 n, .int .i64 S, .int .i64 T, .slice a3 (n + 1) c3, .slice a4 m c4, .slice a5 m c5, .slice a6 m c6, .slice a7 m c7, .slice a8 m c8] : Array Value)[i]?) := (HGF.out.kept (HX1.out.1.trans hK4)).box.cell; clear hk))
        have HXE : Hid (((es0 ++ List.replicate n 0).take n).length = n ∧ Rd V5 va (lv ((es0 ++ List.replicate n 0).take n))) := Lib.hid (by
          obtain ⟨a', c', e9, hr⟩ := Rd.owns HO5.out
          cases e9
          refine ⟨by simp, ?_⟩
          have : lv es0 ++ List.replicate n (Value.int .i64 0) = lv (es0 ++ List.replicate n 0) := by simp [lv]
          rw [this] at hr
          exact hr.take n)
        have HX5 : Hid (Kept wB V5 ∧ Rd V5 va (lv ((es0 ++ List.replicate n 0).take n)) ∧ Rd V5 ra (lv rs2)) := Lib.hid ⟨HX1.out.1.trans HK5.out, HXE.out.2, HX1.out.2.2.kept HK5.out⟩
        go_wp2_with fail
        go_meet
        case rel => exact ⟨va, n, vc, _, rfl, Lib.hid HXE.out.1, HX5⟩
      · have hb4 : decide (0 < odd % 4) = false := by simpa using q4
        go_wp2_with fail
        go_meet
        case rel => exact ⟨ea, es0.length, ec, es0, rfl, Lib.hid rfl, HX1⟩
    case rest =>
      clear HX1 bx
      obtain ⟨ea2, el, ec2, es2, rfl, HH2, HX⟩ := hcut
      rename World => W2
      have bx := (HGF.out.kept HX.out.1).box.cell
      as_aux_lemma =>
      go_upto_region 7 with (fail)
      have hA := (Upd.refl (fun _ => False) W2).alloc (.cells #[.slice ra rl rc2, .slice ea2 el ec2, .slice none 0 0] 51)
      have X9 : Hid (TG S T n m a3 a4 a5 a6 a7 a8 c3 c4 c5 c6 c7 c8 w ys cb W2.heap.size ab bb g1 s1 g2 s2 ra rl rc2 rs2 ea2 el ec2 es2 (W2.alloc (.cells #[.slice ra rl rc2, .slice ea2 el ec2, .slice none 0 0] 51))) := Lib.hid (by
        have k := HX.out.1.trans hA
        exact ⟨HK0.out.trans k, HGF.out.box.kept k, HGF.out.cr.kept k, Blk.new _ _ _, HAB2.out.1.kept k, HAB2.out.2.kept k, HX.out.2.2.kept hA, HX.out.2.1.kept hA⟩)
      clear hA HX HAB2 HK0
      generalize (W2.alloc (.cells #[.slice ra rl rc2, .slice ea2 el ec2, .slice none 0 0] 51)) = W3 at X9 ⊢
      generalize W2.heap.size = pb at X9 ⊢
      obtain ⟨D1, hd1, hq1⟩ := exact_pair (n : Int) S T n m a3 a4 a5 a6 a7 a8 c3 c4 c5 c6 c7 c8 ys ra rl rc2 rs2 wk HG.out HR2.out.1 HR2.out.2
      obtain ⟨D2, hd2, hq2⟩ := reached_pair (n : Int) S T n m a3 a4 a5 a6 a7 a8 c3 c4 c5 c6 c7 c8 ys ra rl rc2 rs2 HG.out HR2.out.1 HR2.out.2
      obtain ⟨g, s, hq3⟩ := mark_pair (n : Int) S T n m a3 a4 a5 a6 a7 a8 c3 c4 c5 c6 c7 c8 ys ra rl rc2 rs2 ea2 el ec2 es2 HG.out HR2.out.1 HR2.out.2 HH2.out
      have HD1 := Lib.hid hd1
      have HD2 := Lib.hid hd2
      have HE1 := fun (w9 : World) (h : TG S T n m a3 a4 a5 a6 a7 a8 c3 c4 c5 c6 c7 c8 w ys cb pb ab bb g1 s1 g2 s2 ra rl rc2 rs2 ea2 el ec2 es2 w9) => Lib.hid (hq1 w9 h.cr h.r).1
      have HE2 := fun (w9 : World) (h : TG S T n m a3 a4 a5 a6 a7 a8 c3 c4 c5 c6 c7 c8 w ys cb pb ab bb g1 s1 g2 s2 ra rl rc2 rs2 ea2 el ec2 es2 w9) => Lib.hid (hq1 w9 h.cr h.r).2
      have HR1 := fun (w9 : World) (h : TG S T n m a3 a4 a5 a6 a7 a8 c3 c4 c5 c6 c7 c8 w ys cb pb ab bb g1 s1 g2 s2 ra rl rc2 rs2 ea2 el ec2 es2 w9) => Lib.hid (hq2 w9 h.cr h.r).1
      have HRR := fun (w9 : World) (h : TG S T n m a3 a4 a5 a6 a7 a8 c3 c4 c5 c6 c7 c8 w ys cb pb ab bb g1 s1 g2 s2 ra rl rc2 rs2 ea2 el ec2 es2 w9) => Lib.hid (hq2 w9 h.cr h.r).2
      have HM1 := fun (w9 : World) (h : TG S T n m a3 a4 a5 a6 a7 a8 c3 c4 c5 c6 c7 c8 w ys cb pb ab bb g1 s1 g2 s2 ra rl rc2 rs2 ea2 el ec2 es2 w9) => Lib.hid (hq3 w9 h.cr h.r h.e).1
      have HM2 := fun (w9 : World) (h : TG S T n m a3 a4 a5 a6 a7 a8 c3 c4 c5 c6 c7 c8 w ys cb pb ab bb g1 s1 g2 s2 ra rl rc2 rs2 ea2 el ec2 es2 w9) => Lib.hid (hq3 w9 h.cr h.r h.e).2
      obtain ⟨z, hz⟩ : ∃ z, riB g1 s1 g2 s2 = z := ⟨_, rfl⟩
      have HN1 := fun w => Lib.hid (risen_any g1 s1 g2 s2 w)
      have HN2 := fun w => Lib.hid (refRisen_any g1 s1 g2 s2 w)
      rw [hz] at HN1 HN2
      clear hz hq1 hq2 hq3 hd1 hd2 HG HGF HR2 HH2
      have X0 : Hid (TG S T n m a3 a4 a5 a6 a7 a8 c3 c4 c5 c6 c7 c8 w ys cb pb ab bb g1 s1 g2 s2 ra rl rc2 rs2 ea2 el ec2 es2 W3.drew) := Lib.hid (X9.out.kept (Upd.refl _ _).drew)
      clear X9
      have C0 : ((∀ i, W3.drew.cell? ⟨cb, i, none⟩ = (#[.int .i64 n, .int .i64 S, .int .i64 T, .slice a3 (n + 1) c3, .slice a4 m c4, .slice a5 m c5, .slice a6 m c6, .slice a7 m c7, .slice a8 m c8] : Array Value)[i]?) ∧ (∀ i, W3.drew.cell? ⟨pb, i, none⟩ = (#[.slice ra rl rc2, .slice ea2 el ec2, .slice none 0 0] : Array Value)[i]?) ∧ (∀ i, W3.drew.cell? ⟨ab, i, none⟩ = (#[.int .i64 g1, .int .i64 s1] : Array Value)[i]?) ∧ (∀ i, W3.drew.cell? ⟨bb, i, none⟩ = (#[.int .i64 g2, .int .i64 s2] : Array Value)[i]?)) := X0.out.all
      go_region_held3 (fun w' => ((∀ i, w'.cell? ⟨cb, i, none⟩ = (#[.int .i64 n, .int .i64 S, .int .i64 T, .slice a3 (n + 1) c3, .slice a4 m c4, .slice a5 m c5, .slice a6 m c6, .slice a7 m c7, .slice a8 m c8] : Array Value)[i]?) ∧ (∀ i, w'.cell? ⟨pb, i, none⟩ = (#[.slice ra rl rc2, .slice ea2 el ec2, .slice none 0 0] : Array Value)[i]?) ∧ (∀ i, w'.cell? ⟨ab, i, none⟩ = (#[.int .i64 g1, .int .i64 s1] : Array Value)[i]?) ∧ (∀ i, w'.cell? ⟨bb, i, none⟩ = (#[.int .i64 g2, .int .i64 s2] : Array Value)[i]?)))
        (first | exact C0 | exact C1 | exact C2 | exact C3 | exact C4 | exact C5 | exact C6 | exact C7 | exact C8 | exact C9 | exact C10 | exact C11)
        ((first
          | (go_at_call 28; refine (awake20_any _).mono ?_; rintro e W11 ⟨rfl, hk⟩; have X11 := Lib.hid (X10.out.kept hk); have C11 : ((∀ i, W11.cell? ⟨cb, i, none⟩ = (#[.int .i64 n, .int .i64 S, .int .i64 T, .slice a3 (n + 1) c3, .slice a4 m c4, .slice a5 m c5, .slice a6 m c6, .slice a7 m c7, .slice a8 m c8] : Array Value)[i]?) ∧ (∀ i, W11.cell? ⟨pb, i, none⟩ = (#[.slice ra rl rc2, .slice ea2 el ec2, .slice none 0 0] : Array Value)[i]?) ∧ (∀ i, W11.cell? ⟨ab, i, none⟩ = (#[.int .i64 g1, .int .i64 s1] : Array Value)[i]?) ∧ (∀ i, W11.cell? ⟨bb, i, none⟩ = (#[.int .i64 g2, .int .i64 s2] : Array Value)[i]?)) := X11.out.all; clear hk)
          | (go_at_call 34; refine ((HN2 _).out).mono ?_; rintro e W10 ⟨rfl, hk⟩; have X10 := Lib.hid (X9.out.kept hk); have C10 : ((∀ i, W10.cell? ⟨cb, i, none⟩ = (#[.int .i64 n, .int .i64 S, .int .i64 T, .slice a3 (n + 1) c3, .slice a4 m c4, .slice a5 m c5, .slice a6 m c6, .slice a7 m c7, .slice a8 m c8] : Array Value)[i]?) ∧ (∀ i, W10.cell? ⟨pb, i, none⟩ = (#[.slice ra rl rc2, .slice ea2 el ec2, .slice none 0 0] : Array Value)[i]?) ∧ (∀ i, W10.cell? ⟨ab, i, none⟩ = (#[.int .i64 g1, .int .i64 s1] : Array Value)[i]?) ∧ (∀ i, W10.cell? ⟨bb, i, none⟩ = (#[.int .i64 g2, .int .i64 s2] : Array Value)[i]?)) := X10.out.all; clear hk)
          | (go_at_call 27; refine ((HN1 _).out).mono ?_; rintro e W9 ⟨rfl, hk⟩; have X9 := Lib.hid (X8.out.kept hk); have C9 : ((∀ i, W9.cell? ⟨cb, i, none⟩ = (#[.int .i64 n, .int .i64 S, .int .i64 T, .slice a3 (n + 1) c3, .slice a4 m c4, .slice a5 m c5, .slice a6 m c6, .slice a7 m c7, .slice a8 m c8] : Array Value)[i]?) ∧ (∀ i, W9.cell? ⟨pb, i, none⟩ = (#[.slice ra rl rc2, .slice ea2 el ec2, .slice none 0 0] : Array Value)[i]?) ∧ (∀ i, W9.cell? ⟨ab, i, none⟩ = (#[.int .i64 g1, .int .i64 s1] : Array Value)[i]?) ∧ (∀ i, W9.cell? ⟨bb, i, none⟩ = (#[.int .i64 g2, .int .i64 s2] : Array Value)[i]?)) := X9.out.all; clear hk)
          | (go_at_call 33; refine ((HM2 _ X7.out).out).mono ?_; rintro e W8 ⟨rfl, hk⟩; have X8 := Lib.hid (X7.out.kept hk); have C8 : ((∀ i, W8.cell? ⟨cb, i, none⟩ = (#[.int .i64 n, .int .i64 S, .int .i64 T, .slice a3 (n + 1) c3, .slice a4 m c4, .slice a5 m c5, .slice a6 m c6, .slice a7 m c7, .slice a8 m c8] : Array Value)[i]?) ∧ (∀ i, W8.cell? ⟨pb, i, none⟩ = (#[.slice ra rl rc2, .slice ea2 el ec2, .slice none 0 0] : Array Value)[i]?) ∧ (∀ i, W8.cell? ⟨ab, i, none⟩ = (#[.int .i64 g1, .int .i64 s1] : Array Value)[i]?) ∧ (∀ i, W8.cell? ⟨bb, i, none⟩ = (#[.int .i64 g2, .int .i64 s2] : Array Value)[i]?)) := X8.out.all; clear hk)
          | (go_at_call 26; refine ((HM1 _ X6.out).out).mono ?_; rintro e W7 ⟨rfl, hk⟩; have X7 := Lib.hid (X6.out.kept hk); have C7 : ((∀ i, W7.cell? ⟨cb, i, none⟩ = (#[.int .i64 n, .int .i64 S, .int .i64 T, .slice a3 (n + 1) c3, .slice a4 m c4, .slice a5 m c5, .slice a6 m c6, .slice a7 m c7, .slice a8 m c8] : Array Value)[i]?) ∧ (∀ i, W7.cell? ⟨pb, i, none⟩ = (#[.slice ra rl rc2, .slice ea2 el ec2, .slice none 0 0] : Array Value)[i]?) ∧ (∀ i, W7.cell? ⟨ab, i, none⟩ = (#[.int .i64 g1, .int .i64 s1] : Array Value)[i]?) ∧ (∀ i, W7.cell? ⟨bb, i, none⟩ = (#[.int .i64 g2, .int .i64 s2] : Array Value)[i]?)) := X7.out.all; clear hk)
          | (go_at_call 30; refine (bools_eq _ _ _ _ D2 _ _ DX2.out DY.out rfl (Nat.le_trans HD2.out (by decide))).mono ?_; rintro e W6 ⟨rfl, hk⟩; have X6 := Lib.hid (X5.out.kept hk); have C6 : ((∀ i, W6.cell? ⟨cb, i, none⟩ = (#[.int .i64 n, .int .i64 S, .int .i64 T, .slice a3 (n + 1) c3, .slice a4 m c4, .slice a5 m c5, .slice a6 m c6, .slice a7 m c7, .slice a8 m c8] : Array Value)[i]?) ∧ (∀ i, W6.cell? ⟨pb, i, none⟩ = (#[.slice ra rl rc2, .slice ea2 el ec2, .slice none 0 0] : Array Value)[i]?) ∧ (∀ i, W6.cell? ⟨ab, i, none⟩ = (#[.int .i64 g1, .int .i64 s1] : Array Value)[i]?) ∧ (∀ i, W6.cell? ⟨bb, i, none⟩ = (#[.int .i64 g2, .int .i64 s2] : Array Value)[i]?)) := X6.out.all; clear hk)
          | (go_at_call 32; refine ((HRR _ X4.out).out).mono ?_; rintro e W5 ⟨ga, gc, rfl, h3, hk⟩; have X5 := Lib.hid (X4.out.kept hk); have C5 : ((∀ i, W5.cell? ⟨cb, i, none⟩ = (#[.int .i64 n, .int .i64 S, .int .i64 T, .slice a3 (n + 1) c3, .slice a4 m c4, .slice a5 m c5, .slice a6 m c6, .slice a7 m c7, .slice a8 m c8] : Array Value)[i]?) ∧ (∀ i, W5.cell? ⟨pb, i, none⟩ = (#[.slice ra rl rc2, .slice ea2 el ec2, .slice none 0 0] : Array Value)[i]?) ∧ (∀ i, W5.cell? ⟨ab, i, none⟩ = (#[.int .i64 g1, .int .i64 s1] : Array Value)[i]?) ∧ (∀ i, W5.cell? ⟨bb, i, none⟩ = (#[.int .i64 g2, .int .i64 s2] : Array Value)[i]?)) := X5.out.all; have DY := Lib.hid h3; have DX2 := Lib.hid (DX.out.kept hk); clear h3; clear hk)
          | (go_at_call 29; refine ((HR1 _ X3.out).out).mono ?_; rintro e W4 ⟨da, dc, rfl, h3, hk⟩; have X4 := Lib.hid (X3.out.kept hk); have C4 : ((∀ i, W4.cell? ⟨cb, i, none⟩ = (#[.int .i64 n, .int .i64 S, .int .i64 T, .slice a3 (n + 1) c3, .slice a4 m c4, .slice a5 m c5, .slice a6 m c6, .slice a7 m c7, .slice a8 m c8] : Array Value)[i]?) ∧ (∀ i, W4.cell? ⟨pb, i, none⟩ = (#[.slice ra rl rc2, .slice ea2 el ec2, .slice none 0 0] : Array Value)[i]?) ∧ (∀ i, W4.cell? ⟨ab, i, none⟩ = (#[.int .i64 g1, .int .i64 s1] : Array Value)[i]?) ∧ (∀ i, W4.cell? ⟨bb, i, none⟩ = (#[.int .i64 g2, .int .i64 s2] : Array Value)[i]?)) := X4.out.all; have DX := Lib.hid h3; clear h3; clear hk)
          | (go_at_call 15; refine (ints_at2 _ _ _ _ D1 _ _ RX2.out RY.out rfl (Nat.le_trans HD1.out (by decide))).mono ?_; rintro e W3 ⟨rfl, hk⟩; have X3 := Lib.hid (X2.out.kept hk); have C3 : ((∀ i, W3.cell? ⟨cb, i, none⟩ = (#[.int .i64 n, .int .i64 S, .int .i64 T, .slice a3 (n + 1) c3, .slice a4 m c4, .slice a5 m c5, .slice a6 m c6, .slice a7 m c7, .slice a8 m c8] : Array Value)[i]?) ∧ (∀ i, W3.cell? ⟨pb, i, none⟩ = (#[.slice ra rl rc2, .slice ea2 el ec2, .slice none 0 0] : Array Value)[i]?) ∧ (∀ i, W3.cell? ⟨ab, i, none⟩ = (#[.int .i64 g1, .int .i64 s1] : Array Value)[i]?) ∧ (∀ i, W3.cell? ⟨bb, i, none⟩ = (#[.int .i64 g2, .int .i64 s2] : Array Value)[i]?)) := X3.out.all; clear hk)
          | (go_at_call 31; refine ((HE2 _ X1.out).out).mono ?_; rintro e W2 ⟨ya, yc, rfl, h3, hk⟩; have X2 := Lib.hid (X1.out.kept hk); have C2 : ((∀ i, W2.cell? ⟨cb, i, none⟩ = (#[.int .i64 n, .int .i64 S, .int .i64 T, .slice a3 (n + 1) c3, .slice a4 m c4, .slice a5 m c5, .slice a6 m c6, .slice a7 m c7, .slice a8 m c8] : Array Value)[i]?) ∧ (∀ i, W2.cell? ⟨pb, i, none⟩ = (#[.slice ra rl rc2, .slice ea2 el ec2, .slice none 0 0] : Array Value)[i]?) ∧ (∀ i, W2.cell? ⟨ab, i, none⟩ = (#[.int .i64 g1, .int .i64 s1] : Array Value)[i]?) ∧ (∀ i, W2.cell? ⟨bb, i, none⟩ = (#[.int .i64 g2, .int .i64 s2] : Array Value)[i]?)) := X2.out.all; have RY := Lib.hid h3; have RX2 := Lib.hid (RX.out.kept hk); clear h3; clear hk)
          | (go_at_call 25; refine ((HE1 _ X0.out).out).mono ?_; rintro e W1 ⟨xa, xc, rfl, h3, hk⟩; have X1 := Lib.hid (X0.out.kept hk); have C1 : ((∀ i, W1.cell? ⟨cb, i, none⟩ = (#[.int .i64 n, .int .i64 S, .int .i64 T, .slice a3 (n + 1) c3, .slice a4 m c4, .slice a5 m c5, .slice a6 m c6, .slice a7 m c7, .slice a8 m c8] : Array Value)[i]?) ∧ (∀ i, W1.cell? ⟨pb, i, none⟩ = (#[.slice ra rl rc2, .slice ea2 el ec2, .slice none 0 0] : Array Value)[i]?) ∧ (∀ i, W1.cell? ⟨ab, i, none⟩ = (#[.int .i64 g1, .int .i64 s1] : Array Value)[i]?) ∧ (∀ i, W1.cell? ⟨bb, i, none⟩ = (#[.int .i64 g2, .int .i64 s2] : Array Value)[i]?)) := X1.out.all; have RX := Lib.hid h3; clear h3; clear hk)))
      go_wp2_with fail
      go_ret
      exact ⟨rfl, X11.out.kp⟩
theorem globalsTell_walk (N S T : Int) (a : Option Addr) (cap : Nat) (els : List (List Value)) (s1 : Option Addr) (cap1 : Nat) (z1 : List Int) (s2 : Option Addr) (cap2 : Nat) (z2 : List Int) (wk g1 q1 g2 q2 odd : Int) (w : World) (_wN : (Lit.int .i64 N).wf = true) (_wS : (Lit.int .i64 S).wf = true) (_wT : (Lit.int .i64 T).wf = true) (hrow : FlatRow [some .i64, some .i64, some .i64] w a cap els) (_hf : ∀ x ∈ els, fits [some .i64, some .i64, some .i64] x)
    (w1 : IntRow .i64 w s1 cap1 z1) (m1 : ∀ n ∈ z1, (Lit.int .i64 n).wf = true) (w2 : IntRow .i64 w s2 cap2 z2) (_m2 : ∀ n ∈ z2, (Lit.int .i64 n).wf = true) (b2 : SomeOr s2 z2.length cap2 ∧ cap2 * 8 ≤ 140737488351232) (_wk : (Lit.int .i64 wk).wf = true) (_g1 : (Lit.int .i64 g1).wf = true) (_q1 : (Lit.int .i64 q1).wf = true) (_g2 : (Lit.int .i64 g2).wf = true) (_q2 : (Lit.int .i64 q2).wf = true) (wo : (Lit.int .u8 odd).wf = true) :
    Calls Try.prog 11 #[.agg #[.int .i64 N, .int .i64 S, .int .i64 T, .slice a els.length cap], .slice s1 z1.length cap1, .slice s2 z2.length cap2, .int .i64 wk, .agg #[.int .i64 g1, .int .i64 q1], .agg #[.int .i64 g2, .int .i64 q2], .int .u8 odd] w fun e w' => e = .returned (.bool true) ∧ Kept w w' := by
  obtain ⟨xs, hl, hA, hx⟩ := ars_of_flat hrow
  have hle := hrow.le
  have hmo := hrow.most
  have l1 := w1.le
  have l1' := w1.most
  have l2 := w2.le
  unfold maxLen at hmo l1'
  have ho := bounds_u8 wo
  exact globalsTell_core N S T a els.length cap xs s1 cap1 z1 s2 cap2 z2 wk g1 q1 g2 q2 odd w hA hl hle hmo (fun x hx0 => bounds_i64 (hx x hx0).2.2) w1.rd (fun x hx0 => bounds_i64 (m1 x hx0)) (by omega) w2.rd l2 b2 ho.1 ho.2
end Go.Proofs.Yticeionjlknlcaa
