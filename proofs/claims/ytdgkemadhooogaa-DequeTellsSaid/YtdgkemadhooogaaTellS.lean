/- DequeTells: what the law holds in memory. -/
import Derived.Test.YtdgkemadhooogaaSideS
import Derived.Test.YtdgkemadhooogaaTellP
import Derived.Test.YtdgkemadhooogaaRefHeld11
namespace Go.Proofs.Ytdgkemadhooogaa
set_option linter.unusedVariables false
set_option linter.unusedSimpArgs false
open Go.RowKit

def zside : List Value := [.pointer none, .pointer none, .pointer none, .int .i64 0, .int .i64 0, .int .i64 0, .int .i64 0, .int .i64 0, .int .i64 0, .int .i64 0, .int .i64 0, .int .i64 0, .int .i64 0, .int .i64 0, .int .i64 0, .int .i64 0, .int .i64 0, .int .i64 0, .int .i64 0, .int .i64 0, .int .i64 0, .int .i64 0, .int .i64 0, .int .i64 0, .bool false, .bool false, .bool false]
def zsides : Array Value := (List.replicate 5 zside).flatten.toArray
theorem mk_sides (w : World) : (Instr.makeSlice 71 (.int .i64 5) (.int .i64 5)).run Try.prog w = .ok (.slice (some ⟨w.heap.size, 0, none⟩) 5 5) (w.alloc (.cells zsides 75)) := by kernel_rfl
def cellsOf (l : Lay) (k : Int) : Option Sd → List Value
  | none => zside
  | some d => SC d.kd d.mb l k ⟨d.m, d.lo, []⟩
theorem SC_xs (kd : Kd) (mb : Nat) (l : Lay) (k : Int) (m : DM) (lo : Bool) (xs ys : List Int) : SC kd mb l k ⟨m, lo, xs⟩ = SC kd mb l k ⟨m, lo, ys⟩ := by cases kd <;> rfl
theorem cellsOf_len (l : Lay) (k : Int) (x : Option Sd) : (cellsOf l k x).length = 27 := by
  cases x with
  | none => rfl
  | some d => exact SC_len _ _ _ _ _
theorem cellsOf_one (l : Lay) (k : Int) (x : Option Sd) : ∀ u ∈ cellsOf l k x, u.oneCell' = true := by
  cases x with
  | none => simp [cellsOf, zside, Value.oneCell']
  | some d =>
    obtain ⟨kd, mb, m, lo⟩ := d
    cases kd <;> simp [cellsOf, SC, RMA, Value.oneCell']
structure TS (w : World) (B lb bb g sg : Nat) (lv : Array Value) (l : Lay) (k : Int) (gm cap N : Nat) (sides : List (Option Sd)) (xs : List Int) (W : World) : Prop where
  kp : Kept w W
  lay : Blk W lb lv 24
  bank : Bnk W bb g xs
  rows : Rows W sg 27 75 (sides.map (cellsOf l k))
  mem : RB W gm cap xs
  hN : xs.length = N
  mach : ∀ (i : Nat) (d : Sd), sides[i]? = some (some d) → PB W d.mb d.kd.T l k d.m (d.kd.ex d.lo) ∧ B ≤ d.mb
  dist : ∀ (i j : Nat) (d d' : Sd), sides[i]? = some (some d) → sides[j]? = some (some d') → i ≠ j → d.mb ≠ d'.mb
  n0 : w.heap.size ≤ lb ∧ w.heap.size ≤ bb ∧ w.heap.size ≤ g ∧ w.heap.size ≤ sg
  n1 : lb < B ∧ bb < B ∧ g < B ∧ sg < B ∧ B ≤ W.heap.size
  n2 : ¬ sg = g ∧ ¬ sg = bb ∧ ¬ sg = lb ∧ ¬ lb = g ∧ ¬ lb = bb
theorem set_get {α : Type} {l : List α} {i j : Nat} {x y : α} (h : (l.set i x)[j]? = some y) : (i = j ∧ x = y) ∨ (i ≠ j ∧ l[j]? = some y) := by
  rw [List.getElem?_set] at h
  split at h
  · rename_i e
    split at h
    · cases h; exact .inl ⟨e, rfl⟩
    · cases h
  · rename_i e
    exact .inr ⟨e, h⟩
section
variable {w W W' : World} {B lb bb g sg : Nat} {lv : Array Value} {l : Lay} {k : Int} {gm cap N : Nat} {sides : List (Option Sd)} {xs : List Int}
theorem TS.kept (h : TS w B lb bb g sg lv l k gm cap N sides xs W) (q : Kept W W') : TS w B lb bb g sg lv l k gm cap N sides xs W' :=
  ⟨h.kp.trans q, h.lay.kept q, h.bank.kept q, h.rows.kept q, h.mem.kept q, h.hN, fun i d hd => ⟨(h.mach i d hd).1.kept q, (h.mach i d hd).2⟩, h.dist, h.n0, by have := h.n1; have := q.size; omega, h.n2⟩
/-- Where things lie apart from each other. -/
theorem TS.ne (h : TS w B lb bb g sg lv l k gm cap N sides xs W) {i : Nat} {d : Sd} (hd : sides[i]? = some (some d)) : ¬ d.mb = g ∧ ¬ d.mb = bb ∧ ¬ sg = g ∧ ¬ sg = bb ∧ ¬ sg = d.mb ∧ ¬ gm = g ∧ ¬ gm = d.mb ∧ ¬ gm = sg := by
  have n1 := h.n1
  have n2 := h.n2
  obtain ⟨hp, hB⟩ := h.mach i d hd
  have hm := h.mem
  refine ⟨by omega, by omega, n2.1, n2.2.1, by omega, fun e => ?_, fun e => ?_, fun e => ?_⟩
  · subst e
    exact blk_row_ne h.bank.row hm (by decide) rfl
  · subst e
    refine blk_row_ne hp hm ?_ rfl
    cases d.kd <;> (simp only [Kd.T]; decide)
  · subst e
    exact blk_row_ne h.rows.blk hm (by decide) rfl
/-- A new machine stands in a side. -/
theorem TS.begun (h : TS w B lb bb g sg lv l k gm cap N sides xs W) {W1 W2 : World} (q : Kept W W1) {kd : Kd} {mb i : Nat} (hP : PB W1 mb kd.T l k ⟨0, 0, 0, 0, false, false⟩ (kd.ex false)) (hmb : W.heap.size ≤ mb)
    (hR : Rows W2 sg 27 75 ((sides.map (cellsOf l k)).set i (SC kd mb l k (newKS [])))) (hU : Upd (fun x => x = sg) W1 W2) :
    TS w B lb bb g sg lv l k gm cap N (sides.set i (some ⟨kd, mb, ⟨0, 0, 0, 0, false, false⟩, false⟩)) xs W2 := by
  have n0 := h.n0
  have n1 := h.n1
  have n2 := h.n2
  have hs := q.size
  have hs2 := hU.size
  have hgm : ¬ gm = sg := fun e => by
    have hm := h.mem
    subst e
    exact blk_row_ne h.rows.blk hm (by decide) rfl
  refine ⟨(h.kp.trans q).then hU (fun i hi e => by omega), (h.lay.kept q).upd hU (by omega), (h.bank.kept q).upd hU (by omega) (by omega), ?_, (h.mem.kept q).upd hU hgm, h.hN, fun j d hd => ?_, fun a b d d' ha hb hab => ?_, n0, by omega, n2⟩
  · rw [List.map_set]
    exact hR
  · rcases set_get hd with ⟨-, e⟩ | ⟨-, e⟩
    · cases e
      exact ⟨PB.upd hP hU (by simp only; omega), by simp only; omega⟩
    · obtain ⟨p1, p2⟩ := h.mach j d e
      exact ⟨PB.upd (PB.kept p1 q) hU (by omega), p2⟩
  · rcases set_get ha with ⟨e1, e⟩ | ⟨e1, e⟩ <;> rcases set_get hb with ⟨e3, e4⟩ | ⟨e3, e4⟩
    · omega
    · cases e
      have := (h.mach b d' e4).1.lt
      simp only
      omega
    · cases e4
      have := (h.mach a d e).1.lt
      simp only
      omega
    · exact h.dist a b d d' e e4 hab
/-- A side made its step. -/
theorem TS.step (h : TS w B lb bb g sg lv l k gm cap N sides xs W) {i : Nat} {d : Sd} (hd : sides[i]? = some (some d)) {s' : KS} (hl : s'.xs.length = N) {g' cap' : Nat}
    (hR : Rows W' sg 27 75 ((sides.map (cellsOf l k)).set i (SC d.kd d.mb l k s'))) (hP : PB W' d.mb d.kd.T l k s'.m (d.kd.ex s'.lo)) (hb : Bnk W' bb g s'.xs) (hm : RB W' g' cap' s'.xs) (hU : Upd (fun j => j = g ∨ j = d.mb ∨ j = sg) W W') :
    TS w B lb bb g sg lv l k g' cap' N (sides.set i (some ⟨d.kd, d.mb, s'.m, s'.lo⟩)) s'.xs W' := by
  have n0 := h.n0
  have n1 := h.n1
  have n2 := h.n2
  obtain ⟨p1, p2⟩ := h.mach i d hd
  have hs := hU.size
  refine ⟨h.kp.then hU (fun i hi e => by omega), h.lay.upd hU (by omega), hb, ?_, hm, hl, fun j d1 hj => ?_, fun a b d1 d2 ha hb2 hab => ?_, n0, by omega, n2⟩
  · rw [List.map_set]
    have e : cellsOf l k (some ⟨d.kd, d.mb, s'.m, s'.lo⟩) = SC d.kd d.mb l k s' := SC_xs _ _ _ _ _ _ _ _
    rw [e]
    exact hR
  · rcases set_get hj with ⟨-, e⟩ | ⟨e1, e⟩
    · cases e
      exact ⟨hP, p2⟩
    · obtain ⟨r1, r2⟩ := h.mach j d1 e
      have := h.dist i j d d1 hd e e1
      exact ⟨PB.upd r1 hU (by omega), r2⟩
  · rcases set_get ha with ⟨e1, e⟩ | ⟨e1, e⟩ <;> rcases set_get hb2 with ⟨e3, e4⟩ | ⟨e3, e4⟩
    · omega
    · cases e
      exact h.dist i b d d2 hd e4 (by omega)
    · cases e4
      exact h.dist a i d1 d e hd (by omega)
    · exact h.dist a b d1 d2 e e4 hab
end
theorem side_rows {w : World} {sg : Nat} (h : Blk w sg zsides 75) (l : Lay) (k : Int) : Rows w sg 27 75 ((List.replicate 5 none).map (cellsOf l k)) := by
  refine ⟨?_, fun x hx => ?_⟩
  · rw [List.map_replicate]
    exact h
  · obtain ⟨y, -, rfl⟩ := List.mem_map.1 hx
    exact cellsOf_len _ _ _
/-- What begin hands back, of any kind. -/
def BeginAny (owner : Bool) (l : Lay) (k : Int) (w : World) (e : Ending) (w' : World) : Prop := ∃ kd mb, e = .returned (.agg (SC kd mb l k (newKS [])).toArray) ∧ PB w' mb kd.T l k ⟨0, 0, 0, 0, false, false⟩ (kd.ex false) ∧ w.heap.size ≤ mb ∧ Kept w w' ∧ (owner = true → kd ≠ .steal) ∧ (owner = false → kd = .steal)
theorem begin_any (l : Lay) (k who what v : Int) (w : World) (h0 : 0 ≤ what) (h1 : what ≤ 255) (owner : Bool) : Calls Try.prog 26 #[l.val, .int .i64 k, .agg #[.int .u8 who, .int .u8 what, .int .i64 v], .bool owner] w (BeginAny owner l k w) := by
  cases owner with
  | false =>
    refine (begin_steal l k who what v w).mono ?_
    rintro e w' ⟨mb, rfl, q1, q2, q3⟩
    exact ⟨_, mb, rfl, q1, q2, q3, fun e => (by cases e), fun _ => rfl⟩
  | true =>
    by_cases hw : what % 3 < 2
    · refine (begin_push l k who what v w hw h0 h1).mono ?_
      rintro e w' ⟨mb, rfl, q1, q2, q3⟩
      exact ⟨_, mb, rfl, q1, q2, q3, fun _ e => (by cases e), fun e => (by cases e)⟩
    · refine (begin_pop l k who what v w hw h0 h1).mono ?_
      rintro e w' ⟨mb, rfl, q1, q2, q3⟩
      exact ⟨_, mb, rfl, q1, q2, q3, fun _ e => (by cases e), fun e => (by cases e)⟩
theorem rb_made (W : World) (s : Nat) (hs : s ≤ 524288) : RB (W.alloc (.cells (zeros s (.int .i64 0)) 2)) W.heap.size s (List.replicate s 0) := by
  have := World.ownsRow_lit (base := 0) (e := 2) (size := 1) W (zeros s (.int .i64 0)) s (Nat.zero_le _) (by unfold maxLen; omega) (by simp [zeros])
  unfold RB
  simpa [zeros] using this
/-- Whether a side has none that goes on. -/
def idle : Option Sd → Bool
  | none => true
  | some d => d.m.done
/-- The five cells that the law looks at. -/
theorem side_cells {w : World} {sg i o : Nat} {l : Lay} {k : Int} {sides : List (Option Sd)} {x : Option Sd} (h : Rows w sg 27 75 (sides.map (cellsOf l k))) (hx : sides[i]? = some x) : (sides.map (cellsOf l k))[i]? = some (cellsOf l k x) := by
  rw [List.getElem?_map, hx]; rfl
end Go.Proofs.Ytdgkemadhooogaa
