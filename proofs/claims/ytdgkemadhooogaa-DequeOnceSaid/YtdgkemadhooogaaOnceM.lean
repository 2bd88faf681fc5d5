/- DequeOnce: how its state in memory goes on; marks in maps. No walk. -/
import Derived.Test.YtdgkemadhooogaaOnceS
import Derived.Test.YtdgkemadhooogaaMap64
namespace Go.Proofs.Ytdgkemadhooogaa
set_option linter.unusedVariables false
set_option linter.unusedSimpArgs false
open Go.RowKit

theorem rcell_steal (mb : Nat) (v : Int) : (rcell none v).set 2 (.pointer (some ⟨mb, 0, none⟩)) = rcell (some ⟨.steal, mb, ⟨0, 0, 0, 0, false, false⟩, false⟩) v := rfl
theorem rcell_pop (mb : Nat) (v : Int) : (rcell none v).set 1 (.pointer (some ⟨mb, 0, none⟩)) = rcell (some ⟨.pop, mb, ⟨0, 0, 0, 0, false, false⟩, false⟩) v := rfl
theorem rcell_push (mb : Nat) (v u : Int) : ((rcell none v).set 0 (.pointer (some ⟨mb, 0, none⟩))).set 3 (.int .i64 u) = rcell (some ⟨.push u, mb, ⟨0, 0, 0, 0, false, false⟩, false⟩) u := rfl
section
variable {w W W' W1 : World} {B lb bb g sg hb : Nat} {lv : Array Value} {l : Lay} {tp r : Nat} {nx n : Int} {P G S : List Int} {T : Int} {L xs : List Int} {o : Option Sd} {sides : List (Option Sd)} {vals : List Int}
theorem OS.mono (h : OS w B lb bb g sg hb lv l tp r nx n P G S T L xs o sides vals W) {m : Int} (hm : n ≤ m) : OS w B lb bb g sg hb lv l tp r nx m P G S T L xs o sides vals W :=
  ⟨h.da, h.rows, h.log, h.di.mono hm, h.vl, h.mach, h.dist, h.n0, h.n2⟩
theorem RunEnd.upd {B sg bb g hb i : Nat} {ls : List (List Value)} {v : Int} {kd : Kd} {mb : Nat} {l : Lay} {k : Int} {s : KS} {e : Ending} (h : RunEnd B sg bb g hb i ls v kd mb l k s P G S W e W') :
    Upd (fun j => j = g ∨ j = mb ∨ j = sg ∨ j = hb ∨ (B ≤ j ∧ ∃ arr, Blk W j arr 2)) W W' := by
  obtain ⟨vp, vg, vs, -, -, -, -, -, hU⟩ := h
  exact hU
theorem rput {w : World} {sg k i j : Nat} {T : TypeId} {ls : List (List Value)} {c c' : List Value} {v : Value} (h : Rows w sg k T ls) (hi : ls[i]? = some c) (hj : j < k) (hc : c.set j v = c') : Rows (w.setCell ⟨sg, i * k + j, none⟩ v) sg k T (ls.set i c') := by
  obtain ⟨h1, h2⟩ := List.getElem?_eq_some_iff.1 hi
  have := h.put h1 hj v
  rw [h2, hc] at this
  exact this
theorem OS.beginSteal (h : OS w B lb bb g sg hb lv l tp r nx n P G S T L xs o sides vals W) (q : Kept W W1) {mb i : Nat} {v : Int} (hP : PB W1 mb (Kd.T .steal) l 0 ⟨0, 0, 0, 0, false, false⟩ (Kd.ex .steal false)) (hmb : W.heap.size ≤ mb) (hx : sides[i]? = some none) (hv : vals[i]? = some v) (hi1 : 1 ≤ i) (hi5 : i < 5) :
    OS w B lb bb g sg hb lv l tp r nx n P G S T L xs o (sides.set i (some ⟨.steal, mb, ⟨0, 0, 0, 0, false, false⟩, false⟩)) (vals.set i v) (W1.setCell ⟨sg, i * 4 + 2, none⟩ (.pointer (some ⟨mb, 0, none⟩))) :=
  h.begun q hP hmb (fun u e => by cases e) hi5 (rput (h.rows.kept q) (rcells_at hx hv) (by omega) (rcell_steal mb v)) (updCell2 _ _ _ _) (h.di.thief hi1 hi5 mb)
theorem OS.beginPop (h : OS w B lb bb g sg hb lv l tp r nx n P G S T L xs o sides vals W) (q : Kept W W1) {mb i : Nat} {v : Int} (hP : PB W1 mb (Kd.T .pop) l 0 ⟨0, 0, 0, 0, false, false⟩ (Kd.ex .pop false)) (hmb : W.heap.size ≤ mb) (hx : sides[i]? = some none) (hv : vals[i]? = some v) (hi0 : i = 0) :
    ∃ o', OS w B lb bb g sg hb lv l tp r nx n P G S T L xs o' (sides.set i (some ⟨.pop, mb, ⟨0, 0, 0, 0, false, false⟩, false⟩)) (vals.set i v) (W1.setCell ⟨sg, i * 4 + 1, none⟩ (.pointer (some ⟨mb, 0, none⟩))) := by
  have hR := rput (v := .pointer (some ⟨mb, 0, none⟩)) (h.rows.kept q) (rcells_at hx hv) (show 1 < 4 by omega) (rcell_pop mb v)
  have ho : o = none := by
    have := h.di.ho
    subst hi0
    rw [hx] at this
    exact (Option.some.inj this).symm
  have hd := h.di
  rw [ho] at hd
  have hd2 := hd.pop mb
  rw [show sides.set 0 = sides.set i by rw [hi0]] at hd2
  exact ⟨_, h.begun q hP hmb (fun u e => by cases e) (by omega) hR (updCell2 _ _ _ _) hd2⟩
theorem OS.beginPush (h : OS w B lb bb g sg hb lv l tp r nx n P G S T L xs o sides vals W) (q : Kept W W1) {mb i : Nat} {v ny : Int} (hP : PB W1 mb (Kd.T (.push ny)) l 0 ⟨0, 0, 0, 0, false, false⟩ (Kd.ex (.push ny) false)) (hmb : W.heap.size ≤ mb) (hx : sides[i]? = some none) (hv : vals[i]? = some v) (hi0 : i = 0) (hny : nx + 1 = ny) :
    ∃ o', OS w B lb bb g sg hb lv l tp r ny (n + 1) P G S T L xs o' (sides.set i (some ⟨.push ny, mb, ⟨0, 0, 0, 0, false, false⟩, false⟩)) (vals.set i ny) ((W1.setCell ⟨sg, i * 4, none⟩ (.pointer (some ⟨mb, 0, none⟩))).setCell ⟨sg, i * 4 + 3, none⟩ (.int .i64 ny)) := by
  have hR1 := rput (v := .pointer (some ⟨mb, 0, none⟩)) (h.rows.kept q) (rcells_at hx hv) (show 0 < 4 by omega) rfl
  have hl : i < (rcells sides vals).length := (List.getElem?_eq_some_iff.1 (rcells_at hx hv)).1
  have hR2 := rput (v := .int .i64 ny) hR1 (List.getElem?_set_self hl) (show 3 < 4 by omega) (rcell_push mb v ny)
  rw [List.set_set] at hR2
  have ho : o = none := by
    have := h.di.ho
    subst hi0
    rw [hx] at this
    exact (Option.some.inj this).symm
  have hd := h.di
  rw [ho] at hd
  have hd2 := hd.push mb
  rw [hny] at hd2
  rw [show sides.set 0 = sides.set i by rw [hi0]] at hd2
  exact ⟨_, h.begun q hP hmb (fun u e => by cases e; rfl) (by omega) hR2 ((updCell2 _ _ _ _).trans (updCell2 _ _ _ _)) hd2⟩
end
/-- What was begun is marked. -/
def Bg (nx : Int) (mc k : Nat) (mh : List Int) : Prop := mh.length = 1001 ∧ mc ≤ k ∧ ∀ v : Nat, 1 ≤ v → (v : Int) ≤ nx → mh.getD v 0 = 1
theorem Bg.start : Bg 0 0 0 (List.replicate 1001 0) := ⟨List.length_replicate, by omega, fun v h1 h2 => by omega⟩
theorem Bg.on {nx : Int} {mc k : Nat} {mh : List Int} (h : Bg nx mc k mh) : Bg nx mc (k + 1) mh := ⟨h.1, by have := h.2.1; omega, h.2.2⟩
theorem Bg.next {nx : Int} {mc k jn : Nat} {mh : List Int} (h : Bg nx mc k mh) (hj : nx + 1 = (jn : Int)) (hb : jn ≤ 1000) : Bg (jn : Int) (mc + 1) (k + 1) (mh.set jn 1) := by
  have h1 := h.1
  refine ⟨by simpa using h1, by have := h.2.1; omega, fun v h2 h3 => ?_⟩
  by_cases e : v = jn
  · subst e
    simp [List.getD, show v < mh.length by omega]
  · have := h.2.2 v h2 (by omega)
    simpa [List.getD, Ne.symm e] using this
/-- A map's marks: 1 at those that p says, else nothing. -/
def Mk (p : Int → Bool) (h : List Int) (l : List Bool) : Prop := h.length = 1001 ∧ l.length = 1001 ∧ ∀ v : Nat, v ≤ 1000 → h.getD v 0 = (if p v then 1 else 0) ∧ l.getD v false = p v
theorem Mk.start {p : Int → Bool} (hp : ∀ x, p x = false) : Mk p (List.replicate 1001 0) (List.replicate 1001 false) := by
  have g : ∀ (n : Nat), n = 1001 → (List.replicate n (0 : Int)).length = 1001 ∧ (List.replicate n false).length = 1001 ∧ ∀ v : Nat, v ≤ 1000 → (List.replicate n (0 : Int)).getD v 0 = (if p v then 1 else 0) ∧ (List.replicate n false).getD v false = p v := by
    intro n hn
    refine ⟨by rw [List.length_replicate, hn], by rw [List.length_replicate, hn], fun v hv => ?_⟩
    rw [hp]
    simp [List.getD, show v < n by omega]
  exact g 1001 rfl
theorem Mk.add {p p' : Int → Bool} {h : List Int} {l : List Bool} (q : Mk p h l) {v : Nat} (hv : v ≤ 1000) (hp : ∀ x, p' x = (p x || x == (v : Int))) : Mk p' (h.set v 1) (l.set v true) := by
  obtain ⟨h1, h2, h3⟩ := q
  refine ⟨by simpa using h1, by simpa using h2, fun u hu => ?_⟩
  rw [hp]
  by_cases e : u = v
  · subst e
    simp [List.getD, show u < h.length by omega, show u < l.length by omega]
  · have := h3 u hu
    have e2 : ((u : Int) == (v : Int)) = false := by simp; omega
    rw [e2, Bool.or_false]
    simpa [List.getD, Ne.symm e] using this
theorem Mk.del {p p' : Int → Bool} {h : List Int} {l : List Bool} (q : Mk p h l) {v : Nat} (hv : v ≤ 1000) (hp : ∀ x, p' x = (p x && x != (v : Int))) : Mk p' (h.set v 0) (l.set v false) := by
  obtain ⟨h1, h2, h3⟩ := q
  refine ⟨by simpa using h1, by simpa using h2, fun u hu => ?_⟩
  rw [hp]
  by_cases e : u = v
  · subst e
    simp [List.getD, show u < h.length by omega, show u < l.length by omega]
  · have := h3 u hu
    have e2 : ((u : Int) != (v : Int)) = true := by simp; omega
    rw [e2, Bool.and_true]
    simpa [List.getD, Ne.symm e] using this
theorem Mk.same {p p' : Int → Bool} {h : List Int} {l : List Bool} (q : Mk p h l) (hp : ∀ x, p' x = p x) : Mk p' h l := ⟨q.1, q.2.1, fun v hv => by rw [hp]; exact q.2.2 v hv⟩
theorem Mk.none {p : Int → Bool} {h : List Int} {l : List Bool} (q : Mk p h l) (hp : ∀ x, p x = false) : l.count true = 0 := by
  rw [List.count_eq_zero]
  intro hm
  obtain ⟨i, hi, e⟩ := List.mem_iff_getElem.1 hm
  have := (q.2.2 i (by have := q.2.1; omega)).2
  rw [hp] at this
  simp [List.getD, List.getElem?_eq_getElem hi, e] at this
theorem take_more {X : List Int} {k : Nat} {v : Int} (h : X[k]? = some v) (x : Int) : (X.take (k + 1)).contains x = ((X.take k).contains x || x == v) := by
  rw [List.take_add_one, h]
  simp [List.contains_eq_mem, List.mem_append, Bool.decide_or]
  rfl
/-- Rising numbers: the next one is not among those ahead. -/
theorem nodup_next {X : List Int} (hn : X.Nodup) {k : Nat} {v : Int} (h : X[k]? = some v) : (X.take k).contains v = false := by
  obtain ⟨h1, h2⟩ := List.getElem?_eq_some_iff.1 h
  rw [Bool.eq_false_iff]
  intro hm
  have hm : v ∈ X.take k := by simpa using hm
  have e : X = X.take k ++ v :: X.drop (k + 1) := by
    rw [← h2, ← List.drop_eq_getElem_cons h1, List.take_append_drop]
  rw [e] at hn
  exact (List.nodup_append.1 hn).2.2 v hm v (by simp) rfl
theorem filter_next {X : List Int} {p : Int → Bool} {k : Nat} {v : Int} (h : X[k]? = some v) : (X.take (k + 1)).filter p = (X.take k).filter p ++ (if p v then [v] else []) := by
  rw [List.take_add_one, h, List.filter_append]
  simp only [Option.toList_some, List.filter_cons, List.filter_nil]
end Go.Proofs.Ytdgkemadhooogaa
