/- DequeOnce: what the law holds in memory. -/
import Derived.Test.YtdgkemadhooogaaRunT
import Derived.Test.YtdgkemadhooogaaDeqLaw
namespace Go.Proofs.Ytdgkemadhooogaa
set_option linter.unusedVariables false
set_option linter.unusedSimpArgs false
open Go.RowKit

/-- Rising numbers from a to b are at most as many. -/
theorem rising_len : ∀ (l : List Int) (a b : Int), l.Pairwise (· < ·) → (∀ x ∈ l, a ≤ x ∧ x ≤ b) → a ≤ b + 1 → (l.length : Int) ≤ b + 1 - a
  | [], a, b, _, _, h => by simp; omega
  | x :: l, a, b, h1, h2, h3 => by
    have h4 := (List.pairwise_cons.1 h1)
    have h5 := h2 x (by simp)
    have := rising_len l (x + 1) b h4.2 (fun y hy => ⟨by have := h4.1 y hy; omega, (h2 y (by simp [hy])).2⟩) (by omega)
    simp only [List.length_cons]
    omega
theorem DI.lens {nx n : Int} {tp r : Nat} {P G S : List Int} {T : Int} {L xs : List Int} {o : Option Sd} {sides : List (Option Sd)} (h : DI nx n tp r P G S T L xs o sides) (hn : n ≤ 1000) : P.length ≤ 2000 ∧ G.length ≤ 2000 ∧ S.length ≤ 2000 := by
  have hb := h.bd
  have q := h.log
  have h1 := rising_len P 1 nx q.srt q.le (by omega)
  have h2 := q.perm.length_eq
  simp only [List.length_append] at h2
  have h3 := rising_len S 1 nx (q.ssrt.sublist (List.sublist_append_left _ _)) (fun x hx => q.le x (q.perm.mem_iff.2 (by simp [q.sub x hx]))) (by omega)
  omega
/-- The runners' cells. -/
def rcells (sides : List (Option Sd)) (vals : List Int) : List (List Value) := List.zipWith rcell sides vals
theorem rcells_at {sides : List (Option Sd)} {vals : List Int} {i : Nat} {x : Option Sd} {v : Int} (h1 : sides[i]? = some x) (h2 : vals[i]? = some v) : (rcells sides vals)[i]? = some (rcell x v) := by
  simp [rcells, List.getElem?_zipWith, h1, h2]
theorem rcells_set {sides : List (Option Sd)} {vals : List Int} {i : Nat} {x : Option Sd} {v : Int} (h2 : vals[i]? = some v) : (rcells sides vals).set i (rcell x v) = rcells (sides.set i x) vals := by
  apply List.ext_getElem?
  intro j
  simp only [rcells, List.getElem?_set, List.getElem?_zipWith, List.length_zipWith]
  by_cases e : i = j
  · subst e
    obtain ⟨h3, h4⟩ := List.getElem?_eq_some_iff.1 h2
    simp only [if_true, h2]
    by_cases h5 : i < sides.length
    · simp [h5, h3]; omega
    · simp [h5]; omega
  · simp [e]
theorem rcells_set2 {sides : List (Option Sd)} {vals : List Int} {i : Nat} {x : Option Sd} {v : Int} (hl : sides.length = vals.length) : (rcells sides vals).set i (rcell x v) = rcells (sides.set i x) (vals.set i v) := by
  apply List.ext_getElem?
  intro j
  simp only [rcells, List.getElem?_set, List.getElem?_zipWith, List.length_zipWith]
  by_cases e : i = j
  · subst e
    by_cases h5 : i < sides.length
    · simp [h5, show i < vals.length by omega]; omega
    · simp [h5]; omega
  · simp [e]
structure OS (w : World) (B lb bb g sg hb : Nat) (lv : Array Value) (l : Lay) (tp r : Nat) (nx n : Int) (P G S : List Int) (T : Int) (L xs : List Int) (o : Option Sd) (sides : List (Option Sd)) (vals : List Int) (W : World) : Prop where
  da : DA w B lb bb g lv xs W
  rows : Rows W sg 4 40 (rcells sides vals)
  log : ∃ vp vg vs, LogB B hb vp vg vs P G S W
  di : DI nx n tp r P G S T L xs o sides
  vl : vals.length = 5
  mach : ∀ (i : Nat) (d : Sd), sides[i]? = some (some d) → PB W d.mb d.kd.T l 0 d.m (d.kd.ex d.lo) ∧ B ≤ d.mb ∧ ∀ v, d.kd = .push v → vals[i]? = some v
  dist : ∀ (i j : Nat) (d d' : Sd), sides[i]? = some (some d) → sides[j]? = some (some d') → i ≠ j → d.mb ≠ d'.mb
  n0 : w.heap.size ≤ sg ∧ w.heap.size ≤ hb ∧ sg < B ∧ hb < B
  n2 : ¬ sg = g ∧ ¬ sg = bb ∧ ¬ sg = lb ∧ ¬ hb = g ∧ ¬ hb = bb ∧ ¬ hb = lb ∧ ¬ hb = sg
theorem oset_get {α : Type} {l : List α} {i j : Nat} {x y : α} (h : (l.set i x)[j]? = some y) : (i = j ∧ x = y) ∨ (i ≠ j ∧ l[j]? = some y) := by
  rw [List.getElem?_set] at h
  split at h
  · rename_i e
    split at h
    · cases h; exact .inl ⟨e, rfl⟩
    · cases h
  · rename_i e
    exact .inr ⟨e, h⟩
theorem kd_T (kd : Kd) : kd.T ≠ 2 := by cases kd <;> (simp only [Kd.T]; decide)
section
variable {w W W' : World} {B lb bb g sg hb : Nat} {lv : Array Value} {l : Lay} {tp r : Nat} {nx n : Int} {P G S : List Int} {T : Int} {L xs : List Int} {o : Option Sd} {sides : List (Option Sd)} {vals : List Int}
theorem OS.kept (h : OS w B lb bb g sg hb lv l tp r nx n P G S T L xs o sides vals W) (q : Kept W W') : OS w B lb bb g sg hb lv l tp r nx n P G S T L xs o sides vals W' :=
  ⟨h.da.kept q, h.rows.kept q, by obtain ⟨a, b, c, hl⟩ := h.log; exact ⟨a, b, c, hl.kept q⟩, h.di, h.vl, fun i d hd => ⟨(h.mach i d hd).1.kept q, (h.mach i d hd).2⟩, h.dist, h.n0, h.n2⟩
/-- What lies ahead of B, beside all that is looked at, may change. -/
theorem OS.aside (h : OS w B lb bb g sg hb lv l tp r nx n P G S T L xs o sides vals W) {mb : Nat} (q : Upd (fun k => k = mb) W W') (h1 : mb < B ∧ w.heap.size ≤ mb ∧ ¬ mb = lb ∧ ¬ mb = bb ∧ ¬ mb = g ∧ ¬ mb = sg ∧ ¬ mb = hb) : OS w B lb bb g sg hb lv l tp r nx n P G S T L xs o sides vals W' := by
  have hs := q.size
  have n := h.da.nz
  refine ⟨⟨h.da.kp.then q (fun i hi e => by omega), h.da.l.upd q (by omega), h.da.b.upd q (by omega) (by omega), by omega⟩, h.rows.upd q (by omega), ?_, h.di, h.vl, fun i d hd => ?_, h.dist, h.n0, h.n2⟩
  · obtain ⟨a, b, c, hl⟩ := h.log
    exact ⟨a, b, c, hl.mach q (by omega) (fun k hk hB => by omega)⟩
  · obtain ⟨p1, p2⟩ := h.mach i d hd
    exact ⟨PB.upd p1 q (by omega), p2⟩
theorem OS.ne (h : OS w B lb bb g sg hb lv l tp r nx n P G S T L xs o sides vals W) {i : Nat} {d : Sd} (hd : sides[i]? = some (some d)) : ¬ d.mb = g ∧ ¬ d.mb = bb ∧ ¬ sg = g ∧ ¬ sg = bb ∧ ¬ sg = d.mb ∧ ¬ hb = g ∧ ¬ hb = d.mb ∧ ¬ hb = sg ∧ ¬ hb = bb ∧ sg < B ∧ g < B := by
  have n0 := h.n0
  have n2 := h.n2
  have n := h.da.nz
  obtain ⟨hp, hB, -⟩ := h.mach i d hd
  omega
/-- A new machine stands in a side: the cells of its row were stored. -/
theorem OS.begun (h : OS w B lb bb g sg hb lv l tp r nx n P G S T L xs o sides vals W) {W1 W2 : World} (q : Kept W W1) {kd : Kd} {mb i : Nat} (hP : PB W1 mb kd.T l 0 ⟨0, 0, 0, 0, false, false⟩ (kd.ex false)) (hmb : W.heap.size ≤ mb) {v : Int} (hv : ∀ u, kd = .push u → v = u) (hi : i < 5)
    (hR : Rows W2 sg 4 40 ((rcells sides vals).set i (rcell (some ⟨kd, mb, ⟨0, 0, 0, 0, false, false⟩, false⟩) v))) (hU : Upd (fun x => x = sg) W1 W2) {nx' n' : Int} {o' : Option Sd}
    (hD : DI nx' n' tp r P G S T L xs o' (sides.set i (some ⟨kd, mb, ⟨0, 0, 0, 0, false, false⟩, false⟩))) :
    OS w B lb bb g sg hb lv l tp r nx' n' P G S T L xs o' (sides.set i (some ⟨kd, mb, ⟨0, 0, 0, 0, false, false⟩, false⟩)) (vals.set i v) W2 := by
  have n0 := h.n0
  have n2 := h.n2
  have nz := h.da.nz
  have hs := q.size
  have hs2 := hU.size
  refine ⟨⟨(h.da.kp.trans q).then hU (fun i hi e => by omega), (h.da.l.kept q).upd hU (by omega), (h.da.b.kept q).upd hU (by omega) (by omega), by omega⟩, ?_, ?_, hD, by rw [List.length_set]; exact h.vl, fun j d hd => ?_, fun a b d d' ha hb hab => ?_, n0, n2⟩
  · rw [← rcells_set2 (by rw [h.di.len, h.vl])]
    exact hR
  · obtain ⟨a, b, c, hl⟩ := h.log
    exact ⟨a, b, c, (hl.kept q).mach hU (by omega) (fun k hk hB => by omega)⟩
  · rcases oset_get hd with ⟨e0, e⟩ | ⟨e0, e⟩
    · cases e
      subst e0
      refine ⟨PB.upd hP hU (by simp only; omega), by simp only; omega, fun u hu => ?_⟩
      rw [List.getElem?_set_self (by rw [h.vl]; exact hi), hv u hu]
    · obtain ⟨p1, p2, p3⟩ := h.mach j d e
      exact ⟨PB.upd (PB.kept p1 q) hU (by omega), p2, fun u hu => by rw [List.getElem?_set_ne e0]; exact p3 u hu⟩
  · rcases oset_get ha with ⟨e1, e⟩ | ⟨e1, e⟩ <;> rcases oset_get hb with ⟨e3, e4⟩ | ⟨e3, e4⟩
    · omega
    · cases e
      have := (h.mach b d' e4).1.lt
      simp only
      omega
    · cases e4
      have := (h.mach a d e).1.lt
      simp only
      omega
    · exact h.dist a b d d' e e4 hab
/-- A side made its step. -/
theorem OS.stepped (h : OS w B lb bb g sg hb lv l tp r nx n P G S T L xs o sides vals W) (hn : n ≤ 999) {i : Nat} {d : Sd} (hd : sides[i]? = some (some d)) {v : Int} (hv : vals[i]? = some v) {e : Ending}
    (hE : RunEnd B sg bb g hb i (rcells sides vals) v d.kd d.mb l 0 (kstep tp r d.kd ⟨d.m, d.lo, xs⟩) P G S W e W') :
    e = .returned (.tuple #[]) ∧ ∃ P' G' S' T' L' xs' o', OS w B lb bb g sg hb lv l tp r nx (n + 1) P' G' S' T' L' xs' o' (sides.set i (OwnNew d.kd d.mb (kstep tp r d.kd ⟨d.m, d.lo, xs⟩))) vals W' := by
  have n0 := h.n0
  have n2 := h.n2
  have nz := h.da.nz
  obtain ⟨p1, p2, p3⟩ := h.mach i d hd
  obtain ⟨vp, vg, vs, rfl, hlog, hrow, hbk, hpb, hU⟩ := hE
  have hs := hU.size
  obtain ⟨-, T', L', o', hD⟩ := h.di.step hn hd
  refine ⟨rfl, _, _, _, T', L', _, o', ⟨h.da.kp.then hU (fun i hi e => by omega), h.da.l.upd hU ?_, hbk, by omega⟩, ?_, ⟨vp, vg, vs, hlog⟩, hD, h.vl, fun j d1 hj => ?_, fun a b d1 d2 ha hb2 hab => ?_, n0, n2⟩
  · rintro (e | e | e | e | ⟨e, -⟩) <;> omega
  · rw [← rcells_set hv]
    exact hrow
  · rcases oset_get hj with ⟨e0, e⟩ | ⟨e1, e⟩
    · unfold OwnNew at e
      split at e
      · cases e
      · rename_i hdn
        cases e
        subst e0
        exact ⟨hpb (by simpa using hdn), p2, p3⟩
    · obtain ⟨r1, r2, r3⟩ := h.mach j d1 e
      have := h.dist i j d d1 hd e e1
      refine ⟨PB.upd r1 hU ?_, r2, r3⟩
      rintro (e | e | e | e | ⟨-, arr, e⟩)
      · omega
      · omega
      · omega
      · omega
      · have := (Option.some.inj (r1.symm.trans e))
        simp at this
        exact kd_T _ this.2
  · rcases oset_get ha with ⟨e1, e⟩ | ⟨e1, e⟩ <;> rcases oset_get hb2 with ⟨e3, e4⟩ | ⟨e3, e4⟩
    · omega
    · unfold OwnNew at e
      split at e
      · cases e
      · cases e
        exact h.dist i b d d2 hd e4 (by omega)
    · unfold OwnNew at e4
      split at e4
      · cases e4
      · cases e4
        exact h.dist a i d1 d e hd (by omega)
    · exact h.dist a b d1 d2 e e4 hab
end
/-- A runner's step, of any kind. -/
theorem rstep_any {w W : World} {B lb bb g sg hb : Nat} {lv : Array Value} {l : Lay} {tp r : Nat} {nx n : Int} {P G S : List Int} {T : Int} {L xs : List Int} {o : Option Sd} {sides : List (Option Sd)} {vals : List Int} (hG : Geo l 0 tp r)
    (h : OS w B lb bb g sg hb lv l tp r nx n P G S T L xs o sides vals W) (hn : n ≤ 999) {i f : Nat} {d : Sd} (hd : sides[i]? = some (some d)) (hf : f = i * 4) {v : Int} (hv : vals[i]? = some v) :
    Calls Try.prog 16 #[.pointer (some ⟨sg, f, none⟩), .pointer (some ⟨bb, 0, none⟩), .pointer (some ⟨hb, 0, none⟩)] W (RunEnd B sg bb g hb i (rcells sides vals) v d.kd d.mb l 0 (kstep tp r d.kd ⟨d.m, d.lo, xs⟩) P G S W) := by
  obtain ⟨p1, p2, p3⟩ := h.mach i d hd
  obtain ⟨vp, vg, vs, hlog⟩ := h.log
  obtain ⟨hI, -⟩ := h.di.step hn hd
  have hne := h.ne hd
  have hl := h.di.lens (by omega)
  have hB := h.da.nz.2.2.2.2.2.2.2.2
  have hri := rcells_at hd hv
  have hb1 := h.da.b
  have hrow := h.rows
  clear h
  obtain ⟨kd, mb, m, lo⟩ := d
  simp only at *
  cases kd with
  | push u =>
    have e := p3 u rfl
    rw [hv] at e
    obtain rfl := Option.some.inj e
    cases hdn : (kstep tp r (.push v) ⟨m, lo, xs⟩).m.done with
    | false => exact rstep_push_f (lo0 := false) ⟨m, lo, xs⟩ hG hrow hri hf p1 hb1 hlog hI hne hdn
    | true =>
      cases hgt : (kstep tp r (.push v) ⟨m, lo, xs⟩).m.got with
      | false => exact rstep_push_tf (lo0 := false) ⟨m, lo, xs⟩ hG hrow hri hf p1 hb1 hlog hI hne hdn hgt
      | true => exact rstep_push_tt (lo0 := false) ⟨m, lo, xs⟩ hG hrow hri hf p1 hb1 hlog hI hne hdn hgt hl hB
  | pop =>
    cases hdn : (kstep tp r .pop ⟨m, lo, xs⟩).m.done with
    | false => exact rstep_pop_f (lo0 := false) ⟨m, lo, xs⟩ hG hrow hri hf p1 hb1 hlog hI hne hdn
    | true =>
      cases hgt : (kstep tp r .pop ⟨m, lo, xs⟩).m.got with
      | false => exact rstep_pop_tf (lo0 := false) ⟨m, lo, xs⟩ hG hrow hri hf p1 hb1 hlog hI hne hdn hgt
      | true => exact rstep_pop_tt (lo0 := false) ⟨m, lo, xs⟩ hG hrow hri hf p1 hb1 hlog hI hne hdn hgt hl hB
  | steal =>
    cases hdn : (kstep tp r .steal ⟨m, lo, xs⟩).m.done with
    | false => exact rstep_steal_f (lo0 := false) ⟨m, lo, xs⟩ hG hrow hri hf p1 hb1 hlog hI hne hdn
    | true =>
      cases hgt : (kstep tp r .steal ⟨m, lo, xs⟩).m.got with
      | false => exact rstep_steal_tf (lo0 := false) ⟨m, lo, xs⟩ hG hrow hri hf p1 hb1 hlog hI hne hdn hgt
      | true => exact rstep_steal_tt (lo0 := false) ⟨m, lo, xs⟩ hG hrow hri hf p1 hb1 hlog hI hne hdn hgt hl hB
end Go.Proofs.Ytdgkemadhooogaa
