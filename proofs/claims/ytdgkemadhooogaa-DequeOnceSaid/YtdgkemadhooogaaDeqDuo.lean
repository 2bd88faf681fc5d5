/- Two banks, and one machine of each kind for them, one of which goes on. -/
import Derived.Test.YtdgkemadhooogaaDeqLaw
import Derived.Test.YtdgkemadhooogaaDeqMid
import Derived.Test.YtdgkemadhooogaaBankAll
namespace Go.Proofs.Ytdgkemadhooogaa
set_option linter.unusedVariables false
set_option linter.unusedSimpArgs false
open Go.RowKit

def fresh : DM := ⟨0, 0, 0, 0, false, false⟩
def Kd.ifc : Kd → Nat → Value
  | .push _, b => .iface 36 (.pointer (some ⟨b, 0, none⟩))
  | .pop, b => .iface 37 (.pointer (some ⟨b, 0, none⟩))
  | .steal, b => .iface 38 (.pointer (some ⟨b, 0, none⟩))
def kdOf (j : Nat) (v : Int) : Kd := if j = 0 then .push v else if j = 1 then .pop else .steal
def boxOf (j p q t : Nat) : Nat := if j = 0 then p else if j = 1 then q else t
def mOf (j i : Nat) (s : KS) : DM := if j = i then s.m else fresh
def lOf (j : Nat) (s : KS) : Bool := if j = 2 then s.lo else false
/-- What a law of two banks looks at. -/
structure DD (w : World) (B lb bb g cb cg : Nat) (lv : Array Value) (xs ys : List Int) (W : World) : Prop where
  kp : Kept w W
  l : Blk W lb lv 24
  b : Bnk W bb g xs
  c : Bnk W cb cg ys
  n0 : w.heap.size ≤ lb ∧ w.heap.size ≤ bb ∧ w.heap.size ≤ g ∧ w.heap.size ≤ cb ∧ w.heap.size ≤ cg
  n1 : lb < B ∧ bb < B ∧ g < B ∧ cb < B ∧ cg < B ∧ B ≤ W.heap.size
  n2 : ¬ lb = bb ∧ ¬ lb = g ∧ ¬ lb = cb ∧ ¬ lb = cg ∧ ¬ bb = cb ∧ ¬ bb = cg ∧ ¬ g = cb ∧ ¬ g = cg
section
variable {w W W' : World} {B lb bb g cb cg : Nat} {lv : Array Value} {xs ys : List Int}
theorem DD.kept (h : DD w B lb bb g cb cg lv xs ys W) (k : Kept W W') : DD w B lb bb g cb cg lv xs ys W' :=
  ⟨h.kp.trans k, h.l.kept k, h.b.kept k, h.c.kept k, h.n0, by have := h.n1; have := k.size; omega, h.n2⟩
theorem DD.mach1 (h : DD w B lb bb g cb cg lv xs ys W) {kd : Kd} {l : Lay} {k : Int} {mb : Nat} {s' : KS} (hK : KSt kd l k mb bb g s' W W') (hm : B ≤ mb) : DD w B lb bb g cb cg lv s'.xs ys W' := by
  have n0 := h.n0
  have n1 := h.n1
  have n2 := h.n2
  have := hK.2.2.size
  exact ⟨h.kp.then hK.2.2 (fun i hi e => by omega), h.l.upd hK.2.2 (by omega), hK.2.1, h.c.upd hK.2.2 (by omega) (by omega), n0, by omega, n2⟩
theorem DD.mach2 (h : DD w B lb bb g cb cg lv xs ys W) {kd : Kd} {l : Lay} {k : Int} {mb : Nat} {s' : KS} (hK : KSt kd l k mb cb cg s' W W') (hm : B ≤ mb) : DD w B lb bb g cb cg lv xs s'.xs W' := by
  have n0 := h.n0
  have n1 := h.n1
  have n2 := h.n2
  have := hK.2.2.size
  exact ⟨h.kp.then hK.2.2 (fun i hi e => by omega), h.l.upd hK.2.2 (by omega), h.b.upd hK.2.2 (by omega) (by omega), hK.2.1, n0, by omega, n2⟩
/-- Both banks, just made. -/
theorem DD.start {w1 : World} {S : Nat} (hb : Bnk w1 bb g (List.replicate S 0)) (h1 : w.heap.size ≤ bb) (h2 : w.heap.size ≤ g) (hk : Kept w w1) {wa w2 : World} (hl : Blk wa lb lv 24) (hlb : w1.heap.size ≤ lb) (hka : Kept w1 wa) (hc : Bnk w2 cb cg (List.replicate S 0)) (h3 : wa.heap.size ≤ cb) (h4 : wa.heap.size ≤ cg) (hk2 : Kept wa w2) {w3 : World} (hk3 : Kept w2 w3) :
    DD w w3.heap.size lb bb g cb cg lv (List.replicate S 0) (List.replicate S 0) w3 := by
  have s1 := hk.size
  have s2 := hka.size
  have s3 := hk2.size
  have s4 := hk3.size
  have b1 := hb.head.lt
  have b2 := hb.row.lt
  have b3 := hl.lt
  have b4 := hc.head.lt
  have b5 := hc.row.lt
  exact ⟨((hk.trans hka).trans hk2).trans hk3, (hl.kept hk2).kept hk3, ((hb.kept hka).kept hk2).kept hk3, hc.kept hk3, by omega, by omega, by omega⟩
end
/-- A machine of each kind; the one of kind j is at s. -/
structure Trio (W : World) (l : Lay) (v : Int) (j : Nat) (s : KS) (lo hi p q t : Nat) : Prop where
  P : PB W p 48 l 0 (mOf j 0 s) [.int .i64 v]
  Q : PB W q 51 l 0 (mOf j 1 s) []
  T : PB W t 45 l 0 (mOf j 2 s) [.bool (lOf j s)]
  n : lo ≤ p ∧ p < hi ∧ lo ≤ q ∧ q < hi ∧ lo ≤ t ∧ t < hi
  j3 : j = 0 ∨ j = 1 ∨ j = 2
section
variable {W W' : World} {l : Lay} {v : Int} {j : Nat} {s s' : KS} {lo hi p q t bb g : Nat}
theorem Trio.kept (h : Trio W l v j s lo hi p q t) (k : Kept W W') : Trio W' l v j s lo hi p q t := ⟨h.P.kept k, h.Q.kept k, h.T.kept k, h.n, h.j3⟩
theorem Trio.far {S : Nat → Prop} (h : Trio W l v j s lo hi p q t) (k : Upd S W W') (hs : ∀ i, lo ≤ i → i < hi → ¬ S i) : Trio W' l v j s lo hi p q t := by
  have n := h.n
  exact ⟨h.P.upd k (hs _ (by omega) (by omega)), h.Q.upd k (hs _ (by omega) (by omega)), h.T.upd k (hs _ (by omega) (by omega)), h.n, h.j3⟩
theorem Trio.box (h : Trio W l v j s lo hi p q t) : lo ≤ boxOf j p q t ∧ boxOf j p q t < hi := by
  have n := h.n
  unfold boxOf
  split
  · omega
  · split <;> omega
theorem Trio.at (h : Trio W l v j s lo hi p q t) : PB W (boxOf j p q t) (kdOf j v).T l 0 s.m ((kdOf j v).ex s.lo) := by
  rcases h.j3 with rfl | rfl | rfl
  · exact h.P
  · exact h.Q
  · exact h.T
theorem Trio.step (h : Trio W l v j s lo hi p q t) (hK : KSt (kdOf j v) l 0 (boxOf j p q t) bb g s' W W') (hg : ¬ (lo ≤ g ∧ g < hi)) : Trio W' l v j s' lo hi p q t := by
  have n := h.n
  have e1 : p ≠ q := fun e => by have h1 := h.P; have h2 := h.Q; rw [e] at h1; exact absurd (Blk.same h1 h2).2 (by decide)
  have e2 : p ≠ t := fun e => by have h1 := h.P; have h2 := h.T; rw [e] at h1; exact absurd (Blk.same h1 h2).2 (by decide)
  have e3 : q ≠ t := fun e => by have h1 := h.Q; have h2 := h.T; rw [e] at h1; exact absurd (Blk.same h1 h2).2 (by decide)
  rcases h.j3 with rfl | rfl | rfl
  · have hu : Upd (fun i => i = g ∨ i = p) W W' := hK.2.2
    exact ⟨hK.1, h.Q.upd hu (by omega), h.T.upd hu (by omega), n, h.j3⟩
  · have hu : Upd (fun i => i = g ∨ i = q) W W' := hK.2.2
    exact ⟨h.P.upd hu (by omega), hK.1, h.T.upd hu (by omega), n, h.j3⟩
  · have hu : Upd (fun i => i = g ∨ i = t) W W' := hK.2.2
    exact ⟨h.P.upd hu (by omega), h.Q.upd hu (by omega), hK.1, n, h.j3⟩
theorem Trio.start (h1 : PB W p 48 l 0 ⟨0, 0, 0, 0, false, false⟩ [.int .i64 v]) (h2 : PB W q 51 l 0 ⟨0, 0, 0, 0, false, false⟩ []) (h3 : PB W t 45 l 0 ⟨0, 0, 0, 0, false, false⟩ [.bool false])
    (n : lo ≤ p ∧ lo ≤ q ∧ lo ≤ t) (j3 : j = 0 ∨ j = 1 ∨ j = 2) (xs : List Int) : Trio W l v j ⟨fresh, false, xs⟩ lo W.heap.size p q t := by
  have b1 := h1.lt
  have b2 := h2.lt
  have b3 := h3.lt
  have e : ∀ i, mOf j i ⟨fresh, false, xs⟩ = ⟨0, 0, 0, 0, false, false⟩ := fun i => by unfold mOf; split <;> rfl
  have e2 : lOf j ⟨fresh, false, xs⟩ = false := by unfold lOf; split <;> rfl
  exact ⟨by rw [e]; exact h1, by rw [e]; exact h2, by rw [e, e2]; exact h3, by omega, j3⟩
end
theorem alone_kd {w : World} {mb bb g : Nat} {l : Lay} {k : Int} {tp r : Nat} (kd : Kd) {s s' : KS} {N : Nat} (hG : Geo l k tp r) (h : PB w mb kd.T l k s.m (kd.ex s.lo)) (hb : Bnk w bb g s.xs) (hne : ¬ mb = g ∧ ¬ mb = bb) (hA : Alone tp r kd s N s') (hN : N ≤ 9) :
    Calls Try.prog 20 #[kd.ifc mb, .pointer (some ⟨bb, 0, none⟩)] w fun e w' => e = .returned (.bool true) ∧ KSt kd l k mb bb g s' w w' := by
  cases kd with
  | push v => exact alone_push hG h hb hne hA hN
  | pop => exact alone_pop hG h hb hne hA hN
  | steal => exact alone_steal hG h hb hne hA hN
/-- Who stays as he was, and leaves the bank as it was, has changed nothing. -/
theorem kept_same {w w' : World} {kd : Kd} {l : Lay} {k : Int} {mb bb g : Nat} {s : KS} (h : PB w mb kd.T l k s.m (kd.ex s.lo)) (hb : Bnk w bb g s.xs) (hK : KSt kd l k mb bb g s w w') : Kept w w' := by
  refine ⟨hK.2.2.os, hK.2.2.tape, hK.2.2.output, hK.2.2.size, fun i hi _ => ?_⟩
  by_cases e1 : i = g
  · subst e1
    exact hK.2.1.row.trans hb.row.symm
  · by_cases e2 : i = mb
    · subst e2
      exact Eq.trans hK.1 h.symm
    · exact hK.2.2.block i hi (by omega)
theorem push_next {tp r : Nat} {xs : List Int} {L : List Int} (h : Row tp r xs 0 L) (hb : L.length ≤ 1000) (v : Int) : ∃ (s' : KS) (M : Nat) (L' : List Int), Alone tp r (.push v) ⟨⟨0, 0, 0, 0, false, false⟩, false, xs⟩ M s' ∧ M ≤ 9 ∧ Row tp r s'.xs 0 L' ∧ L'.length ≤ L.length + 1 := by
  by_cases hr : L.length < 2 ^ r
  · obtain ⟨ys, hy, -, hal⟩ := push_to h hr (by omega) v false
    exact ⟨_, 4, _, hal, by omega, hy, by simp⟩
  · exact ⟨_, 2, L, push_full h (by have := h.room; omega) v false, by omega, h, by omega⟩
/-- What a run of one by itself is, from its place on. -/
structure RunE (tp r : Nat) (kd : Kd) (xs : List Int) (A : Nat) (s' : KS) : Prop where
  inv : ∀ i, KInv tp kd (krun tp r kd ⟨fresh, false, xs⟩ i)
  fin : ∃ M, M ≤ 9 ∧ Alone tp r kd (krun tp r kd ⟨fresh, false, xs⟩ A) M s'
  don : s'.m.done = true
  inv2 : KInv tp kd s'
theorem run_end {tp r : Nat} {xs : List Int} {L : List Int} (h : Row tp r xs 0 L) (hb : L.length ≤ 1000) (kd : Kd) (A : Nat) : ∃ s', RunE tp r kd xs A s' := by
  obtain ⟨N, s', hA, hN, hI⟩ := run_any h (by omega) kd
  obtain ⟨M, h1, h2, h3⟩ := hA.from hI A
  exact ⟨s', fun i => hA.holds hI i, ⟨M, by omega, h3⟩, hA.done, hI⟩
theorem push_ok2 {w : World} {mb : Nat} {T : TypeId} {l : Lay} {k v : Int} {m : DM} (h : PB w mb T l k m [.int .i64 v]) :
    Calls Try.prog 21 #[.pointer (some ⟨mb, 0, none⟩)] w fun e w' => e = .returned (.bool (m.done && m.got)) ∧ w = w' := by
  obtain ⟨a, t, b, x, d, g⟩ := m
  exact push_ok h
/-- Who is done takes a step, and nothing turns. -/
theorem done_step {w : World} {mb bb g : Nat} {l : Lay} {k : Int} {tp r : Nat} (kd : Kd) {s : KS} (hG : Geo l k tp r) (h : PB w mb kd.T l k s.m (kd.ex s.lo)) (hb : Bnk w bb g s.xs) (hne : ¬ mb = g ∧ ¬ mb = bb) (hi : KInv tp kd s) (hd : s.m.done = true) :
    Calls Try.prog kd.F #[.pointer (some ⟨mb, 0, none⟩), .pointer (some ⟨bb, 0, none⟩)] w fun e w' => e = .returned (.bool true) ∧ Kept w w' := by
  refine (kstep_any kd s hG h hb hne hi).mono ?_
  rw [kstep_done tp r kd s hd, hd]
  rintro e w' ⟨rfl, hK⟩
  exact ⟨rfl, kept_same h hb hK⟩
theorem all_at {w : World} {bb g : Nat} {xs : List Int} {n : Nat} (h : Bnk w bb g xs) (hn : xs.length = n) :
    Calls Try.prog 25 #[.pointer (some ⟨bb, 0, none⟩)] w fun e w' => ∃ ga, e = .returned (.slice (some ⟨ga, 0, none⟩) n n) ∧ Rd w' (some ⟨ga, 0, none⟩) (xs.map (Value.int .i64)) ∧ Kept w w' := by
  refine (All_bank h).mono ?_
  rintro e w' ⟨v, rfl, ⟨ga, rfl, hB, -⟩, hk⟩
  subst hn
  exact ⟨ga, rfl, Rd.blk hB, hk⟩
/-- At the end: both banks alike, both machines done. -/
structure DFin (w : World) (B lb bb g cb cg : Nat) (lv : Array Value) (l : Lay) (v : Int) (j : Nat) (s : KS) (B2 p1 q1 t1 B3 B4 p3 q3 t3 : Nat) (W : World) : Prop where
  d : DD w B lb bb g cb cg lv s.xs s.xs W
  a : Trio W l v j s B B2 p1 q1 t1
  b : Trio W l v j s B3 B4 p3 q3 t3
theorem DFin.kept {w W W' : World} {B lb bb g cb cg : Nat} {lv : Array Value} {l : Lay} {v : Int} {j : Nat} {s : KS} {B2 p1 q1 t1 B3 B4 p3 q3 t3 : Nat} (h : DFin w B lb bb g cb cg lv l v j s B2 p1 q1 t1 B3 B4 p3 q3 t3 W) (k : Kept W W') : DFin w B lb bb g cb cg lv l v j s B2 p1 q1 t1 B3 B4 p3 q3 t3 W' := ⟨h.d.kept k, h.a.kept k, h.b.kept k⟩
end Go.Proofs.Ytdgkemadhooogaa
