/- Package sched: what a script holds; slices.Clone, New, none, Left, Rounds, isDone, begin. -/
import Derived.Test.YtacacnjpfflbnaaProg
import Derived.Test.YtacacnjpfflbnaaRd
import Derived.Deep.RegionHeld3
namespace Go.Proofs.Ytacacnjpfflbnaa
set_option linter.unusedVariables false
open Go.RowKit

theorem infoInt : (Try.prog.info? 3).map (fun i => (i.zero, i.size, i.bytes)) = some (some (.int .i64 0), 1, 8) := by kernel_rfl
theorem infoBool : (Try.prog.info? 4).map (fun i => (i.zero, i.size, i.bytes)) = some (some (.bool false), 1, 1) := by kernel_rfl

/-- A script: picks, who was told last, who in this round, how many rounds ended. -/
structure SS where
  picks : List Int
  last : Nat
  told : List Bool
  ended : Nat

/-- A slice that came out of a call: it reads so, within its capacity; its block (if it has cells) is new. -/
structure Sl (base : Nat) (w : World) (a : Option Addr) (cap : Nat) (vs : List Value) : Prop where
  rd : Rd w a vs
  le : vs.length ≤ cap
  most : cap ≤ maxLen
  base : ∀ x, a = some x → base ≤ x.block ∧ x.block < w.heap.size
theorem Sl.owns {base : Nat} {w : World} {e : TypeId} {v : Value} {n : Nat} {vs : List Value} (h : w.ownsRow base e 1 v n vs) : ∃ a c, v = .slice a n c ∧ Sl base w a c vs := by
  obtain ⟨a, c, rfl, hr⟩ := Rd.owns h
  have hl : vs.length = n := by simpa using h.1
  refine ⟨a, c, rfl, hr, ?_, ?_, ?_⟩
  · rcases h.2 with ⟨e, h0⟩ | ⟨g, cap, cur, e, _, _, h1, _⟩
    · omega
    · cases e; omega
  · rcases h.2 with ⟨e, h0⟩ | ⟨g, cap, cur, e, _, _, _, h1, _⟩
    · cases e; unfold maxLen; omega
    · cases e; omega
  · intro x e
    rcases h.2 with ⟨e1, h0⟩ | ⟨g, cap, cur, e1, h1, h2, _⟩
    · cases e1; cases e
    · cases e1; cases e; exact ⟨h1, (Array.getElem?_eq_some_iff.1 h2).1⟩
theorem Sl.kept {base : Nat} {w w' : World} {a : Option Addr} {cap : Nat} {vs : List Value} (h : Sl base w a cap vs) (hk : Kept w w') : Sl base w' a cap vs := ⟨h.rd.kept hk, h.le, h.most, fun x e => ⟨(h.base x e).1, Nat.lt_of_lt_of_le (h.base x e).2 hk.size⟩⟩

theorem Rd.upd {w w' : World} {a : Option Addr} {vs : List Value} {S : Nat → Prop} (h : Rd w a vs) (hu : Upd S w w') (hs : ∀ b off, a = some ⟨b, off, none⟩ → vs ≠ [] → ¬ S b) : Rd w' a vs := by
  by_cases h0 : vs = []
  · exact .inl h0
  · rcases h with rfl | ⟨b, off, rfl, hc⟩
    · exact .inl rfl
    · exact .inr ⟨b, off, rfl, fun i u hu2 => (hu.cells _ (by rw [hc i u hu2]; rfl) (hs b off rfl h0)).trans (hc i u hu2)⟩

/-- What slices.Clone hands back. -/
def CloneIs (xs : List Int) (w : World) (e : Ending) (w' : World) : Prop := ∃ a c, e = .returned (.slice a xs.length c) ∧ Sl w.heap.size w' a c (xs.map (Value.int .i64)) ∧ Kept w w'
theorem kept_grown {w w' : World} {row : Option Nat} (hg : (w.alloc (.cells #[] 3)).grownBy w' row) (hr : ∀ k, row = some k → w.heap.size ≤ k) : Kept w w' :=
  ((Upd.refl (fun _ => False) w).alloc _).grown hg fun k hk => .inr (hr k hk)

set_option maxHeartbeats 1000000 in
theorem Clone_any (a : Option Addr) (c : Nat) (xs : List Int) (w : World) (h : Rd w a (xs.map (Value.int .i64))) (hx : xs.length ≤ 1000000000) :
    Calls Try.prog 15 #[.slice a xs.length c] w (CloneIs xs w) := by
  obtain ⟨i0, hi, hz0, hz1, hz2⟩ := info_parts infoInt
  have q22 : ∀ (w : World) (a : Option Addr) (n c n' c' : Nat), (binOp .eql 22 (.slice a n c) (.slice none n' c')).run Try.prog w = .ok (.bool a.isNone) w := fun w a n c n' c' => Lib.run_eql_slice_nil w _ _ a n c n' c' Try.underlying22
  cases a with
  | none =>
    have h0 : xs = [] := by
      rcases h with h | ⟨b, off, e, _⟩
      · simpa using h
      · cases e
    subst h0
    go_enter Try.func15, Try.ntmps15
    go_wp2
    go_ret
    exact ⟨none, 0, rfl, ⟨.inl rfl, by simp, by simp, fun x e => by cases e⟩, Upd.refl _ _⟩
  | some x =>
    have HC := Lib.hid h
    clear h
    go_enter Try.func15, Try.ntmps15
    go_wp2_with (at_builtin; refine wpList_append_own _ rfl _ _ 22 rfl w.heap.size 3 i0 (.int .i64 0) 1 8 Try.underlying22 hi hz0 hz1 hz2 rfl (by decide) _ _ _ rfl (World.ownsRow_made w #[] 0 (Nat.le_refl _) (Nat.zero_le _) rfl) x xs.length c (xs.map (Value.int .i64)) rfl ?qc1 ?qc2 ?qc3 ?qc4 ?qc5 ?qc6 ?_)
    case qc1 => simp
    case qc2 =>
      intro j u hj
      rcases HC.out with h0 | ⟨b, off, e, hc⟩
      · rw [h0] at hj; simp at hj
      · cases e
        rw [Addr.add_lit]
        exact Lib.cell?_alloc_some _ (hc j u hj)
    case qc3 => intro u hu; obtain ⟨x, _, rfl⟩ := List.mem_map.1 hu; rfl
    case qc4 => unfold maxLen; omega
    case qc5 => omega
    case qc6 => simp
    intro v' w1 hown hgrow hnil
    have hfin : Hid (CloneIs xs w (.returned v') w1) := by
      apply Lib.hid
      have hk : Kept w w1 := kept_grown hgrow (by intro k hk; simp [Value.ownBlock] at hk; omega)
      obtain ⟨a', c', rfl, hs⟩ := Sl.owns hown
      exact ⟨a', c', by simp, by simpa using hs, hk⟩
    clear hown hgrow hnil HC
    go_wp2
    go_ret
    exact hfin.out

/-- The script at block sb, who was told in block tb. -/
structure Sch (w : World) (sb tb : Nat) (pa : Option Addr) (pc : Nat) (s : SS) : Prop where
  head : Blk w sb #[.slice pa s.picks.length pc, .int .i64 (s.last : Int), .slice (some ⟨tb, 0, none⟩) s.told.length s.told.length, .int .i64 (s.ended : Int)] 49
  told : Blk w tb (s.told.map Value.bool).toArray 4
  picks : Rd w pa (s.picks.map (Value.int .i64))
  le : s.picks.length ≤ pc
  most : pc ≤ maxLen
  ne : sb ≠ tb
  apart : ∀ x, pa = some x → x.block ≠ sb ∧ x.block ≠ tb
  n1 : 0 < s.told.length
  n2 : s.told.length ≤ 64
  last : s.last < s.told.length
  ended : s.ended ≤ 4611686018427387904
/-- .. wherever its picks are, below bd. -/
def Sc (w : World) (bd : Nat → Prop) (sb tb : Nat) (s : SS) : Prop := ∃ pa pc, Sch w sb tb pa pc s ∧ ∀ x, pa = some x → bd x.block
theorem Sch.upd {w w' : World} {sb tb : Nat} {pa : Option Addr} {pc : Nat} {s : SS} {S : Nat → Prop} (h : Sch w sb tb pa pc s) (hu : Upd S w w') (h1 : ¬ S sb) (h2 : ¬ S tb) (h3 : ∀ b off, pa = some ⟨b, off, none⟩ → ¬ S b) : Sch w' sb tb pa pc s :=
  ⟨h.head.upd hu h1, h.told.upd hu h2, h.picks.upd hu (fun b off e _ => h3 b off e), h.le, h.most, h.ne, h.apart, h.n1, h.n2, h.last, h.ended⟩
theorem Sch.kept {w w' : World} {sb tb : Nat} {pa : Option Addr} {pc : Nat} {s : SS} (h : Sch w sb tb pa pc s) (hk : Kept w w') : Sch w' sb tb pa pc s := h.upd hk (fun f => f) (fun f => f) (fun _ _ _ f => f)
theorem Sc.kept {w w' : World} {bd : Nat → Prop} {sb tb : Nat} {s : SS} (h : Sc w bd sb tb s) (hk : Kept w w') : Sc w' bd sb tb s := by obtain ⟨pa, pc, h, hb⟩ := h; exact ⟨pa, pc, h.kept hk, hb⟩
theorem Sc.mono {w : World} {bd bd' : Nat → Prop} {sb tb : Nat} {s : SS} (h : Sc w bd sb tb s) (hm : ∀ k, bd k → bd' k) : Sc w bd' sb tb s := by obtain ⟨pa, pc, h, hb⟩ := h; exact ⟨pa, pc, h, fun x e => hm _ (hb x e)⟩
theorem Sc.upd {w w' : World} {bd : Nat → Prop} {sb tb : Nat} {s : SS} {S : Nat → Prop} (h : Sc w bd sb tb s) (hu : Upd S w w') (h1 : ¬ S sb) (h2 : ¬ S tb) (h3 : ∀ k, bd k → ¬ S k) : Sc w' bd sb tb s := by
  obtain ⟨pa, pc, h, hb⟩ := h
  exact ⟨pa, pc, h.upd hu h1 h2 (fun b off e => h3 b (hb _ e)), hb⟩
theorem Sc.below {w w' : World} {bd : Nat → Prop} {B sb tb : Nat} {s : SS} (h : Sc w bd sb tb s) (hb : Below B w w') (h1 : sb < B) (h2 : tb < B) (h3 : ∀ k, bd k → k < B) : Sc w' bd sb tb s := by
  obtain ⟨pa, pc, h, hp⟩ := h
  refine ⟨pa, pc, ⟨(hb.block _ h1).trans h.head, (hb.block _ h2).trans h.told, ?_, h.le, h.most, h.ne, h.apart, h.n1, h.n2, h.last, h.ended⟩, hp⟩
  rcases h.picks with h0 | ⟨b, off, e, hc⟩
  · exact .inl h0
  · exact .inr ⟨b, off, e, fun i u hu => (World.cell?_of_block (hb.block b (h3 _ (hp _ e)))).trans (hc i u hu)⟩

/-- New, of workers that may be. -/
def NewIs (n : Nat) (xs : List Int) (w : World) (e : Ending) (w' : World) : Prop :=
  ∃ sb tb, e = .returned (.tuple #[.pointer (some ⟨sb, 0, none⟩), .int .i64 0]) ∧ Sc w' (fun k => w.heap.size ≤ k ∧ k < w'.heap.size) sb tb ⟨xs, n - 1, List.replicate n false, 0⟩ ∧ w.heap.size ≤ sb ∧ w.heap.size ≤ tb ∧ Kept w w'
theorem new_is {w w2 : World} {n tb sb : Nat} {xs : List Int} {a1 : Option Addr} {c1 : Nat} (h1 : 1 ≤ n) (h2 : n ≤ 64) (hk : Kept w w2) (hs : Rd w2 a1 (xs.map (Value.int .i64))) (hle : xs.length ≤ c1) (hm : c1 ≤ maxLen)
    (hap : ∀ x, a1 = some x → x.block ≠ sb ∧ x.block ≠ tb) (hlt : ∀ x, a1 = some x → w.heap.size ≤ x.block ∧ x.block < w2.heap.size) (hne : sb ≠ tb) (hsb : w.heap.size ≤ sb) (htb : w.heap.size ≤ tb)
    (hh : Blk w2 sb #[.slice a1 xs.length c1, .int .i64 ((n : Int) - 1), .slice (some ⟨tb, 0, none⟩) n n, .int .i64 0] 49) (ht : Blk w2 tb (zeros n (.bool false)) 4) :
    NewIs n xs w (.returned (.tuple #[.pointer (some ⟨sb, 0, none⟩), .int .i64 0])) w2 := by
  have e1 : (n : Int) - 1 = ((n - 1 : Nat) : Int) := by omega
  rw [e1] at hh
  refine ⟨sb, tb, rfl, ⟨a1, c1, ⟨by simpa using hh, by simpa [zeros] using ht, hs, hle, hm, hne, hap, by simp; omega, by simpa using h2, by simp; omega, by simp⟩, hlt⟩, hsb, htb, hk⟩
set_option maxHeartbeats 1000000 in
theorem New_bad (n : Int) (a : Option Addr) (c l : Nat) (w : World) (hn : n < 1 ∨ 64 < n) :
    Calls Try.prog 8 #[.int .i64 n, .slice a l c] w fun e w' => e = .returned (.tuple #[.pointer none, .int .i64 2]) ∧ w = w' := by
  rcases hn with hn | hn
  · go_enter Try.func8, Try.ntmps8
    go_wp2
    go_ret2
    exact ⟨rfl, rfl⟩
  · have h1 : ¬ n < 1 := by omega
    go_enter Try.func8, Try.ntmps8
    go_wp2
    go_ret2
    exact ⟨rfl, rfl⟩
set_option maxHeartbeats 1000000 in
theorem New_ok (n : Nat) (a : Option Addr) (c : Nat) (xs : List Int) (w : World) (h1 : 1 ≤ n) (h2 : n ≤ 64) (h : Rd w a (xs.map (Value.int .i64))) (hx : xs.length ≤ 1000000000) :
    Calls Try.prog 8 #[.int .i64 (n : Int), .slice a xs.length c] w (NewIs n xs w) := by
  have hmk := fun w => make_one (P := Try.prog) (t := 28) (e := 4) (z := .bool false) (v := .bool false) (bytes := 1) Try.underlying28 (by kernel_rfl) rfl .i64 n (by omega) (by omega) w
  have hg1 : ¬ (n : Int) < 1 := by omega
  have hg2 : ¬ (64 : Int) < (n : Int) := by omega
  have HR := Lib.hid h
  have HE : ∀ (w1 : World) (a1 : Option Addr) (c1 : Nat), w.heap.size < w1.heap.size → True := fun _ _ _ _ => trivial
  clear h HE
  go_enter Try.func8, Try.ntmps8
  go_wp2_with fail
  have hwr : IntKind.i64.wrap ((n : Int) - 1) = (n : Int) - 1 := IntWalk.i64_in _ (by omega)
  go_region_held3 (fun _ => True) (exact trivial)
    ((first | (go_at_call 15; refine (Clone_any a c xs _ (HR.out.kept (by first | exact (Upd.refl _ _).drew | exact ((Upd.refl _ _).alloc _).drew)) hx).mono ?_; rintro e w1 ⟨a1, c1, rfl, hs1, hk1⟩; have HS1 := Lib.hid hs1; have HK1 := Lib.hid hk1; clear hs1 hk1)))
  · clear HR hwr
    go_wp2
    go_ret2
    have hk := (((Upd.refl (fun _ => False) w).drew.trans HK1.out).alloc (.cells (zeros n (.bool false)) 4)).alloc (.cells #[.slice a1 xs.length c1, .int .i64 ((n : Int) - 1), .slice (some ⟨w1.heap.size, 0, none⟩) n n, .int .i64 0] 49)
    have hsz := HK1.out.size
    simp only [World.size_drew] at hsz
    refine new_is h1 h2 hk (((HS1.out.rd.kept ((Upd.refl _ _).alloc _)).kept ((Upd.refl _ _).alloc _))) (by have := HS1.out.le; simpa using this) HS1.out.most (fun x e => by have := (HS1.out.base x e).2; omega) (fun x e => by have := HS1.out.base x e; simp at this ⊢; omega) (by omega) (by omega) (by omega) ?_ ((Blk.new _ _ _).alloc _)
    have := Blk.new (w1.alloc (.cells (zeros n (.bool false)) 4)) #[.slice a1 xs.length c1, .int .i64 ((n : Int) - 1), .slice (some ⟨w1.heap.size, 0, none⟩) n n, .int .i64 0] 49
    simpa using this
  · clear HR hwr
    go_wp2
    go_ret2
    have hk := (((Upd.refl (fun _ => False) w).alloc (.cells (zeros n (.bool false)) 4)).drew.trans HK1.out).alloc (.cells #[.slice a1 xs.length c1, .int .i64 ((n : Int) - 1), .slice (some ⟨w.heap.size, 0, none⟩) n n, .int .i64 0] 49)
    have hsz := HK1.out.size
    have hbs := fun x e => (HS1.out.base x e)
    have hz : ((w.alloc (.cells (zeros n (.bool false)) 4)).drew).heap.size = w.heap.size + 1 := by simp
    rw [hz] at hsz hbs
    refine new_is h1 h2 hk (HS1.out.rd.kept ((Upd.refl _ _).alloc _)) (by have := HS1.out.le; simpa using this) HS1.out.most (fun x e => by have := hbs x e; omega) (fun x e => by have := hbs x e; simp; omega) (by omega) (by omega) (by omega) (Blk.new _ _ _) ((((Blk.new _ _ _).drew).kept HK1.out).alloc _)

set_option maxHeartbeats 1000000 in
theorem isDone_any (a : Option Addr) (c : Nat) (dl : List Bool) (v : Nat) (w : World) (h : Rd w a (dl.map Value.bool)) :
    Calls Try.prog 19 #[.slice a dl.length c, .int .i64 (v : Int)] w fun e w' => e = .returned (.bool (dl.getD v false)) ∧ w = w' := by
  by_cases hv : v < dl.length
  · obtain ⟨b, off, rfl, hc⟩ := h.at v (by simpa using hv)
    have c1 : w.cell? ⟨b, off + v, none⟩ = some (.bool (dl.getD v false)) := by rw [hc]; simp [hv]
    generalize dl.getD v false = r at c1 ⊢
    clear hc h
    have j0 : (0 : Int) ≤ (v : Int) := by omega
    go_enter Try.func19, Try.ntmps19
    go_wp2
    go_ret
    exact ⟨rfl, rfl⟩
  · have h2 : dl.getD v false = false := by rw [List.getD_eq_getElem?_getD, List.getElem?_eq_none (by omega)]; rfl
    rw [h2]
    have h3 : ¬ v < dl.length := hv
    clear h h2 hv
    go_enter Try.func19, Try.ntmps19
    go_wp2
    go_ret
    exact ⟨rfl, rfl⟩

set_option maxHeartbeats 1000000 in
theorem refIs_any (a : Option Addr) (c : Nat) (dl : List Bool) (v : Nat) (w : World) (h : Rd w a (dl.map Value.bool)) :
    Calls Try.prog 23 #[.slice a dl.length c, .int .i64 (v : Int)] w fun e w' => e = .returned (.bool (dl.getD v false)) ∧ w = w' := by
  by_cases hv : v < dl.length
  · obtain ⟨b, off, rfl, hc⟩ := h.at v (by simpa using hv)
    have c1 : w.cell? ⟨b, off + v, none⟩ = some (.bool (dl.getD v false)) := by rw [hc]; simp [hv]
    generalize dl.getD v false = r at c1 ⊢
    clear hc h
    have j0 : (0 : Int) ≤ (v : Int) := by omega
    go_enter Try.func23, Try.ntmps23
    go_wp2
    go_ret
    exact ⟨rfl, rfl⟩
  · have h2 : dl.getD v false = false := by rw [List.getD_eq_getElem?_getD, List.getElem?_eq_none (by omega)]; rfl
    rw [h2]
    have h3 : ¬ v < dl.length := hv
    clear h h2 hv
    go_enter Try.func23, Try.ntmps23
    go_wp2
    go_ret
    exact ⟨rfl, rfl⟩

theorem none_some {w : World} {sb tb : Nat} {pa : Option Addr} {pc : Nat} {s : SS} (h : Sch w sb tb pa pc s) :
    Calls Try.prog 16 #[.pointer (some ⟨sb, 0, none⟩)] w fun e w' => e = .returned (.bool false) ∧ w = w' := by
  have c2 : w.cell? ⟨sb, 2, none⟩ = some (.slice (some ⟨tb, 0, none⟩) s.told.length s.told.length) := by rw [h.head.cell]; rfl
  have hz : ¬ s.told = [] := fun e => by have := h.n1; rw [e] at this; simp at this
  have hz1 : (s.told.length == 0) = false := by have := h.n1; simp; exact hz
  have n1 := h.n1
  clear h
  go_enter Try.func16, Try.ntmps16
  go_wp2
  go_ret
  exact ⟨by simp [hz], rfl⟩
theorem none_nil (w : World) :
    Calls Try.prog 16 #[.pointer none] w fun e w' => e = .returned (.bool true) ∧ w = w' := by
  go_enter Try.func16, Try.ntmps16
  go_wp2
  go_ret
  exact ⟨rfl, rfl⟩
theorem none_empty (w : World) (sb : Nat) (a : Option Addr) (c : Nat) (c2 : w.cell? ⟨sb, 2, none⟩ = some (.slice a 0 c)) :
    Calls Try.prog 16 #[.pointer (some ⟨sb, 0, none⟩)] w fun e w' => e = .returned (.bool true) ∧ w = w' := by
  go_enter Try.func16, Try.ntmps16
  go_wp2
  go_ret
  exact ⟨rfl, rfl⟩

theorem Left_any {w : World} {sb tb : Nat} {pa : Option Addr} {pc : Nat} {s : SS} (h : Sch w sb tb pa pc s) :
    Calls Try.prog 9 #[.pointer (some ⟨sb, 0, none⟩)] w fun e w' => e = .returned (.int .i64 (s.picks.length : Int)) ∧ w = w' := by
  have c0 : w.cell? ⟨sb, 0, none⟩ = some (.slice pa s.picks.length pc) := by rw [h.head.cell]; rfl
  have HN := Lib.hid (none_some h)
  clear h
  go_enter Try.func9, Try.ntmps9
  go_wp2_with (go_at_call 16; refine HN.out.mono ?_; rintro e w' ⟨rfl, rfl⟩)
  go_ret
  exact ⟨rfl, rfl⟩
theorem Left_none (p : Option Addr) (w : World) (HN : Hid (Calls Try.prog 16 #[.pointer p] w fun e w' => e = .returned (.bool true) ∧ w = w')) :
    Calls Try.prog 9 #[.pointer p] w fun e w' => e = .returned (.int .i64 0) ∧ w = w' := by
  go_enter Try.func9, Try.ntmps9
  go_wp2_with (go_at_call 16; refine HN.out.mono ?_; rintro e w' ⟨rfl, rfl⟩)
  go_ret
  exact ⟨rfl, rfl⟩

theorem Rounds_any {w : World} {sb tb : Nat} {pa : Option Addr} {pc : Nat} {s : SS} (h : Sch w sb tb pa pc s) :
    Calls Try.prog 14 #[.pointer (some ⟨sb, 0, none⟩)] w fun e w' => e = .returned (.int .i64 (s.ended : Int)) ∧ w = w' := by
  have c0 : w.cell? ⟨sb, 3, none⟩ = some (.int .i64 (s.ended : Int)) := by rw [h.head.cell]; rfl
  have HN := Lib.hid (none_some h)
  clear h
  go_enter Try.func14, Try.ntmps14
  go_wp2_with (go_at_call 16; refine HN.out.mono ?_; rintro e w' ⟨rfl, rfl⟩)
  go_ret
  exact ⟨rfl, rfl⟩
theorem Rounds_none (p : Option Addr) (w : World) (HN : Hid (Calls Try.prog 16 #[.pointer p] w fun e w' => e = .returned (.bool true) ∧ w = w')) :
    Calls Try.prog 14 #[.pointer p] w fun e w' => e = .returned (.int .i64 0) ∧ w = w' := by
  go_enter Try.func14, Try.ntmps14
  go_wp2_with (go_at_call 16; refine HN.out.mono ?_; rintro e w' ⟨rfl, rfl⟩)
  go_ret
  exact ⟨rfl, rfl⟩

/-- Where to look from on. -/
def fromOf (n last : Nat) (picks : List Int) : Nat := match picks with
  | [] => (last + 1) % n
  | p :: _ => (p % (n : Int)).toNat
theorem fromOf_lt (n last : Nat) (picks : List Int) (h : 0 < n) : fromOf n last picks < n := by
  unfold fromOf
  split
  · exact Nat.mod_lt _ h
  · have h1 := Int.emod_nonneg (‹Int› : Int) (show (n : Int) ≠ 0 by omega)
    have h2 := Int.emod_lt_of_pos (‹Int› : Int) (show (0 : Int) < n by omega)
    omega
theorem tmod_turn (p n : Int) (h : 0 < n) : (p.tmod n + n) % n = p % n := by
  rw [Int.add_emod_right]
  have h1 := Int.tmod_add_mul_tdiv p n
  conv => rhs; rw [← h1]
  rw [Int.add_mul_emod_self_left]
set_option maxHeartbeats 1000000 in
theorem begin_any {w : World} {sb tb : Nat} {pa : Option Addr} {pc : Nat} {s : SS} (h : Sch w sb tb pa pc s) :
    Calls Try.prog 18 #[.pointer (some ⟨sb, 0, none⟩)] w fun e w' => e = .returned (.int .i64 ((fromOf s.told.length s.last s.picks : Nat) : Int)) ∧ w = w' := by
  have c0 : w.cell? ⟨sb, 0, none⟩ = some (.slice pa s.picks.length pc) := by rw [h.head.cell]; rfl
  have c1 : w.cell? ⟨sb, 1, none⟩ = some (.int .i64 (s.last : Int)) := by rw [h.head.cell]; rfl
  have c2 : w.cell? ⟨sb, 2, none⟩ = some (.slice (some ⟨tb, 0, none⟩) s.told.length s.told.length) := by rw [h.head.cell]; rfl
  have n1 := h.n1
  have n2 := h.n2
  have l1 := h.last
  have hp := h.picks
  obtain ⟨picks, last, told, ended⟩ := s
  simp only at *
  generalize told.length = n at *
  have hn0 : ¬ (n : Int) = 0 := by omega
  cases picks with
  | nil =>
    have e1 : (((last + 1) % n : Nat) : Int) = ((last : Int) + 1) % (n : Int) := by simp
    unfold fromOf
    rw [e1]
    clear h e1
    go_enter Try.func18, Try.ntmps18
    go_wp2
    go_ret
    exact ⟨rfl, rfl⟩
  | cons p ps =>
    obtain ⟨b, off, rfl, hc⟩ := hp.at 0 (by simp)
    have cp : w.cell? ⟨b, off, none⟩ = some (.int .i64 p) := by simpa using hc
    have t1 := tmod_turn p n (by omega)
    have t2 : -(n : Int) < p.tmod n := Int.lt_tmod_of_pos p (by omega)
    have t3 : p.tmod n < n := Int.tmod_lt_of_pos p (by omega)
    have t4 : 0 ≤ p % (n : Int) := Int.emod_nonneg _ hn0
    have e1 : ((fromOf n last (p :: ps) : Nat) : Int) = (p.tmod n + n) % n := by unfold fromOf; simp only; rw [t1]; omega
    rw [e1]
    have hpl : ¬ (p :: ps).length = 0 := by simp
    have hpl1 : 0 < (p :: ps).length := by simp
    generalize (p :: ps).length = m at *
    clear h e1 t1 t4 hc hp
    go_enter Try.func18, Try.ntmps18
    go_wp2
    go_ret
    exact ⟨rfl, rfl⟩
end Go.Proofs.Ytacacnjpfflbnaa
