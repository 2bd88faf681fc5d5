/- A pop and steals at one deque that holds one number, in memory; the rows they stand in. -/
import Derived.Test.YtdgkemadhooogaaDeqLaw
import Derived.Test.YtdgkemadhooogaaDeqLastQ
import Derived.Test.YtdgkemadhooogaaPush
namespace Go.Proofs.Ytdgkemadhooogaa
set_option linter.unusedVariables false
set_option linter.unusedSimpArgs false
open Go.RowKit

/-- One thing, just made, is appended to a row of one's own, of elements of one cell. -/
theorem run_pushw {P : Program} (W : World) (base : Nat) (t ty e : TypeId) (i : TypeInfo) (z : Value) (bytes : Nat) (ht : P.underlying t = some (.slice e)) (hi : P.info? e = some i) (hz : i.zero = some z)
    (hsize : i.size = 1) (hby : i.bytes = bytes) (hzs : z.cells.size = 1) (hb8 : bytes ≤ 1000)
    (v : Value) (n : Nat) (xs : List Value) (hown : W.ownsRow base e 1 v n xs) (u : Value) (h1 : u.oneCell' = true) (hn : n ≤ 2000000) (hbase : base ≤ W.heap.size) :
    ∃ g cap w', (Builtin.append_ #[t, t] ty #[v, .slice (some ⟨W.heap.size, 0, none⟩) 1 1]).run P (W.alloc (.cells #[u] e)) = .ok (.slice (some ⟨g, 0, none⟩) (n + 1) cap) w' ∧
      w'.ownsRow base e 1 (.slice (some ⟨g, 0, none⟩) (n + 1) cap) (n + 1) (xs ++ [u]) ∧ Grew W w' v (.slice (some ⟨g, 0, none⟩) (n + 1) cap) := by
  have hK := (Upd.refl (fun _ => False) W).alloc (.cells #[u] e)
  have hown' := hown.alloc (.cells #[u] e)
  have hnews : ∀ (j : Nat) (x : Value), [u][j]? = some x → (W.alloc (.cells #[u] e)).cell? ((⟨W.heap.size, 0, none⟩ : Addr).add j) = some x := cells_new W #[u] e
  have hone : ∀ x ∈ [u], x.oneCell' = true := by intro x hx; simp at hx; subst hx; exact h1
  have hsz : W.heap.size ≤ (W.alloc (.cells #[u] e)).heap.size := hK.size
  have hl63 : n + 1 ≤ maxLen := by unfold maxLen; omega
  have hbb : (n + 1) * bytes ≤ 140737488355328 := Nat.le_trans (Nat.mul_le_mul (show n + 1 ≤ 2000001 by omega) hb8) (by decide)
  have key : ∀ b', W.ownsRow b' e 1 v n xs → b' ≤ W.heap.size → ∃ v' w', (Builtin.append_ #[t, t] ty #[v, .slice (some ⟨W.heap.size, 0, none⟩) 1 1]).run P (W.alloc (.cells #[u] e)) = .ok v' w' ∧ w'.ownsRow b' e 1 v' (n + 1) (xs ++ [u]) ∧ (W.alloc (.cells #[u] e)).grownBy w' v.ownBlock := by
    intro b' ho hb'
    obtain ⟨v', w', hr, h2, h3, _⟩ := run_append_own (P := P) (W.alloc (.cells #[u] e)) b' t ty e i z 1 bytes ht hi hz hsize hby hzs (by omega) v n xs (ho.alloc _) ⟨W.heap.size, 0, none⟩ 1 1 [u] rfl hnews hone hl63 hbb (by omega)
    exact ⟨v', w', hr, h2, h3⟩
  obtain ⟨v', w', hr, h2, h3⟩ := key base hown hbase
  obtain ⟨g, cap, rfl, _⟩ := h2.form (by omega)
  refine ⟨g, cap, w', hr, h2, Upd.grown ((Upd.refl (fun k => v.ownBlock = some k) W).alloc _) h3 (fun k hk => .inl hk), fun k hk => ?_⟩
  cases hk
  rcases hown.2 with ⟨rfl, rfl⟩ | ⟨g0, cap0, cur0, rfl, hb0, hg0, hnc, hcm, hcs, htake⟩
  · right
    have hx : xs = [] := List.eq_nil_of_length_eq_zero (by simpa using hown.1)
    subst hx
    obtain ⟨v2, w2, hr2, h22, _⟩ := key W.heap.size (World.ownsRow_nil _ _ _ _) (Nat.le_refl _)
    rw [hr] at hr2
    cases hr2
    exact (World.ownsRow.lt h22 g rfl).1
  · by_cases hroom : n + 1 ≤ cap0
    · left
      have hg1 : (W.alloc (.cells #[u] e)).heap[g0]? = some (.cells cur0 e (0, 0)) := by
        rw [hK.block g0 (Array.getElem?_eq_some_iff.1 hg0).1 (fun f => f)]; exact hg0
      have hr2 := run_append_room (P := P) (W.alloc (.cells #[u] e)) t ty e i ht hi g0 n cap0 cur0 hg1 ⟨W.heap.size, 0, none⟩ 1 1 [u] (by rw [hsize]; rfl) hnews hone hroom (by rw [hsize, hcs]; simp; omega)
      rw [hr] at hr2
      cases hr2
      rfl
    · right
      have holds : ∀ j x, xs[j]? = some x → (W.alloc (.cells #[u] e)).cell? ((⟨g0, 0, none⟩ : Addr).add j) = some x := hown'.cells (g := g0) rfl
      have hr2 := run_append_grow (P := P) (W.alloc (.cells #[u] e)) t ty e i z ht hi hz ⟨g0, 0, none⟩ n cap0 xs (by rw [hsize]; exact hown.1) holds ⟨W.heap.size, 0, none⟩ 1 1 [u] (by rw [hsize]; rfl) hnews (by omega) (by omega) (growslice_fits (by omega) (by rw [hby]; exact hbb))
      rw [hr] at hr2
      cases hr2
      exact hsz
theorem wpList_pushw {P : Program} {W : World} {ops : Array Oper} {rest : List Oper} {o : Oper} {a : Act} {Q : Exit → Act → World → Prop} (hgd : o.guard = none) (s x : Operand) (t : TypeId)
    (ho : o.op = .call { callee := .builtin .append, args := #[s, x], argTypes := #[t, t] })
    (base : Nat) (e : TypeId) (i : TypeInfo) (z : Value) (bytes : Nat) (ht : P.underlying t = some (.slice e)) (hi : P.info? e = some i) (hz : i.zero = some z)
    (hsize : i.size = 1) (hby : i.bytes = bytes) (hzs : z.cells.size = 1) (hb8 : bytes ≤ 1000)
    (v : Value) (n : Nat) (xs : List Value) (hs : a.eval s = v) (hown : W.ownsRow base e 1 v n xs) (u : Value) (h1 : u.oneCell' = true) (hx : a.eval x = .slice (some ⟨W.heap.size, 0, none⟩) 1 1) (hn : n ≤ 2000000) (hbase : base ≤ W.heap.size)
    (h : ∀ g cap w', w'.ownsRow base e 1 (.slice (some ⟨g, 0, none⟩) (n + 1) cap) (n + 1) (xs ++ [u]) → Grew W w' v (.slice (some ⟨g, 0, none⟩) (n + 1) cap) → wpList P ops Q rest (a.put o.dst (.slice (some ⟨g, 0, none⟩) (n + 1) cap)) w') :
    wpList P ops Q (o :: rest) a (W.alloc (.cells #[u] e)) := by
  obtain ⟨g, cap, w', hr, h2, h3⟩ := run_pushw (P := P) W base t o.type e i z bytes ht hi hz hsize hby hzs hb8 v n xs hown u h1 hn hbase
  refine wpList_plain hgd fun K hK => ?_
  unfold Oper.wp execOp
  simp only [ho, resolve, invoke, builtin, Sem.run_bind, Sem.run_pure, Result.andThen_ok, List.map_toArray, List.map_cons, List.map_nil, hs, hx, hr]
  exact hK _ _ (h g cap w' h2 h3)

theorem infoPtr : (Try.prog.info? 38).map (fun i => (i.zero, i.size, i.bytes)) = some (some (.pointer none), 1, 8) := by kernel_rfl
theorem infoMach : (Try.prog.info? 65).map (fun i => (i.zero, i.size, i.bytes)) = some (some .nilIface, 1, 16) := by kernel_rfl
/-- A steal: its box, its state, whether it lost. -/
structure SB where
  b : Nat
  m : DM
  lo : Bool
def ptr (b : Nat) : Value := .pointer (some ⟨b, 0, none⟩)
def stIfc (b : Nat) : Value := .iface 38 (.pointer (some ⟨b, 0, none⟩))
def popIfc (b : Nat) : Value := .iface 37 (.pointer (some ⟨b, 0, none⟩))
def got1 : List SB → Nat
  | [] => 0
  | s :: ss => cnt1 s.m.got + got1 ss
theorem got1_set : ∀ (ss : List SB) (j : Nat) (s s' : SB), ss[j]? = some s → got1 (ss.set j s') + cnt1 s.m.got = got1 ss + cnt1 s'.m.got
  | [], j, s, s', h => by simp at h
  | a :: ss, 0, s, s', h => by
    simp at h
    subst h
    simp only [List.set_cons_zero, got1]
    omega
  | a :: ss, j + 1, s, s', h => by
    have := got1_set ss j s s' (by simpa using h)
    simp only [List.set_cons_succ, got1]
    omega
theorem got1_add (ss : List SB) (s : SB) : got1 (ss ++ [s]) = got1 ss + cnt1 s.m.got := by
  induction ss with
  | nil => simp [got1]
  | cons a ss ih => simp only [List.cons_append, got1, ih]; omega
structure Crew (w : World) (B lb bb g : Nat) (lv : Array Value) (l : Lay) (tp r : Nat) (T : Int) (pb : Nat) (bs : List Nat) (m : DM) (ss : List SB) (top : Bool) (xs : List Int) (W : World) : Prop where
  da : DA w B lb bb g lv xs W
  pp : PB W pb 51 l 0 m []
  pn : B ≤ pb
  st : ∀ s ∈ ss, PB W s.b 45 l 0 s.m [.bool s.lo] ∧ B ≤ s.b
  eb : ss.map SB.b = bs
  ap : bs.Nodup
  one : OneB tp r T 77 top (popDn m) xs
  pi : PopI T 77 top m
  si : ∀ s ∈ ss, StI T 77 top s.m s.lo
  ct : cnt1 m.got + got1 ss = cnt1 top
/-- The rows the machines stand in. -/
structure RowsC (B pb : Nat) (bs : List Nat) (vs vl : Value) (W : World) : Prop where
  s : W.ownsRow B 38 1 vs bs.length (bs.map ptr)
  l : W.ownsRow B 65 1 vl (bs.length + 1) (popIfc pb :: bs.map stIfc)
section
variable {w W W' : World} {B lb bb g : Nat} {lv : Array Value} {l : Lay} {tp r : Nat} {T : Int} {pb : Nat} {bs : List Nat} {m : DM} {ss : List SB} {top : Bool} {xs : List Int} {vs vl : Value}
theorem Crew.len (h : Crew w B lb bb g lv l tp r T pb bs m ss top xs W) : ss.length = bs.length := by rw [← h.eb]; simp
theorem Crew.upd {S : Nat → Prop} (h : Crew w B lb bb g lv l tp r T pb bs m ss top xs W) (k : Upd S W W') (h1 : ∀ i, S i → B ≤ i) (h2 : ¬ S pb) (h3 : ∀ s ∈ ss, ¬ S s.b) : Crew w B lb bb g lv l tp r T pb bs m ss top xs W' :=
  ⟨h.da.far (k.wide fun i _ hs => h1 i hs), h.pp.upd k h2, h.pn, fun s hs => ⟨(h.st s hs).1.upd k (h3 s hs), (h.st s hs).2⟩, h.eb, h.ap, h.one, h.pi, h.si, h.ct⟩
theorem Crew.kept (h : Crew w B lb bb g lv l tp r T pb bs m ss top xs W) (k : Kept W W') : Crew w B lb bb g lv l tp r T pb bs m ss top xs W' :=
  h.upd k (fun _ f => f.elim) (fun f => f) (fun _ _ f => f)
/-- A row of one's own has grown. -/
theorem Crew.grew (h : Crew w B lb bb g lv l tp r T pb bs m ss top xs W) {v v' : Value} {e : TypeId} {n size : Nat} {ys : List Value} (ho : W.ownsRow B e size v n ys) (h1 : e ≠ 51) (h2 : e ≠ 45) (hg : Grew W W' v v') : Crew w B lb bb g lv l tp r T pb bs m ss top xs W' :=
  h.upd hg.upd (fun i hi => (World.ownsRow.lt ho i hi).1) (blk_row_ne h.pp ho h1) (fun s hs => blk_row_ne (h.st s hs).1 ho h2)
theorem RowsC.kept (h : RowsC B pb bs vs vl W) (k : Kept W W') : RowsC B pb bs vs vl W' := ⟨ownsRow_upd h.s k (fun _ _ f => f), ownsRow_upd h.l k (fun _ _ f => f)⟩
theorem RowsC.mach {kd : Kd} {k : Int} {mb : Nat} {mm : DM} {ex : List Value} {s' : KS} (h : RowsC B pb bs vs vl W) (hP : PB W mb kd.T l k mm ex) (hK : KSt kd l k mb bb g s' W W') (hg : g < B) (h1 : 38 ≠ kd.T) (h2 : 65 ≠ kd.T) : RowsC B pb bs vs vl W' := by
  refine ⟨ownsRow_far h.s hK.2.2 fun i hi e => ?_, ownsRow_far h.l hK.2.2 fun i hi e => ?_⟩
  · rcases e with rfl | rfl
    · have := (World.ownsRow.lt h.s _ hi).1; omega
    · exact blk_row_ne hP h.s h1 hi
  · rcases e with rfl | rfl
    · have := (World.ownsRow.lt h.l _ hi).1; omega
    · exact blk_row_ne hP h.l h2 hi
/-- One steal more. -/
theorem Crew.add (h : Crew w B lb bb g lv l tp r T pb bs m ss top xs W) {b : Nat} (hb : PB W b 45 l 0 ⟨0, 0, 0, 0, false, false⟩ [.bool false]) (hB : B ≤ b) (hn : ∀ x ∈ bs, x ≠ b) : Crew w B lb bb g lv l tp r T pb (bs ++ [b]) m (ss ++ [⟨b, ⟨0, 0, 0, 0, false, false⟩, false⟩]) top xs W := by
  refine ⟨h.da, h.pp, h.pn, fun s hs => ?_, by rw [List.map_append, h.eb]; rfl, ?_, h.one, h.pi, fun s hs => ?_, ?_⟩
  · rcases List.mem_append.1 hs with hs | hs
    · exact h.st s hs
    · obtain rfl := List.mem_singleton.1 hs
      exact ⟨hb, hB⟩
  · rw [List.nodup_append]
    exact ⟨h.ap, by simp, fun x hx y hy => by obtain rfl := List.mem_singleton.1 hy; exact hn x hx⟩
  · rcases List.mem_append.1 hs with hs | hs
    · exact h.si s hs
    · obtain rfl := List.mem_singleton.1 hs
      exact StI.start _ _ _
  · rw [got1_add]
    exact h.ct
/-- The pop went on. -/
theorem Crew.popTo (h : Crew w B lb bb g lv l tp r T pb bs m ss top xs W) {s' : KS} {top' : Bool} (hK : KSt .pop l 0 pb bb g s' W W') (h1 : OneB tp r T 77 top' (popDn s'.m) s'.xs) (h2 : PopI T 77 top' s'.m) (h3 : top = true → top' = true) (h4 : cnt1 s'.m.got + cnt1 top = cnt1 m.got + cnt1 top') : Crew w B lb bb g lv l tp r T pb bs s'.m ss top' s'.xs W' := by
  have n := h.da.nz
  refine ⟨h.da.mach hK h.pn, hK.1, h.pn, fun s hs => ⟨(h.st s hs).1.upd hK.2.2 fun e => ?_, (h.st s hs).2⟩, h.eb, h.ap, h1, h2, fun s hs => ?_, by have := h.ct; omega⟩
  · have hb := (h.st s hs).2
    rcases e with e | e
    · omega
    · have hp := h.pp
      have hq := (h.st s hs).1
      rw [e] at hq
      exact absurd (Blk.same hp hq).2 (by decide)
  · cases top with
    | true => rw [h3 rfl]; exact h.si s hs
    | false =>
      cases top' with
      | false => exact h.si s hs
      | true => exact (h.si s hs).on
/-- A steal went on. -/
theorem Crew.stealTo (h : Crew w B lb bb g lv l tp r T pb bs m ss top xs W) {j : Nat} {s : SB} (hj : ss[j]? = some s) {s' : KS} {top' : Bool} (hK : KSt .steal l 0 s.b bb g s' W W') (h1 : OneB tp r T 77 top' (popDn m) s'.xs) (h2 : StI T 77 top' s'.m s'.lo) (h3 : top = true → top' = true) (h4 : cnt1 s'.m.got + cnt1 top = cnt1 s.m.got + cnt1 top') : Crew w B lb bb g lv l tp r T pb bs m (ss.set j ⟨s.b, s'.m, s'.lo⟩) top' s'.xs W' := by
  have n := h.da.nz
  have hm : s ∈ ss := List.mem_of_getElem? hj
  have hjl := (List.getElem?_eq_some_iff.1 hj).1
  have hsb := (h.st s hm).2
  have on : ∀ q ∈ ss, StI T 77 top' q.m q.lo := fun q hq => by
    cases top with
    | true => rw [h3 rfl]; exact h.si q hq
    | false =>
      cases top' with
      | false => exact h.si q hq
      | true => exact (h.si q hq).on
  refine ⟨h.da.mach hK hsb, h.pp.upd hK.2.2 fun e => ?_, h.pn, fun q hq => ?_, ?_, h.ap, h1, ?_, fun q hq => ?_, ?_⟩
  · have hpb := h.pn
    rcases e with e | e
    · omega
    · have hp := h.pp
      have hq := (h.st s hm).1
      rw [← e] at hq
      exact absurd (Blk.same hp hq).2 (by decide)
  · obtain ⟨i, hi, e⟩ := List.getElem_of_mem hq
    have hi' : i < ss.length := by simpa using hi
    rw [List.getElem_set] at e
    by_cases ej : j = i
    · rw [if_pos ej] at e
      subst e
      exact ⟨hK.1, hsb⟩
    · rw [if_neg ej] at e
      subst e
      have hqm : ss[i] ∈ ss := List.getElem_mem hi'
      refine ⟨(h.st _ hqm).1.upd hK.2.2 fun e => ?_, (h.st _ hqm).2⟩
      have hb := (h.st _ hqm).2
      rcases e with e | e
      · omega
      · have hap := h.ap
        rw [← h.eb] at hap
        have e1 : (ss.map SB.b)[i]'(by simpa using hi') = (ss.map SB.b)[j]'(by simpa using hjl) := by
          have : s = ss[j] := ((List.getElem?_eq_some_iff.1 hj).2).symm
          simp only [List.getElem_map]
          rw [e, this]
        have := (List.getElem_inj hap).1 e1
        omega
  · rw [← h.eb, List.map_set]
    refine List.ext_getElem (by simp) fun i h1 h2 => ?_
    rw [List.getElem_set]
    split
    · rename_i e
      subst e
      have : s = ss[j] := ((List.getElem?_eq_some_iff.1 hj).2).symm
      simp [this]
    · rfl
  · cases top with
    | true => rw [h3 rfl]; exact h.pi
    | false =>
      cases top' with
      | false => exact h.pi
      | true => exact h.pi.on
  · obtain ⟨i, hi, e⟩ := List.getElem_of_mem hq
    have hi' : i < ss.length := by simpa using hi
    rw [List.getElem_set] at e
    by_cases ej : j = i
    · rw [if_pos ej] at e
      subst e
      exact h2
    · rw [if_neg ej] at e
      subst e
      exact on _ (List.getElem_mem hi')
  · have h5 := got1_set ss j s ⟨s.b, s'.m, s'.lo⟩ hj
    have h6 := h.ct
    simp only at h5
    omega
/-- What a step of one of them leaves. -/
def CrewEnd (w : World) (B lb bb g : Nat) (lv : Array Value) (l : Lay) (tp r : Nat) (T : Int) (pb : Nat) (bs : List Nat) (vs vl : Value) (e : Ending) (W' : World) : Prop :=
  ∃ d m' ss' top' xs', e = .returned (.bool d) ∧ Crew w B lb bb g lv l tp r T pb bs m' ss' top' xs' W' ∧ RowsC B pb bs vs vl W'
theorem Crew.stepPop (hG : Geo l 0 tp r) (h : Crew w B lb bb g lv l tp r T pb bs m ss top xs W) (hR : RowsC B pb bs vs vl W) :
    Calls Try.prog 42 #[.pointer (some ⟨pb, 0, none⟩), .pointer (some ⟨bb, 0, none⟩)] W (CrewEnd w B lb bb g lv l tp r T pb bs vs vl) := by
  have n := h.da.nz
  have hp := h.pn
  refine (kstep_any .pop ⟨m, false, xs⟩ hG h.pp h.da.b (by omega) (PopI.kinv h.one h.pi)).mono ?_
  rintro e W' ⟨rfl, hK⟩
  obtain ⟨top', a1, a2, a3, a4⟩ := pop_last_step h.one h.pi
  exact ⟨_, _, ss, top', _, rfl, h.popTo hK a1 a2 a3 a4, hR.mach (kd := .pop) h.pp hK (by omega) (by decide) (by decide)⟩
theorem Crew.stepSteal (hG : Geo l 0 tp r) (h : Crew w B lb bb g lv l tp r T pb bs m ss top xs W) (hR : RowsC B pb bs vs vl W) {b : Nat} (hb : b ∈ bs) :
    Calls Try.prog 41 #[.pointer (some ⟨b, 0, none⟩), .pointer (some ⟨bb, 0, none⟩)] W (CrewEnd w B lb bb g lv l tp r T pb bs vs vl) := by
  have n := h.da.nz
  rw [← h.eb] at hb
  obtain ⟨s, hs, rfl⟩ := List.mem_map.1 hb
  obtain ⟨j, hjl, hj⟩ := List.getElem_of_mem hs
  have hj2 : ss[j]? = some s := by rw [List.getElem?_eq_getElem hjl, hj]
  have hp := (h.st s hs).2
  refine (kstep_any .steal ⟨s.m, s.lo, xs⟩ hG (h.st s hs).1 h.da.b (by omega) (StI.kinv h.one (h.si s hs))).mono ?_
  rintro e W' ⟨rfl, hK⟩
  obtain ⟨top', a1, a2, a3, a4⟩ := steal_last_step h.one (h.si s hs)
  exact ⟨_, m, _, top', _, rfl, h.stealTo hj2 hK a1 a2 a3 a4, hR.mach (kd := .steal) (h.st s hs).1 hK (by omega) (by decide) (by decide)⟩
/-- The first k of them are done. -/
def DnTo (k : Nat) (m : DM) (ss : List SB) : Prop := (1 ≤ k → m.done = true) ∧ ∀ j s, j + 1 < k → ss[j]? = some s → s.m.done = true
def CrewDone (w : World) (B lb bb g : Nat) (lv : Array Value) (l : Lay) (tp r : Nat) (T : Int) (pb : Nat) (bs : List Nat) (vs vl : Value) (k : Nat) (e : Ending) (W' : World) : Prop :=
  ∃ m' ss' top' xs', e = .returned (.bool true) ∧ Crew w B lb bb g lv l tp r T pb bs m' ss' top' xs' W' ∧ RowsC B pb bs vs vl W' ∧ DnTo k m' ss'
theorem Crew.alonePop (hG : Geo l 0 tp r) (h : Crew w B lb bb g lv l tp r T pb bs m ss top xs W) (hR : RowsC B pb bs vs vl W) :
    Calls Try.prog 20 #[popIfc pb, .pointer (some ⟨bb, 0, none⟩)] W (CrewDone w B lb bb g lv l tp r T pb bs vs vl 1) := by
  have n := h.da.nz
  have hp := h.pn
  obtain ⟨N, s', hA, hN, ⟨top', a1, a2, a3, a4⟩, hD⟩ := alone_of (tp := tp) (r := r) (kd := .pop)
    (fun s => ∃ top', OneB tp r T 77 top' (popDn s.m) s.xs ∧ PopI T 77 top' s.m ∧ (top = true → top' = true) ∧ cnt1 s.m.got + cnt1 top = cnt1 m.got + cnt1 top') 5
    (fun s ⟨_, q1, q2, _⟩ => PopI.kinv q1 q2)
    (fun s ⟨t1, q1, q2, q3, q4⟩ => by
      obtain ⟨t2, a1, a2, a3, a4⟩ := pop_last_step q1 q2
      exact ⟨t2, a1, a2, fun e => a3 (q3 e), by simp only [kstep]; omega⟩)
    (fun s ⟨_, q1, q2, _⟩ hd => ⟨q2.lo, q2.hi hd⟩)
    (pop_up tp r) 6 ⟨m, false, xs⟩ ⟨top, h.one, h.pi, id, rfl⟩ (fun _ => by have := h.pi.lo; simp only; omega)
  refine (alone_pop hG h.pp h.da.b (by omega) hA (by omega)).mono ?_
  rintro e W' ⟨rfl, hK⟩
  exact ⟨_, ss, top', _, rfl, h.popTo hK a1 a2 a3 a4, hR.mach (kd := .pop) h.pp hK (by omega) (by decide) (by decide), fun _ => hD, fun j s hj => by omega⟩
theorem Crew.aloneSteal (hG : Geo l 0 tp r) (h : Crew w B lb bb g lv l tp r T pb bs m ss top xs W) (hR : RowsC B pb bs vs vl W) {j b : Nat} (hb : bs[j]? = some b) (hd : DnTo (j + 1) m ss) :
    Calls Try.prog 20 #[stIfc b, .pointer (some ⟨bb, 0, none⟩)] W (CrewDone w B lb bb g lv l tp r T pb bs vs vl (j + 2)) := by
  have n := h.da.nz
  rw [← h.eb, List.getElem?_map] at hb
  cases hj : ss[j]? with
  | none => rw [hj] at hb; cases hb
  | some s =>
    rw [hj] at hb
    obtain rfl : s.b = b := by simpa using hb
    have hs : s ∈ ss := List.mem_of_getElem? hj
    have hjl := (List.getElem?_eq_some_iff.1 hj).1
    have hp := (h.st s hs).2
    obtain ⟨N, s', hA, hN, ⟨top', a1, a2, a3, a4⟩, hD⟩ := alone_of (tp := tp) (r := r) (kd := .steal)
      (fun q => ∃ top', OneB tp r T 77 top' (popDn m) q.xs ∧ StI T 77 top' q.m q.lo ∧ (top = true → top' = true) ∧ cnt1 q.m.got + cnt1 top = cnt1 s.m.got + cnt1 top') 3
      (fun s ⟨_, q1, q2, _⟩ => StI.kinv q1 q2)
      (fun s ⟨t1, q1, q2, q3, q4⟩ => by
        obtain ⟨t2, a1, a2, a3, a4⟩ := steal_last_step q1 q2
        exact ⟨t2, a1, a2, fun e => a3 (q3 e), by simp only [kstep]; omega⟩)
      (fun s ⟨_, q1, q2, _⟩ hd => ⟨q2.lo0, q2.hi hd⟩)
      (steal_up tp r) 4 ⟨s.m, s.lo, xs⟩ ⟨top, h.one, h.si s hs, id, rfl⟩ (fun _ => by have := (h.si s hs).lo0; simp only; omega)
    refine (alone_steal hG (h.st s hs).1 h.da.b (by omega) hA (by omega)).mono ?_
    rintro e W' ⟨rfl, hK⟩
    refine ⟨m, _, top', _, rfl, h.stealTo hj hK a1 a2 a3 a4, hR.mach (kd := .steal) (h.st s hs).1 hK (by omega) (by decide) (by decide), fun _ => hd.1 (by omega), fun i q hi hq => ?_⟩
    rw [List.getElem?_set] at hq
    split at hq
    · cases hq
      exact hD
    · exact hd.2 i q (by omega) hq
/-- At the end. -/
theorem Crew.top_at (h : Crew w B lb bb g lv l tp r T pb bs m ss top xs W) (hd : m.done = true) : cnt1 m.got + got1 ss = 1 ∧ (m.got = true → m.x = 77) ∧ ((T + 1 ≤ 100000) → Row tp r xs (T + 1) []) := by
  obtain ⟨rfl, h2, h3⟩ := h.pi.fin hd
  refine ⟨h.ct, h2, fun hb => ?_⟩
  have h4 := h.one.top
  have h5 := h.one.bot
  have h6 := h.one.t0
  have hp : popDn m = false := by unfold popDn; rw [hd]; simp
  rw [hp] at h5
  simp only [if_true, if_false, Bool.false_eq_true] at h4 h5
  exact ⟨h.one.fit, by omega, by simpa using hb, by simp, h4, by simpa using h5, fun j hj => by simp at hj⟩
theorem got1_take (ss : List SB) (k : Nat) (s : SB) (h : ss[k]? = some s) : got1 (ss.take (k + 1)) = got1 (ss.take k) + cnt1 s.m.got := by
  rw [List.take_add_one, h]
  exact got1_add _ _
theorem got1_le (ss : List SB) (k : Nat) : got1 (ss.take k) ≤ got1 ss := by
  induction ss generalizing k with
  | nil => simp
  | cons a ss ih =>
    cases k with
    | zero => simp [got1]
    | succ k => simp only [List.take_succ_cons, got1]; have := ih k; omega
/-- The first steal joins with the pop's row. -/
theorem RowsC.start {v : Value} (h : W.ownsRow B 65 1 v 1 [popIfc pb]) : RowsC B pb [] (.slice none 0 0) v W := ⟨World.ownsRow_nil _ _ _ _, h⟩
theorem RowsC.elem (h : RowsC B pb bs vs vl W) : ∃ lg cap, vl = .slice (some ⟨lg, 0, none⟩) (bs.length + 1) cap ∧ W.cell? ⟨lg, 0, none⟩ = some (popIfc pb) ∧ ∀ j b, bs[j]? = some b → W.cell? ⟨lg, j + 1, none⟩ = some (stIfc b) := by
  obtain ⟨lg, cap, rfl, -⟩ := h.l.form (by omega)
  refine ⟨lg, cap, rfl, ?_, fun j b hj => ?_⟩
  · rw [h.l.cellAt 0 (by omega)]
    rfl
  · have hjl := (List.getElem?_eq_some_iff.1 hj).1
    rw [h.l.cellAt (j + 1) (by omega)]
    simp [hj]
theorem RowsC.pushS (h : RowsC B pb bs vs vl W) {v' : Value} (hg : Grew W W' vs v') : W'.ownsRow B 65 1 vl (bs.length + 1) (popIfc pb :: bs.map stIfc) := hg.row h.l (rows_far h.s h.l (by decide))
theorem rows_both {b : Nat} {vl' : Value} (hs : W.ownsRow B 38 1 vs (bs.length + 1) (bs.map ptr ++ [.pointer (some ⟨b, 0, none⟩)])) (hl : W.ownsRow B 65 1 vl (bs.length + 1) (popIfc pb :: bs.map stIfc)) (hl' : W'.ownsRow B 65 1 vl' (bs.length + 1 + 1) ((popIfc pb :: bs.map stIfc) ++ [.iface 38 (.pointer (some ⟨b, 0, none⟩))])) (hg : Grew W W' vl vl') : RowsC B pb (bs ++ [b]) vs vl' W' := by
  refine ⟨?_, ?_⟩
  · rw [List.length_append, List.map_append]
    exact hg.row hs (rows_far hl hs (by decide))
  · rw [List.length_append, List.map_append]
    exact hl'
theorem OneB.start {v : Int} (h : Row tp r xs T [v]) (hb : T ≤ 1000) : OneB tp r T v false (popDn ⟨0, 0, 0, 0, false, false⟩) xs := by
  refine ⟨h.fit, ⟨h.t0, hb⟩, h.top, ?_, ?_⟩
  · have := h.bot
    simpa [popDn] using this
  · have := h.cell 0 (by simp)
    simpa using this
/-- What stands in the row. -/
theorem RowsC.list {P : Nat} (h : RowsC B pb bs vs vl W) (hP : bs.length + 1 = P) : ∃ lg cap, vl = .slice (some ⟨lg, 0, none⟩) P cap := by
  obtain ⟨lg, cap, rfl, -⟩ := h.elem
  exact ⟨lg, cap, by rw [hP]⟩
theorem RowsC.at {lg P cap i : Nat} (h : RowsC B pb bs vs (.slice (some ⟨lg, 0, none⟩) P cap) W) (hP : bs.length + 1 = P) (hi : i < P) : (i = 0 ∧ W.cell? ⟨lg, i, none⟩ = some (popIfc pb)) ∨ ∃ j b, i = j + 1 ∧ bs[j]? = some b ∧ W.cell? ⟨lg, i, none⟩ = some (stIfc b) := by
  obtain ⟨lg', cap', e, h0, h1⟩ := h.elem
  cases e
  cases i with
  | zero => exact .inl ⟨rfl, h0⟩
  | succ j =>
    have hj : bs[j]? = some (bs[j]'(by omega)) := List.getElem?_eq_getElem _
    exact .inr ⟨j, _, rfl, hj, h1 j _ hj⟩
theorem Crew.alone_at {lg P cap i : Nat} (hG : Geo l 0 tp r) (h : Crew w B lb bb g lv l tp r T pb bs m ss top xs W) (hR : RowsC B pb bs vs (.slice (some ⟨lg, 0, none⟩) P cap) W) (hP : bs.length + 1 = P) (hi : i < P) (hd : DnTo i m ss) :
    ∃ u, W.cell? ⟨lg, i, none⟩ = some u ∧ Calls Try.prog 20 #[u, .pointer (some ⟨bb, 0, none⟩)] W (CrewDone w B lb bb g lv l tp r T pb bs vs (.slice (some ⟨lg, 0, none⟩) P cap) (i + 1)) := by
  rcases hR.at hP hi with ⟨rfl, hc⟩ | ⟨j, b, rfl, hb, hc⟩
  · exact ⟨_, hc, h.alonePop hG hR⟩
  · exact ⟨_, hc, h.aloneSteal hG hR hb hd⟩
theorem RowsC.steals {M : Nat} (h : RowsC B pb bs vs vl W) (hM : bs.length = M) (h1 : 1 ≤ M) : ∃ sg cap, vs = .slice (some ⟨sg, 0, none⟩) M cap := by
  obtain ⟨sg, cap, rfl, -⟩ := h.s.form (by omega)
  exact ⟨sg, cap, by rw [hM]⟩
/-- The steal in a place of its row. -/
theorem Crew.steal_at {sg M cap k : Nat} (h : Crew w B lb bb g lv l tp r T pb bs m ss top xs W) (hR : RowsC B pb bs (.slice (some ⟨sg, 0, none⟩) M cap) vl W) (hM : bs.length = M) (hk : k < M) :
    ∃ s, ss[k]? = some s ∧ W.cell? ⟨sg, k, none⟩ = some (.pointer (some ⟨s.b, 0, none⟩)) ∧ PB W s.b 45 l 0 s.m [.bool s.lo] ∧ StI T 77 top s.m s.lo := by
  have hl := h.len
  have hk2 : k < ss.length := by omega
  have hs := List.getElem_mem hk2
  refine ⟨ss[k], List.getElem?_eq_getElem hk2, ?_, (h.st _ hs).1, h.si _ hs⟩
  have ho := hR.s
  rw [hM] at ho
  rw [ho.cellAt k (by omega), ← h.eb, List.map_map, List.getElem?_map, List.getElem?_eq_getElem hk2]
  rfl
theorem took_no {m : DM} (hd : m.done = true) (hg : m.got = false) : took m = (0, false) := by unfold took; simp [hd, hg]
theorem took_yes {m : DM} (hd : m.done = true) (hg : m.got = true) (hx : m.x = 77) : took m = (77, true) := by unfold took; simp [hd, hg, hx]
end
end Go.Proofs.Ytdgkemadhooogaa
