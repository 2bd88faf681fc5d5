/- The law SchedTells. -/
import Derived.Test.YtacacnjpfflbnaaRefNext
import Derived.Laws.AppendOwnNone
namespace Go.Proofs.Ytacacnjpfflbnaa
set_option linter.unusedVariables false
open Go.RowKit
attribute [local go_sem] cell?_ext

theorem Next_someN {w : World} {bd : Nat → Prop} {sb tb : Nat} {s : SS} (hS : Sc w bd sb tb s) (hbd : ∀ k, bd k → k < w.heap.size) (a : Option Addr) (c m : Nat) (dl : List Bool) (hm : dl.length = m) (hd : Rd w a (dl.map Value.bool))
    (hda : ∀ b off, a = some ⟨b, off, none⟩ → dl.map Value.bool ≠ [] → ¬ (b = sb ∨ b = tb)) (he : s.ended < 4611686018427387904) (v : Nat) (hv : s.who dl = some v) (t : SS) (ht : s.step dl = t) :
    Calls Try.prog 10 #[.pointer (some ⟨sb, 0, none⟩), .slice a m c] w fun e w' => e = .returned (.tuple #[.int .i64 (v : Int), .bool true]) ∧ Sc w' bd sb tb t ∧ Upd (fun k => k = sb ∨ k = tb) w w' := by subst hm; exact Next_some hS hbd a c dl hd hda he v hv t ht
theorem run_append_nilsrc {P : Program} (w : World) (base : Nat) (t ty e : TypeId) (i : TypeInfo) (size : Nat) (ht : P.underlying t = some (.slice e)) (hi : P.info? e = some i)
    (v : Value) (n : Nat) (xs : List Value) (hown : w.ownsRow base e size v n xs) (c : Nat) : (Builtin.append_ #[t, t] ty #[v, .slice none 0 c]).run P w = .ok v w := by
  rcases hown.2 with ⟨rfl, rfl⟩ | ⟨g, cap, cur, rfl, _, _, hnc, _⟩
  · simp [Builtin.append_, run_underlying ht, sizeOf, typeInfo, hi, Builtin.lenOf, Builtin.firstCells]
  · simp [Builtin.append_, run_underlying ht, sizeOf, typeInfo, hi, Builtin.lenOf, Builtin.firstCells, hnc, storeCells]
/-- append of a slice that reads as these cells (nil or not) to a row of the call's own. -/
theorem wpList_append_rd {P : Program} {w : World} {ops : Array Oper} {rest : List Oper} {o : Oper} {a : Act} {Q : Exit → Act → World → Prop} (hgd : o.guard = none) (s x : Operand) (t : TypeId)
    (ho : o.op = .call { callee := .builtin .append, args := #[s, x], argTypes := #[t, t] })
    (base : Nat) (e : TypeId) (i : TypeInfo) (z : Value) (bytes : Nat) (ht : P.underlying t = some (.slice e)) (hi : P.info? e = some i) (hz : i.zero = some z)
    (hsize : i.size = 1) (hby : i.bytes = bytes) (hzs : z.cells.size = 1)
    (v : Value) (n : Nat) (xs : List Value) (hs : a.eval s = v) (hown : w.ownsRow base e 1 v n xs)
    (A : Option Addr) (m c : Nat) (news : List Value) (hx : a.eval x = .slice A m c) (hr : Rd w A news) (hl : news.length = m) (h1 : ∀ u ∈ news, u.oneCell' = true)
    (h63 : n + m ≤ maxLen) (hbytes : (n + m) * bytes ≤ 140737488355328) (hbase : base ≤ w.heap.size)
    (h : ∀ v' w', w'.ownsRow base e 1 v' (n + m) (xs ++ news) → w.grownBy w' v.ownBlock → wpList P ops Q rest (a.put o.dst v') w') : wpList P ops Q (o :: rest) a w := by
  cases A with
  | none =>
    have hn : news = [] := by
      rcases hr with h0 | ⟨b, off, e, _⟩
      · exact h0
      · cases e
    subst hn
    have hm : m = 0 := by simpa using hl.symm
    subst hm
    refine wpList_plain hgd fun K hK => ?_
    have hrun := run_append_nilsrc (P := P) w base t o.type e i 1 ht hi v n xs hown c
    unfold Oper.wp
    simp [execOp, ho, resolve, invoke, builtin, hs, hx, hrun, Result.andThen]
    exact hK _ _ (h v w (by simpa using hown) (World.grownBy.refl w _))
  | some ad =>
    refine wpList_append_own w hgd s x t ho base e i z 1 bytes ht hi hz hsize hby hzs (by decide) v n xs hs hown ad m c news hx (by omega) ?_ h1 h63 hbytes hbase (fun v' w' h2 h3 _ => h v' w' h2 h3)
    intro j u hj
    rcases hr with h0 | ⟨b, off, e, hc⟩
    · rw [h0] at hj; simp at hj
    · cases e
      rw [Addr.add_lit]
      exact hc j u hj
theorem Rd.take {w : World} {a : Option Addr} {vs : List Value} (h : Rd w a vs) (k : Nat) : Rd w a (vs.take k) := by
  rcases h with h0 | ⟨b, off, e, hc⟩
  · exact .inl (by rw [h0]; simp)
  · refine .inr ⟨b, off, e, fun i u hu => ?_⟩
    rw [List.getElem?_take] at hu
    split at hu
    · exact hc i u hu
    · cases hu

/-- What the law's round holds. -/
theorem RefIn.kept {w w' : World} {s : SS} {last : Int} {pa : Option Addr} {pc : Nat} {ta : Option Addr} (h : RefIn w s last pa pc ta) (hk : Kept w w') : RefIn w' s last pa pc ta :=
  ⟨h.picks.kept hk, h.told.kept hk, h.le, h.most, h.n1, h.n2, h.lt, h.last, h.ended⟩
structure ST (w : World) (n sa ta mb : Nat) (D : Nat → Prop) (wr : World) (s0 s : SS) (last : Int) (pa : Option Addr) (pc tb tc : Nat) : Prop where
  sc : Sc wr D sa ta s0
  m : Blk wr mb #[.int .i64 (n : Int), .slice pa s.picks.length pc, .int .i64 last, .slice (some ⟨tb, 0, none⟩) n tc, .int .i64 (s.ended : Int)] 39
  rin : RefIn wr s last pa pc (some ⟨tb, 0, none⟩)
  len : s.told.length = n
  kp : Kept w wr
  f1 : ∀ x, pa = some x → x.block ≠ sa ∧ x.block ≠ ta ∧ x.block ≠ mb
  f2 : tb ≠ sa ∧ tb ≠ ta ∧ tb ≠ mb
theorem ST.kept {w : World} {n sa ta mb : Nat} {D : Nat → Prop} {wr w1 : World} {s0 s : SS} {last : Int} {pa : Option Addr} {pc tb tc : Nat} (h : ST w n sa ta mb D wr s0 s last pa pc tb tc) (hk : Kept wr w1) : ST w n sa ta mb D w1 s0 s last pa pc tb tc :=
  ⟨h.sc.kept hk, h.m.kept hk, h.rin.kept hk, h.len, h.kp.trans hk, h.f1, h.f2⟩
theorem ST.next {w : World} {n sa ta mb : Nat} {D : Nat → Prop} {wr w1 : World} {s0 s : SS} {last : Int} {pa : Option Addr} {pc tb tc : Nat} (h : ST w n sa ta mb D wr s0 s last pa pc tb tc) (hU : Upd (fun k => k = sa ∨ k = ta) wr w1) (hs : Sc w1 D sa ta s)
    (h1 : mb ≠ sa ∧ mb ≠ ta) (h2 : w.heap.size ≤ sa ∧ w.heap.size ≤ ta) : ST w n sa ta mb D w1 s s last pa pc tb tc :=
  ⟨hs, h.m.upd hU (fun e => by rcases e with e | e; exact h1.1 e; exact h1.2 e),
    ⟨h.rin.picks.upd hU (fun b off e _ f => by have := h.f1 _ e; rcases f with f | f; exact this.1 f; exact this.2.1 f), h.rin.told.upd hU (fun b off e _ f => by cases e; rcases f with f | f; exact h.f2.1 f; exact h.f2.2.1 f), h.rin.le, h.rin.most, h.rin.n1, h.rin.n2, h.rin.lt, h.rin.last, h.rin.ended⟩,
    h.len, h.kp.then hU (fun i hi e => by omega), h.f1, h.f2⟩
theorem tell_told_length (s : SS) (v : Nat) (dl : List Bool) : (s.tell v dl).told.length = s.told.length := by unfold SS.tell; split <;> simp
theorem tell_last (s : SS) (v : Nat) (dl : List Bool) : (s.tell v dl).last = v := by unfold SS.tell; split <;> rfl
theorem ST.put {w : World} {n sa ta mb : Nat} {D : Nat → Prop} {wr w1 : World} {s0 s s' : SS} {last last' : Int} {pa pa' : Option Addr} {pc tb tc pc' tb' tc' : Nat} (h : ST w n sa ta mb D wr s0 s last pa pc tb tc)
    (hU : Upd (fun k => k = mb) wr w1) (hm : Blk w1 mb #[.int .i64 (n : Int), .slice pa' s'.picks.length pc', .int .i64 last', .slice (some ⟨tb', 0, none⟩) n tc', .int .i64 (s'.ended : Int)] 39)
    (hr : RefIn wr s' last' pa' pc' (some ⟨tb', 0, none⟩)) (hl : s'.told.length = n) (g1 : ∀ x, pa' = some x → x.block ≠ sa ∧ x.block ≠ ta ∧ x.block ≠ mb) (g2 : tb' ≠ sa ∧ tb' ≠ ta ∧ tb' ≠ mb)
    (h1 : mb ≠ sa ∧ mb ≠ ta) (hD : ∀ k, D k → k ≠ mb) (h2 : w.heap.size ≤ mb) : ST w n sa ta mb D w1 s0 s' last' pa' pc' tb' tc' :=
  ⟨h.sc.upd hU (fun e => h1.1 e.symm) (fun e => h1.2 e.symm) (fun k hk e => hD k hk e), hm,
    ⟨hr.picks.upd hU (fun b off e _ f => (g1 _ e).2.2 f), hr.told.upd hU (fun b off e _ f => by cases e; exact g2.2.2 f), hr.le, hr.most, hr.n1, hr.n2, hr.lt, hr.last, hr.ended⟩,
    hl, h.kp.then hU (fun i hi e => by omega), g1, g2⟩

set_option maxRecDepth 100000 in
set_option maxHeartbeats 2000000 in
theorem schedTells_bad (a0 : Int) (s1 : Option Addr) (cap1 : Nat) (z1 : List Int) (s2 : Option Addr) (cap2 : Nat) (z2 : List Int) (w : World) (hb : a0 < 1 ∨ 64 < a0) (w1 : IntRow .i64 w s1 cap1 z1) :
    Calls Try.prog 5 #[.int .i64 a0, .slice s1 z1.length cap1, .slice s2 z2.length cap2] w fun e w' => e = .returned (.bool true) ∧ Kept w w' := by
  obtain ⟨K, hK⟩ : ∃ K, K = min z1.length 200 := ⟨_, rfl⟩
  have hK1 : K ≤ z1.length := by omega
  have hK2 : K ≤ 200 := by omega
  have hle := w1.le
  have hmost := w1.most
  have hsl := fun w => run_take (P := Try.prog) Try.underlying22 (size := 1) (by kernel_rfl) s1 z1.length cap1 K (by omega) w
  have hif1 : (if (200 : Int) < (z1.length : Int) then (200 : Int) else (z1.length : Int)) = (K : Int) := by split <;> omega
  have hif2 : (if 200 < z1.length then (200 : Int) else (z1.length : Int)) = (K : Int) := by split <;> omega
  have hbad := fun w => Lib.hid (New_bad a0 s1 cap1 K w hb)
  unfold maxLen at hmost
  clear hK w1
  rcases hb with hb | hb
  · go_enter Try.func5, Try.ntmps5
    go_wp2_with fail
    refine (hbad _).out.mono ?_
    rintro e w' ⟨rfl, rfl⟩
    go_wp2_with fail
    refine (awake_any _).mono ?_
    rintro e w5 ⟨rfl, hk5⟩
    go_wp2
    go_ret
    exact ⟨rfl, hk5⟩
  · have hb2 : ¬ a0 < 1 := by omega
    go_enter Try.func5, Try.ntmps5
    go_wp2_with fail
    refine (hbad _).out.mono ?_
    rintro e w' ⟨rfl, rfl⟩
    go_wp2_with fail
    refine (awake_any _).mono ?_
    rintro e w5 ⟨rfl, hk5⟩
    go_wp2
    go_ret
    exact ⟨rfl, hk5⟩

set_option maxRecDepth 100000 in
set_option maxHeartbeats 4000000 in
theorem schedTells_ok (N : Nat) (s1 : Option Addr) (cap1 : Nat) (z1 : List Int) (s2 : Option Addr) (cap2 : Nat) (z2 : List Int) (w : World) (hN1 : 1 ≤ N) (hN2 : N ≤ 64) (w1 : IntRow .i64 w s1 cap1 z1) (w2 : IntRow .u64 w s2 cap2 z2) (m2 : ∀ n ∈ z2, (Lit.int .u64 n).wf = true) :
    Calls Try.prog 5 #[.int .i64 (N : Int), .slice s1 z1.length cap1, .slice s2 z2.length cap2] w fun e w' => e = .returned (.bool true) ∧ Kept w w' := by
  obtain ⟨i0, hi, hz0, hz1, hz2⟩ := info_parts infoInt
  obtain ⟨K, hK⟩ : ∃ K, K = min z1.length 200 := ⟨_, rfl⟩
  have hK1 : K ≤ z1.length := by omega
  have hK2 : K ≤ 200 := by omega
  obtain ⟨M, hM⟩ : ∃ M, M = min z2.length 300 := ⟨_, rfl⟩
  have hM1 : M ≤ z2.length := by omega
  have hM2 : M ≤ 300 := by omega
  have hle := w1.le
  have hmost := w1.most
  have hle2 := w2.le
  have hmost2 := w2.most
  have hsl := fun w => run_take (P := Try.prog) Try.underlying22 (size := 1) (by kernel_rfl) s1 z1.length cap1 K (by omega) w
  have hif1 : (if (200 : Int) < (z1.length : Int) then (200 : Int) else (z1.length : Int)) = (K : Int) := by split <;> omega
  have hif2 : (if 200 < z1.length then (200 : Int) else (z1.length : Int)) = (K : Int) := by split <;> omega
  have hsl2 := fun w => run_take (P := Try.prog) Try.underlying37 (size := 1) (by kernel_rfl) s2 z2.length cap2 M (by omega) w
  have hif3 : (if (300 : Int) < (z2.length : Int) then (300 : Int) else (z2.length : Int)) = (M : Int) := by split <;> omega
  have hif4 : (if 300 < z2.length then (300 : Int) else (z2.length : Int)) = (M : Int) := by split <;> omega
  unfold maxLen at hmost hmost2
  obtain ⟨P, hP⟩ : ∃ P, z1.take K = P := ⟨_, rfl⟩
  have hPl : P.length = K := by rw [← hP]; simp; omega
  have HR1 := Lib.hid w1.rd
  have hrp := w1.rd.take K
  rw [← List.map_take, hP] at hrp
  have HRP := Lib.hid hrp
  have HPL := Lib.hid hPl
  have HR2 := Lib.hid w2.rd
  have HB2 : Hid (∀ i, i < z2.length → 0 ≤ z2.getD i 0 ∧ z2.getD i 0 ≤ 18446744073709551615) := Lib.hid fun i hi => by
    have := bounds_u64 (m2 (z2.getD i 0) (by simp [hi]))
    omega
  have hg1 : ¬ (N : Int) < 1 := by omega
  have hg2 : ¬ (64 : Int) < (N : Int) := by omega
  clear hK hM w1 w2 m2 hrp hP hPl
  go_enter Try.func5, Try.ntmps5
  go_wp2_with fail
  refine (New_okN N s1 cap1 K P _ HPL.out hN1 hN2 HRP.out (by omega)).mono ?_
  rintro e w2 ⟨sa, ta, rfl, hS, ha, hta, hk2⟩
  have HA2 := Lib.hid hS
  have HK2 := Lib.hid hk2
  have hs2 := hk2.size
  have l1 := HA2.out.lt
  clear hS hk2
  go_wp2_with (at_builtin; refine wpList_append_rd rfl _ _ 22 rfl w2.heap.size 3 i0 (.int .i64 0) 8 Try.underlying22 hi hz0 hz1 hz2 rfl _ _ _ rfl (World.ownsRow_made w2 #[] 0 (Nat.le_refl _) (Nat.zero_le _) rfl) s1 K cap1 (P.map (Value.int .i64)) rfl (HRP.out.kept (HK2.out.alloc _)) ?c1 ?c2 ?c3 ?c4 ?c5 ?_)
  case c1 => simpa using HPL.out
  case c2 => intro u hu; obtain ⟨x, _, rfl⟩ := List.mem_map.1 hu; rfl
  case c3 => unfold maxLen; omega
  case c4 => omega
  case c5 => simp
  intro v' w3 hown hgrow
  obtain ⟨g, cg, rfl, hsl3⟩ := Sl.owns hown
  have hk3 : Kept w2 w3 := ((Upd.refl (fun _ => False) w2).alloc _).grown hgrow (fun k hk => .inr (by simp [Value.ownBlock] at hk; omega))
  have HA3 := Lib.hid (HA2.out.kept hk3)
  have HK3 := Lib.hid (HK2.out.trans hk3)
  have HG3 := Lib.hid hsl3
  have hs3 := hk3.size
  have HGb : Hid (∀ x, g = some x → w2.heap.size ≤ x.block ∧ x.block < w3.heap.size) := Lib.hid hsl3.base
  clear hown hgrow hsl3 hk3 HA2 HK2
  go_wp2_with fail
  refine (refNew_any N g K cg _ (by omega)).mono ?_
  rintro e w4 ⟨b4, rfl, hb4, hbl, hk4⟩
  have HA4 := Lib.hid (HA3.out.kept hk4)
  have HK4 := Lib.hid (HK3.out.trans hk4)
  have HG4 := Lib.hid (HG3.out.kept hk4)
  have HT4 := Lib.hid hb4
  have hs4 := hk4.size
  have lt4 := hb4.lt
  clear hb4 hk4 HA3 HK3 HG3
  go_wp2_with fail
  go_loopw [57] (fun i wr => ∃ (k : Nat) (s : SS) (last : Int) (pa : Option Addr) (pc tb tc : Nat), i = .int .i64 k ∧ k ≤ M ∧ Hid (ST w N sa ta w4.heap.size (fun k => w.heap.size ≤ k ∧ k < w2.heap.size) wr s s last pa pc tb tc) ∧ Hid (s.ended ≤ k) ∧ Hid (w4.heap.size < wr.heap.size)) (fun i _ => M - (intOf i).toNat)
  case atStart =>
    refine ⟨0, ⟨P, N - 1, List.replicate N false, 0⟩, -1, g, cg, b4, N, rfl, by omega, Lib.hid ⟨?_, ?_, ?_, ?_, ?_, ?_, ?_⟩, Lib.hid (Nat.le_refl _), Lib.hid (by simp)⟩
    · exact HA4.out.kept ((Upd.refl _ _).alloc _)
    · have := Blk.new w4 #[.int .i64 (N : Int), .slice g K cg, .int .i64 (-1), .slice (some ⟨b4, 0, none⟩) N N, .int .i64 0] 39
      simpa [HPL.out] using this
    · refine ⟨HG4.out.rd.kept ((Upd.refl _ _).alloc _), (Rd.blk HT4.out).kept ((Upd.refl _ _).alloc _), by have := HG4.out.le; simpa using this, HG4.out.most, by rw [List.length_replicate]; omega, by rw [List.length_replicate]; omega, by simp only [List.length_replicate]; omega, .inr ⟨rfl, by simp⟩, by simp⟩
    · simp
    · exact HK4.out.alloc _
    · intro x e; have := HGb.out x e; omega
    · omega
  case round =>
    obtain ⟨k, s, last, pa, pc, tb, tc, rfl, hk, S0, HE, HZ⟩ := hrel
    clear HA4 HK4 HG4 HT4
    by_cases hlt : k < M
    · obtain ⟨b, off, rfl, hc1⟩ := HR2.out.at k (by simp; omega)
      have hx0 := HB2.out k (by omega)
      have c1 : wr.cell? ⟨b, off + k, none⟩ = some (.int .u64 (z2.getD k 0)) := (keptCells S0.out.kp _ (by rw [hc1]; simp; omega)).trans (by rw [hc1]; simp [show k < z2.length by omega])
      obtain ⟨x, hx⟩ : ∃ x, z2.getD k 0 = x := ⟨_, rfl⟩
      rw [hx] at c1 hx0
      obtain ⟨L, hL⟩ := Int.eq_ofNat_of_zero_le (show 0 ≤ x % 70 by omega)
      have hL1 : L < 70 := by omega
      have hmk := fun w => make_one (P := Try.prog) (t := 28) (e := 4) (z := .bool false) (v := .bool false) (bytes := 1) Try.underlying28 (by kernel_rfl) rfl .u64 L (by omega) (by omega) w
      obtain ⟨x1, x2⟩ := hx0
      clear hx hc1
      obtain ⟨wo, rfl⟩ : ∃ wo : World, wo = wr := ⟨_, rfl⟩
      have ho4 := HZ.out
      have hok := S0.out.kp.size
      go_wp2_with fail
      go_loopw [66] (fun i wr => ∃ (j : Nat) (bl : List Bool), i = .int .i64 j ∧ j ≤ L ∧ Hid (bl.length = L) ∧ Hid (Blk wr wo.heap.size (bl.map Value.bool).toArray 4) ∧ Hid (Kept wo wr)) (fun i _ => L - (intOf i).toNat)
      case atStart =>
        refine ⟨0, List.replicate L false, rfl, by omega, Lib.hid (by simp), Lib.hid ?_, Lib.hid ((Upd.refl _ _).alloc _)⟩
        rw [← zeros_bools]; exact Blk.new _ _ _
      case round =>
        obtain ⟨j, bl, rfl, hj, HBl, HF, HK⟩ := hrel
        by_cases hlt2 : j < L
        · have hfc := HF.out.cell j
          have q1 : wr.cell? ⟨wo.heap.size, j, none⟩ = some (.bool (bl.getD j false)) := hfc.trans (by have := HBl.out; simp [show j < bl.length by omega])
          have f1 := HF.out.free j
          clear hfc
          have HF2 : ∀ z : Bool, Hid (Blk (wr.setCell ⟨wo.heap.size, j, none⟩ (.bool z)) wo.heap.size ((bl.set j z).map Value.bool).toArray 4) := fun z => by
            apply Lib.hid
            have := HF.out.set j (.bool z)
            rw [List.map_set]; simpa using this
          have HK2 : ∀ z : Bool, Hid (Kept wo (wr.setCell ⟨wo.heap.size, j, none⟩ (.bool z))) := fun z => Lib.hid (HK.out.setCell (p := ⟨wo.heap.size, j, none⟩) (.inr (Nat.le_refl _)) _)
          go_wp2_with fail
          go_roundw
          case rel => exact ⟨j + 1, bl.set j _, by go_num, by omega, Lib.hid (by rw [List.length_set]; exact HBl.out), HF2 _, HK2 _⟩
          case measure => simp [intOf]; omega
        · obtain rfl : j = L := by omega
          have S1 := Lib.hid (S0.out.kept HK.out)
          have hwo := HK.out.size
          have hlb := HF.out.lt
          have cm := S1.out.m.cell
          have hl1 := S1.out.len
          have HR := Lib.hid (refNext_any tc S1.out.rin (some ⟨wo.heap.size, 0, none⟩) j bl (Rd.blk HF.out))
          rw [hl1, HBl.out] at HR
          have HScl := Lib.hid S1.out.sc.lt
          obtain ⟨l3, l4⟩ := HScl.out
          have HE2 := HE.out
          clear S0 HK
          cases hwho : s.who bl with
          | none =>
            have HR2 : Hid (Calls Try.prog 13 #[.agg #[.int .i64 (N : Int), .slice pa s.picks.length pc, .int .i64 last, .slice (some ⟨tb, 0, none⟩) N tc, .int .i64 (s.ended : Int)], .slice (some ⟨wo.heap.size, 0, none⟩) j j] wr fun e w' => e = .returned (.tuple #[.agg #[.int .i64 (N : Int), .slice pa s.picks.length pc, .int .i64 last, .slice (some ⟨tb, 0, none⟩) N tc, .int .i64 (s.ended : Int)], .int .i64 (-1)]) ∧ Kept wr w') :=
              Lib.hid (HR.out.mono fun e w' h => by unfold RefNextIs at h; rw [hwho] at h; rw [hl1] at h; exact h)
            have HW := Lib.hid hwho
            clear HR hwho hl1
            go_wp2_with fail
            refine HR2.out.mono ?_
            rintro e w5 ⟨rfl, hk5⟩
            have S5 := Lib.hid (S1.out.kept hk5)
            have F5 := Lib.hid (HF.out.kept hk5)
            have hs5 := hk5.size
            have hrin5 := S5.out.rin
            have HRin := Lib.hid hrin5
            clear hk5 cm S1 HF HR2 hrin5
            go_upto_region 18 with (fail)
            have S6 := Lib.hid (S5.out.kept ((Upd.refl (fun _ => False) w5).alloc (.cells #[.int .i64 (N : Int), .slice pa s.picks.length pc, .int .i64 last, .slice (some ⟨tb, 0, none⟩) N tc, .int .i64 (s.ended : Int)] 39)))
            have F6 := Lib.hid (F5.out.alloc (.cells #[.int .i64 (N : Int), .slice pa s.picks.length pc, .int .i64 last, .slice (some ⟨tb, 0, none⟩) N tc, .int .i64 (s.ended : Int)] 39))
            have R6 := Lib.hid (HRin.out.kept ((Upd.refl (fun _ => False) w5).alloc (.cells #[.int .i64 (N : Int), .slice pa s.picks.length pc, .int .i64 last, .slice (some ⟨tb, 0, none⟩) N tc, .int .i64 (s.ended : Int)] 39)))
            have N6 := Lib.hid (Blk.new w5 #[.int .i64 (N : Int), .slice pa s.picks.length pc, .int .i64 last, .slice (some ⟨tb, 0, none⟩) N tc, .int .i64 (s.ended : Int)] 39)
            have hs6 : w5.heap.size < (w5.alloc (.cells #[.int .i64 (N : Int), .slice pa s.picks.length pc, .int .i64 last, .slice (some ⟨tb, 0, none⟩) N tc, .int .i64 (s.ended : Int)] 39)).heap.size := by simp
            generalize w5.alloc (.cells #[.int .i64 (N : Int), .slice pa s.picks.length pc, .int .i64 last, .slice (some ⟨tb, 0, none⟩) N tc, .int .i64 (s.ended : Int)] 39) = w6 at S6 F6 N6 R6 hs6 ⊢
            have cm := S6.out.m.cell
            have fm := S6.out.m.free
            have cn := N6.out.cell
            clear S5 F5 HRin
            go_wp2_with fail
            have hU := upd5 w6 w4.heap.size (.int .i64 (N : Int)) (.slice pa s.picks.length pc) (.int .i64 last) (.slice (some ⟨tb, 0, none⟩) N tc) (.int .i64 (s.ended : Int))
            have hM := S6.out.m.set5 (.int .i64 (N : Int)) (.slice pa s.picks.length pc) (.int .i64 last) (.slice (some ⟨tb, 0, none⟩) N tc) (.int .i64 (s.ended : Int))
            have S7 : Hid (ST w N sa ta w4.heap.size (fun k => w.heap.size ≤ k ∧ k < w2.heap.size) (((((w6.setCell ⟨w4.heap.size, 0, none⟩ (.int .i64 (N : Int))).setCell ⟨w4.heap.size, 1, none⟩ (.slice pa s.picks.length pc)).setCell ⟨w4.heap.size, 2, none⟩ (.int .i64 last)).setCell ⟨w4.heap.size, 3, none⟩ (.slice (some ⟨tb, 0, none⟩) N tc)).setCell ⟨w4.heap.size, 4, none⟩ (.int .i64 (s.ended : Int))) s s last pa pc tb tc) := Lib.hid (S6.out.put hU hM R6.out S6.out.len S6.out.f1 S6.out.f2 ⟨by omega, by omega⟩ (fun k hk e => by omega) (by omega))
            have F7 := Lib.hid (F6.out.upd hU (fun e => by omega))
            have hs7 := hU.size
            clear cm fm cn hU hM S6 F6 R6 N6
            generalize (((((w6.setCell ⟨w4.heap.size, 0, none⟩ (.int .i64 (N : Int))).setCell ⟨w4.heap.size, 1, none⟩ (.slice pa s.picks.length pc)).setCell ⟨w4.heap.size, 2, none⟩ (.int .i64 last)).setCell ⟨w4.heap.size, 3, none⟩ (.slice (some ⟨tb, 0, none⟩) N tc)).setCell ⟨w4.heap.size, 4, none⟩ (.int .i64 (s.ended : Int))) = w7 at S7 F7 hs7 ⊢
            refine (Next_noneN S7.out.sc (fun z hz => by omega) (some ⟨wo.heap.size, 0, none⟩) j j bl HBl.out (Rd.blk F7.out) (fun b off e _ f => by cases e; omega) (by omega) HW.out).mono ?_
            rintro e w8 ⟨rfl, hk8⟩
            have S8 := Lib.hid (S7.out.kept hk8)
            have hs8 := hk8.size
            have HEN : Hid (s.ended ≤ k + 1) := Lib.hid (by omega)
            clear hk8
            have cm1 : w8.cell? ⟨w4.heap.size, 1, none⟩ = some (.slice pa s.picks.length pc) := by rw [S8.out.m.cell]; rfl
            have cm4 : w8.cell? ⟨w4.heap.size, 4, none⟩ = some (.int .i64 (s.ended : Int)) := by rw [S8.out.m.cell]; rfl
            have HLf := fun u => Lib.hid (Left_sc (S8.out.sc.kept (kept_ext w8 u)) _ rfl)
            have HRo := fun u => Lib.hid (Rounds_sc (S8.out.sc.kept (kept_ext w8 u)) _ rfl)
            clear S7 F7
            go_wp2_with fail
            refine wp_region_kept (by kernel_rfl) (by kernel_rfl) ?_
            repeat (go_big_quiet_step ((first | (go_at_call 9; exact same_call (HLf _).out) | (go_at_call 14; exact same_call (HRo _).out))))
            refine wpQuiet_nil ?_
            intro w9 hk9
            have S9 := Lib.hid (S8.out.kept hk9)
            have hs9 := hk9.size
            clear HLf HRo hk9 S8 cm1 cm4
            go_wp2_with fail
            go_roundw
            case rel => exact ⟨k + 1, s, last, pa, pc, tb, tc, by go_num, by omega, S9, HEN, Lib.hid (by omega)⟩
            case measure => simp [intOf]; omega
          | some v =>
            have hvl : v < N := by have := whoAt_lt S1.out.rin.n1 _ hwho; omega
            obtain ⟨s', hs'⟩ : ∃ s', s.tell v bl = s' := ⟨_, rfl⟩
            have hs1l : s'.told.length = N := by rw [← hs', tell_told_length]; exact hl1
            have hs1e : s'.ended ≤ k + 1 := by have := SS.tell_ended s v bl; rw [hs'] at this; omega
            have hs1v : s'.last = v := by rw [← hs']; exact tell_last _ _ _
            have hst : s.step bl = s' := by unfold SS.step; rw [hwho]; exact hs'
            have HR2 : Hid (Calls Try.prog 13 #[.agg #[.int .i64 (N : Int), .slice pa s.picks.length pc, .int .i64 last, .slice (some ⟨tb, 0, none⟩) N tc, .int .i64 (s.ended : Int)], .slice (some ⟨wo.heap.size, 0, none⟩) j j] wr fun e w' => ∃ pa' pc' tb' tc', e = .returned (.tuple #[.agg #[.int .i64 (N : Int), .slice pa' s'.picks.length pc', .int .i64 (v : Int), .slice (some ⟨tb', 0, none⟩) N tc', .int .i64 (s'.ended : Int)], .int .i64 (v : Int)]) ∧ (∀ x, pa' = some x → ∃ y, pa = some y ∧ y.block = x.block) ∧ wr.heap.size ≤ tb' ∧ RefIn w' s' (v : Int) pa' pc' (some ⟨tb', 0, none⟩) ∧ Kept wr w') := by
              refine Lib.hid (HR.out.mono fun e w' h => ?_)
              unfold RefNextIs at h
              rw [hwho] at h
              simp only [hs', hl1] at h
              obtain ⟨pa', pc', tb', tc', h1, h2, h3, h4, h5, h6, h7, h8⟩ := h
              exact ⟨pa', pc', tb', tc', h1, h6, h7, ⟨h2, h3, h4, h5, by omega, by omega, by omega, .inl (by rw [hs1v]), by omega⟩, h8⟩
            have HW := Lib.hid hwho
            have HSt := Lib.hid hst
            have HEN : Hid (s'.ended ≤ k + 1) := Lib.hid hs1e
            have HSl := Lib.hid hs1l
            clear HR hwho hl1 hs' hs1v hst hs1l
            go_wp2_with fail
            refine HR2.out.mono ?_
            rintro e w5 ⟨pa', pc', tb', tc', rfl, hpp, htb, hri, hk5⟩
            have S5 := Lib.hid (S1.out.kept hk5)
            have F5 := Lib.hid (HF.out.kept hk5)
            have HPP : Hid (∀ x, pa' = some x → x.block ≠ sa ∧ x.block ≠ ta ∧ x.block ≠ w4.heap.size) := Lib.hid fun x e => by
              obtain ⟨y, e1, e2⟩ := hpp x e
              rw [← e2]; exact S5.out.f1 y e1
            clear hpp
            have hs5 := hk5.size
            have hrin5 := hri
            have HRin := Lib.hid hrin5
            clear hk5 cm S1 HF HR2 hrin5 hri
            go_upto_region 18 with (fail)
            have S6 := Lib.hid (S5.out.kept ((Upd.refl (fun _ => False) w5).alloc (.cells #[.int .i64 (N : Int), .slice pa' s'.picks.length pc', .int .i64 (v : Int), .slice (some ⟨tb', 0, none⟩) N tc', .int .i64 (s'.ended : Int)] 39)))
            have F6 := Lib.hid (F5.out.alloc (.cells #[.int .i64 (N : Int), .slice pa' s'.picks.length pc', .int .i64 (v : Int), .slice (some ⟨tb', 0, none⟩) N tc', .int .i64 (s'.ended : Int)] 39))
            have R6 := Lib.hid (HRin.out.kept ((Upd.refl (fun _ => False) w5).alloc (.cells #[.int .i64 (N : Int), .slice pa' s'.picks.length pc', .int .i64 (v : Int), .slice (some ⟨tb', 0, none⟩) N tc', .int .i64 (s'.ended : Int)] 39)))
            have N6 := Lib.hid (Blk.new w5 #[.int .i64 (N : Int), .slice pa' s'.picks.length pc', .int .i64 (v : Int), .slice (some ⟨tb', 0, none⟩) N tc', .int .i64 (s'.ended : Int)] 39)
            have hs6 : w5.heap.size < (w5.alloc (.cells #[.int .i64 (N : Int), .slice pa' s'.picks.length pc', .int .i64 (v : Int), .slice (some ⟨tb', 0, none⟩) N tc', .int .i64 (s'.ended : Int)] 39)).heap.size := by simp
            generalize w5.alloc (.cells #[.int .i64 (N : Int), .slice pa' s'.picks.length pc', .int .i64 (v : Int), .slice (some ⟨tb', 0, none⟩) N tc', .int .i64 (s'.ended : Int)] 39) = w6 at S6 F6 N6 R6 hs6 ⊢
            have cm := S6.out.m.cell
            have fm := S6.out.m.free
            have cn := N6.out.cell
            clear S5 F5 HRin
            go_wp2_with fail
            have hU := upd5 w6 w4.heap.size (.int .i64 (N : Int)) (.slice pa' s'.picks.length pc') (.int .i64 (v : Int)) (.slice (some ⟨tb', 0, none⟩) N tc') (.int .i64 (s'.ended : Int))
            have hM := S6.out.m.set5 (.int .i64 (N : Int)) (.slice pa' s'.picks.length pc') (.int .i64 (v : Int)) (.slice (some ⟨tb', 0, none⟩) N tc') (.int .i64 (s'.ended : Int))
            have S7 : Hid (ST w N sa ta w4.heap.size (fun k => w.heap.size ≤ k ∧ k < w2.heap.size) (((((w6.setCell ⟨w4.heap.size, 0, none⟩ (.int .i64 (N : Int))).setCell ⟨w4.heap.size, 1, none⟩ (.slice pa' s'.picks.length pc')).setCell ⟨w4.heap.size, 2, none⟩ (.int .i64 (v : Int))).setCell ⟨w4.heap.size, 3, none⟩ (.slice (some ⟨tb', 0, none⟩) N tc')).setCell ⟨w4.heap.size, 4, none⟩ (.int .i64 (s'.ended : Int))) s s' v pa' pc' tb' tc') := Lib.hid (S6.out.put hU hM R6.out HSl.out HPP.out ⟨by omega, by omega, by omega⟩ ⟨by omega, by omega⟩ (fun k hk e => by omega) (by omega))
            have F7 := Lib.hid (F6.out.upd hU (fun e => by omega))
            have hs7 := hU.size
            clear cm fm cn hU hM S6 F6 R6 N6
            generalize (((((w6.setCell ⟨w4.heap.size, 0, none⟩ (.int .i64 (N : Int))).setCell ⟨w4.heap.size, 1, none⟩ (.slice pa' s'.picks.length pc')).setCell ⟨w4.heap.size, 2, none⟩ (.int .i64 (v : Int))).setCell ⟨w4.heap.size, 3, none⟩ (.slice (some ⟨tb', 0, none⟩) N tc')).setCell ⟨w4.heap.size, 4, none⟩ (.int .i64 (s'.ended : Int))) = w7 at S7 F7 hs7 ⊢
            refine (Next_someN S7.out.sc (fun z hz => by omega) (some ⟨wo.heap.size, 0, none⟩) j j bl HBl.out (Rd.blk F7.out) (fun b off e _ f => by cases e; omega) (by omega) v HW.out s' HSt.out).mono ?_
            rintro e w8 ⟨rfl, hsc, hU8⟩
            have S8 := Lib.hid (S7.out.next hU8 hsc ⟨by omega, by omega⟩ ⟨by omega, by omega⟩)
            have hs8 := hU8.size
            clear hU8 hsc
            have cm1 : w8.cell? ⟨w4.heap.size, 1, none⟩ = some (.slice pa' s'.picks.length pc') := by rw [S8.out.m.cell]; rfl
            have cm4 : w8.cell? ⟨w4.heap.size, 4, none⟩ = some (.int .i64 (s'.ended : Int)) := by rw [S8.out.m.cell]; rfl
            have HLf := fun u => Lib.hid (Left_sc (S8.out.sc.kept (kept_ext w8 u)) _ rfl)
            have HRo := fun u => Lib.hid (Rounds_sc (S8.out.sc.kept (kept_ext w8 u)) _ rfl)
            clear S7 F7
            go_wp2_with fail
            refine wp_region_kept (by kernel_rfl) (by kernel_rfl) ?_
            repeat (go_big_quiet_step ((first | (go_at_call 9; exact same_call (HLf _).out) | (go_at_call 14; exact same_call (HRo _).out))))
            refine wpQuiet_nil ?_
            intro w9 hk9
            have S9 := Lib.hid (S8.out.kept hk9)
            have hs9 := hk9.size
            clear HLf HRo hk9 S8 cm1 cm4
            go_wp2_with fail
            go_roundw
            case rel => exact ⟨k + 1, s', v, pa', pc', tb', tc', by go_num, by omega, S9, HEN, Lib.hid (by omega)⟩
            case measure => simp [intOf]; omega
    · go_wp2_with fail
      refine (awake_any _).mono ?_
      rintro e w5 ⟨rfl, hk5⟩
      go_wp2
      go_ret
      exact ⟨rfl, S0.out.kp.trans hk5⟩

theorem schedTells_walk (a0 : Int) (s1 : Option Addr) (cap1 : Nat) (z1 : List Int) (s2 : Option Addr) (cap2 : Nat) (z2 : List Int) (w : World) (w0 : (Lit.int .i64 a0).wf = true) (w1 : IntRow .i64 w s1 cap1 z1) (_m1 : ∀ n ∈ z1, (Lit.int .i64 n).wf = true) (w2 : IntRow .u64 w s2 cap2 z2) (m2 : ∀ n ∈ z2, (Lit.int .u64 n).wf = true) :
    Calls Try.prog 5 #[.int .i64 a0, .slice s1 z1.length cap1, .slice s2 z2.length cap2] w fun e w' => e = .returned (.bool true) ∧ Kept w w' := by
  by_cases hb : a0 < 1 ∨ 64 < a0
  · exact schedTells_bad a0 s1 cap1 z1 s2 cap2 z2 w hb w1
  · obtain ⟨N, hN⟩ := Int.eq_ofNat_of_zero_le (show 0 ≤ a0 by omega)
    subst hN
    exact schedTells_ok N s1 cap1 z1 s2 cap2 z2 w (by omega) (by omega) w1 w2 m2
end Go.Proofs.Ytacacnjpfflbnaa
