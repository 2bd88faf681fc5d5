/- Package sched: tell. -/
import Derived.Test.YtacacnjpfflbnaaSched
import Derived.Lib.SliceRun
import Derived.Deep.CutRange
namespace Go.Proofs.Ytacacnjpfflbnaa
set_option linter.unusedVariables false
open Go.RowKit

/-- x[m:]. -/
theorem run_low {P : Program} {t e : TypeId} {size : Nat} (ht : P.underlying t = some (.slice e)) (hs : (P.info? e).map (fun i => i.size) = some size) (a : Option Addr) (len cap m : Nat) (hm : m ≤ len) (w : World) :
    (Instr.slice t (.slice a len cap) (some (.int .i64 m)) none none).run P w = .ok (.slice (if cap = m then a else a.map (·.add (m * size))) (len - m) (cap - m)) w := by
  obtain ⟨i, hi, hsz⟩ := Option.map_eq_some_iff.1 hs
  simp [Instr.slice, run_underlying ht, Instr.sliceBounds, Instr.sliceBound, asIntOf, sizeOf, typeInfo, hi, Result.andThen, hm, hsz]
theorem Blk.setCells {b : Nat} {T : TypeId} : ∀ (vs : List Value) (pre old : List Value) (w : World), Blk w b (pre ++ old).toArray T → old.length = vs.length → Blk (w.setCells b pre.length vs) b (pre ++ vs).toArray T
  | [], pre, old, w, h, hl => by
    have : old = [] := List.eq_nil_of_length_eq_zero (by simpa using hl)
    subst this
    exact h
  | v :: vs, pre, [], w, h, hl => by simp at hl
  | v :: vs, pre, u :: old, w, h, hl => by
    have h1 := h.set pre.length v
    have e1 : ((pre ++ u :: old).toArray.setIfInBounds pre.length v) = ((pre ++ [v]) ++ old).toArray := by simp
    rw [e1] at h1
    have h2 := Blk.setCells vs (pre ++ [v]) old _ h1 (by simpa using hl)
    simpa [World.setCells] using h2
theorem Upd.setCells {S : Nat → Prop} {a : World} {b : Nat} (hb : S b ∨ a.heap.size ≤ b) : ∀ (vs : List Value) (o : Nat) (w : World), Upd S a w → Upd S a (w.setCells b o vs)
  | [], _, _, h => h
  | v :: vs, o, w, h => by
    simp only [World.setCells]
    exact Upd.setCells hb vs (o + 1) _ (h.setCell (p := ⟨b, o, none⟩) hb v)

/-- Were all told, or are done? -/
def allT (t dl : List Bool) : Bool := (List.range t.length).all fun i => t.getD i false || dl.getD i false
theorem allT_no {t dl : List Bool} {k : Nat} (hk : k < t.length) (h1 : t.getD k false = false) (h2 : dl.getD k false = false) : allT t dl = false := by
  apply Bool.eq_false_iff.2
  intro h
  have := List.all_eq_true.1 h k (List.mem_range.2 hk)
  rw [h1, h2] at this
  cases this
theorem allT_yes {t dl : List Bool} (h : ∀ i, i < t.length → t.getD i false = true ∨ dl.getD i false = true) : allT t dl = true := by
  apply List.all_eq_true.2
  intro i hi
  have := h i (List.mem_range.1 hi)
  simpa using this
/-- The script behind a worker's step. -/
def SS.tell (s : SS) (v : Nat) (dl : List Bool) : SS :=
  if allT (s.told.set v true) dl then ⟨s.picks.tail, v, List.replicate s.told.length false, s.ended + 1⟩ else ⟨s.picks.tail, v, s.told.set v true, s.ended⟩

theorem Sch.tail {w : World} {sb tb : Nat} {pa pa' : Option Addr} {pc : Nat} {s : SS} (h : Sch w sb tb pa pc s) (hp : 0 < s.picks.length) (hpa : (if pc = 1 then pa else pa.map (·.add 1)) = pa') :
    Sch (w.setCell ⟨sb, 0, none⟩ (.slice pa' (s.picks.length - 1) (pc - 1))) sb tb pa' (pc - 1) { s with picks := s.picks.tail } := by
  have hb : ∀ x, pa' = some x → ∃ y, pa = some y ∧ y.block = x.block := by
    intro x e
    subst hpa
    split at e
    · exact ⟨x, e, rfl⟩
    · cases pa with
      | none => cases e
      | some y =>
        have e' : Addr.add y 1 = x := by simpa using e
        refine ⟨y, rfl, ?_⟩
        rw [← e']
        unfold Addr.add
        split <;> rfl
  have hU : Upd (fun k => k = sb) w (w.setCell ⟨sb, 0, none⟩ (.slice pa' (s.picks.length - 1) (pc - 1))) := Upd.setCell (S := fun k => k = sb) (p := ⟨sb, 0, none⟩) (Upd.refl _ _) (.inl rfl) _
  refine ⟨?_, h.told.upd hU (fun e => h.ne e.symm), ?_, ?_, ?_, h.ne, ?_, h.n1, h.n2, h.last, h.ended⟩
  · have := h.head.set 0 (.slice pa' (s.picks.length - 1) (pc - 1))
    simpa using this
  · have hle := h.le
    rcases h.picks with h0 | ⟨b, off, e, hc⟩
    · simp at h0; simp [h0] at hp
    · by_cases h1 : s.picks.length = 1
      · refine .inl ?_
        have : s.picks.tail = [] := List.eq_nil_of_length_eq_zero (by simp; omega)
        show s.picks.tail.map _ = []
        rw [this]; rfl
      · have hpc : ¬ pc = 1 := by omega
        rw [if_neg hpc, e] at hpa
        refine .inr ⟨b, off + 1, ?_, fun i u hu => ?_⟩
        · rw [← hpa]; simp [Addr.add_lit]
        · have hu2 : (s.picks.map (Value.int .i64))[i + 1]? = some u := by
            rw [List.getElem?_map] at hu ⊢
            rw [← hu]
            simp
          have := hc (i + 1) u hu2
          rw [show off + 1 + i = off + (i + 1) by omega]
          exact (hU.cells ⟨b, off + (i + 1), none⟩ (by rw [this]; rfl) (fun e2 => (show b ≠ sb from (h.apart _ e).1) e2)).trans this
  · have := h.le; simp; omega
  · have := h.most; omega
  · intro x e
    obtain ⟨y, e1, e2⟩ := hb x e
    rw [← e2]
    exact h.apart y e1

/-- What tell leaves. -/
def TellIs (bd : Nat → Prop) (sb tb : Nat) (s : SS) (w : World) (e : Ending) (w' : World) : Prop := e = .returned (.tuple #[]) ∧ Sc w' bd sb tb s ∧ Upd (fun k => k = sb ∨ k = tb) w w'

theorem Sch.mark {w : World} {sb tb : Nat} {pa : Option Addr} {pc : Nat} {s : SS} (h : Sch w sb tb pa pc s) (v : Nat) (hv : v < s.told.length) :
    Sch ((w.setCell ⟨sb, 1, none⟩ (.int .i64 (v : Int))).setCell ⟨tb, v, none⟩ (.bool true)) sb tb pa pc { s with last := v, told := s.told.set v true } := by
  have hU : Upd (fun k => k = sb ∨ k = tb) w ((w.setCell ⟨sb, 1, none⟩ (.int .i64 (v : Int))).setCell ⟨tb, v, none⟩ (.bool true)) :=
    ((Upd.refl _ _).setCell (p := ⟨sb, 1, none⟩) (.inl (.inl rfl)) _).setCell (p := ⟨tb, v, none⟩) (.inl (.inr rfl)) _
  refine ⟨?_, ?_, h.picks.upd hU (fun b off e _ f => by rcases f with f | f; exact (h.apart _ e).1 f; exact (h.apart _ e).2 f), h.le, h.most, h.ne, h.apart, by simpa using h.n1, by simpa using h.n2, by simpa using hv, h.ended⟩
  · have h1 := (h.head.set 1 (.int .i64 (v : Int))).other (p := ⟨tb, v, none⟩) h.ne (.bool true)
    simpa using h1
  · have h1 := (h.told.other (p := ⟨sb, 1, none⟩) (fun e => h.ne e.symm) (.int .i64 (v : Int))).set v (.bool true)
    simpa [List.map_set] using h1
theorem Sch.round {w : World} {sb tb : Nat} {pa : Option Addr} {pc : Nat} {s : SS} (h : Sch w sb tb pa pc s) (he : s.ended < 4611686018427387904) :
    Sch ((w.setCell ⟨sb, 3, none⟩ (.int .i64 ((s.ended : Int) + 1))).setCells tb 0 (List.replicate s.told.length (.bool false))) sb tb pa pc { s with told := List.replicate s.told.length false, ended := s.ended + 1 } := by
  have hU : Upd (fun k => k = sb ∨ k = tb) w ((w.setCell ⟨sb, 3, none⟩ (.int .i64 ((s.ended : Int) + 1))).setCells tb 0 (List.replicate s.told.length (.bool false))) :=
    Upd.setCells (.inl (.inr rfl)) _ _ _ ((Upd.refl _ _).setCell (p := ⟨sb, 3, none⟩) (.inl (.inl rfl)) _)
  have h1 := h.head.set 3 (.int .i64 ((s.ended : Int) + 1))
  have hU2 : Upd (fun k => k = tb) (w.setCell ⟨sb, 3, none⟩ (.int .i64 ((s.ended : Int) + 1))) ((w.setCell ⟨sb, 3, none⟩ (.int .i64 ((s.ended : Int) + 1))).setCells tb 0 (List.replicate s.told.length (.bool false))) :=
    Upd.setCells (S := fun k => k = tb) (.inl rfl) _ _ _ (Upd.refl _ _)
  refine ⟨?_, ?_, h.picks.upd hU (fun b off e _ f => by rcases f with f | f; exact (h.apart _ e).1 f; exact (h.apart _ e).2 f), h.le, h.most, h.ne, h.apart, by simpa using h.n1, by simpa using h.n2, by simpa using h.last, he⟩
  · have := h1.upd hU2 (fun e => h.ne e)
    simpa using this
  · have h2 := h.told.other (p := ⟨sb, 3, none⟩) (fun e => h.ne e.symm) (.int .i64 ((s.ended : Int) + 1))
    have h3 := Blk.setCells (b := tb) (List.replicate s.told.length (.bool false)) [] (s.told.map Value.bool) _ (by simpa using h2) (by simp)
    simpa using h3

set_option maxHeartbeats 2000000 in
theorem tell_any {w : World} {sb tb : Nat} {pa : Option Addr} {pc : Nat} {s : SS} (h : Sch w sb tb pa pc s) (v : Nat) (hv : v < s.told.length) (a : Option Addr) (c : Nat) (dl : List Bool) (hd : Rd w a (dl.map Value.bool))
    (hda : ∀ b off, a = some ⟨b, off, none⟩ → dl.map Value.bool ≠ [] → ¬ (b = sb ∨ b = tb)) (he : s.ended < 4611686018427387904) (bd : Nat → Prop) (hbd : ∀ x, pa = some x → bd x.block) :
    Calls Try.prog 20 #[.pointer (some ⟨sb, 0, none⟩), .int .i64 (v : Int), .slice a dl.length c] w (TellIs bd sb tb (s.tell v dl) w) := by
  have c0 : w.cell? ⟨sb, 0, none⟩ = some (.slice pa s.picks.length pc) := by rw [h.head.cell]; rfl
  have f0 : w.frozen? ⟨sb, 0, none⟩ = false := h.head.free 0
  have n1 := h.n1
  have n2 := h.n2
  have hle := h.le
  have hmost := h.most
  unfold maxLen at hmost
  obtain ⟨pa', hpa⟩ : ∃ pa', (if pc = 1 then pa else pa.map (·.add 1)) = pa' := ⟨_, rfl⟩
  have hsl : 0 < s.picks.length → ∀ w : World, (Instr.slice 22 (.slice pa s.picks.length pc) (some (.int .i64 1)) none none).run Try.prog w = .ok (.slice pa' (s.picks.length - 1) (pc - 1)) w := fun h1 w => by
    have := run_low (P := Try.prog) (t := 22) Try.underlying22 (size := 1) (by kernel_rfl) pa s.picks.length pc 1 h1 w
    rw [show (1 * 1 : Nat) = 1 from rfl, hpa] at this
    exact this
  have HT := fun hp : 0 < s.picks.length => Lib.hid (h.tail hp hpa)
  have H0 := Lib.hid h
  have HBD := Lib.hid hbd
  have HB2 : Hid (∀ x, pa' = some x → bd x.block) := Lib.hid fun x e => by
    rw [← hpa] at e
    split at e
    · exact hbd x e
    · cases pa with
      | none => cases e
      | some y =>
        have e' : Addr.add y 1 = x := by simpa using e
        have := hbd y rfl
        rw [← e']
        unfold Addr.add
        split <;> exact this
  clear h hpa hbd
  go_enter Try.func20, Try.ntmps20
  go_upto_if 13 with (fail)
  go_cut [] from 8 to 21 (fun wx => Hid (∃ pa' pc', Sch wx sb tb pa' pc' { s with picks := s.picks.tail } ∧ ∀ x, pa' = some x → bd x.block) ∧ Hid (Upd (fun k => k = sb) w wx))
  case first =>
    by_cases hp : 0 < s.picks.length
    · have hsl2 := hsl hp
      clear hsl
      go_wp2_with fail
      go_meet
      case rel => exact ⟨Lib.hid ⟨_, _, (HT hp).out, HB2.out⟩, Lib.hid (Upd.setCell (S := fun k => k = sb) (p := ⟨sb, 0, none⟩) (Upd.refl _ _) (.inl rfl) _)⟩
    · have hp0 : s.picks.length = 0 := by omega
      have hp1 : s.picks.tail = s.picks := by
        have : s.picks = [] := List.eq_nil_of_length_eq_zero hp0
        rw [this]; rfl
      clear hsl hp0
      go_wp2_with fail
      go_meet
      case rel => exact ⟨Lib.hid ⟨pa, pc, by rw [hp1]; exact H0.out, HBD.out⟩, Lib.hid (Upd.refl _ _)⟩
  case rest =>
    obtain ⟨HE, HU⟩ := hcut
    obtain ⟨pa2, pc2, hS, hbd2⟩ := HE.out
    have HBD2 := Lib.hid hbd2
    clear hbd2
    have cT : 0 < s.told.length := n1
    have hh := hS.head.cell
    have hf := hS.head.free
    have ht : _ = some (Value.bool (s.told.getD v false)) := (hS.told.cell v).trans (by simp [hv])
    have htf := hS.told.free v
    have HM := Lib.hid (hS.mark v hv)
    have hne := hS.ne
    clear HE hS H0 HT hsl c0 f0
    obtain ⟨t, ht0⟩ : ∃ t, s.told.set v true = t := ⟨_, rfl⟩
    have htl : t.length = s.told.length := by rw [← ht0]; simp
    have HY : Hid (allT t dl = true → s.tell v dl = ⟨s.picks.tail, v, List.replicate t.length false, s.ended + 1⟩) := Lib.hid fun h => by unfold SS.tell; rw [ht0, h, htl]; rfl
    have HNo : Hid (allT t dl = false → s.tell v dl = ⟨s.picks.tail, v, t, s.ended⟩) := Lib.hid fun h => by unfold SS.tell; rw [ht0, h]; rfl
    rw [ht0] at HM
    generalize s.tell v dl = r at *
    have HL := Lib.hid htl
    have htl2 := htl
    clear ht0 htl
    go_wp2_with fail
    go_loopw [37] (fun i wr => ∃ k : Nat, i = .int .i64 k ∧ k ≤ s.told.length ∧ Hid (∀ j, j < k → t.getD j false = true ∨ dl.getD j false = true) ∧ Hid (Sch wr sb tb pa2 pc2 ⟨s.picks.tail, v, t, s.ended⟩) ∧ Hid (Upd (fun k => k = sb ∨ k = tb) w wr)) (fun i _ => s.told.length - (intOf i).toNat)
    case atStart =>
      refine ⟨0, rfl, by omega, Lib.hid (fun j hj => by omega), HM, ?_⟩
      exact Lib.hid ((((HU.out.wide (fun k _ e => .inl e))).setCell (p := ⟨sb, 1, none⟩) (.inl (.inl rfl)) _).setCell (p := ⟨tb, v, none⟩) (.inl (.inr rfl)) _)
    case round =>
      obtain ⟨k, rfl, hk, HA, HS, HU2⟩ := hrel
      clear HM HU hh hf ht htf
      have hh := HS.out.head.cell
      have htk := HS.out.told.cell k
      by_cases hlt : k < s.told.length
      · have hkt : k < t.length := by have := HL.out; omega
        have ck : wr.cell? ⟨tb, k, none⟩ = some (.bool (t.getD k false)) := htk.trans (by simp [hkt])
        have HD := Lib.hid (isDone_any a c dl k wr (hd.upd HU2.out (fun b off e h0 => hda b off e h0)))
        obtain ⟨x, hx⟩ : ∃ x, t.getD k false = x := ⟨_, rfl⟩
        obtain ⟨y, hy⟩ : ∃ y, dl.getD k false = y := ⟨_, rfl⟩
        rw [hx] at ck
        rw [hy] at HD
        have HX := Lib.hid hx
        have HYd := Lib.hid hy
        clear hx hy htk hd hkt
        cases x
        · cases y
          · go_wp2_with (go_at_call 19; refine HD.out.mono ?_; rintro e w' ⟨rfl, rfl⟩)
            refine bodyPost_ret (results_none rfl _ _ _) rfl ?_
            have h1 := HNo.out (allT_no (by have := HL.out; omega) HX.out HYd.out)
            rw [h1]
            exact ⟨rfl, ⟨_, _, HS.out, HBD2.out⟩, HU2.out⟩
          · have HA2 : Hid (∀ j, j < k + 1 → t.getD j false = true ∨ dl.getD j false = true) := Lib.hid fun j hj => by
              by_cases e : j = k
              · subst e; exact .inr HYd.out
              · exact HA.out j (by omega)
            clear HA HX HYd
            go_wp2_with (go_at_call 19; refine HD.out.mono ?_; rintro e w' ⟨rfl, rfl⟩)
            go_roundw
            case rel => exact ⟨k + 1, by go_num, by omega, HA2, HS, HU2⟩
            case measure => simp [intOf]; omega
        · have HA2 : Hid (∀ j, j < k + 1 → t.getD j false = true ∨ dl.getD j false = true) := Lib.hid fun j hj => by
            by_cases e : j = k
            · subst e; exact .inl HX.out
            · exact HA.out j (by omega)
          clear HA HX HYd
          go_wp2_with fail
          go_roundw
          case rel => exact ⟨k + 1, by go_num, by omega, HA2, HS, HU2⟩
          case measure => simp [intOf]; omega
      · obtain rfl : k = s.told.length := by omega
        have h1 := HY.out (allT_yes (fun i hi => HA.out i (by have := HL.out; omega)))
        have hR := HS.out.round (by simpa using he)
        simp only at hR
        have hf := HS.out.head.free
        simp only [htl2] at hR h1
        have hclr : ∀ ty, (Builtin.clear_ #[28] ty #[.slice (some ⟨tb, 0, none⟩) s.told.length s.told.length]).run Try.prog (wr.setCell ⟨sb, 3, none⟩ (.int .i64 ((s.ended : Int) + 1))) = .ok (.tuple #[]) ((wr.setCell ⟨sb, 3, none⟩ (.int .i64 ((s.ended : Int) + 1))).setCells tb 0 (List.replicate s.told.length (.bool false))) := fun ty => by
          have hb := HS.out.told.other (p := ⟨sb, 3, none⟩) (fun e => HS.out.ne e.symm) (.int .i64 ((s.ended : Int) + 1))
          refine Lib.run_clear_slice _ 28 4 ty (.bool false) Try.underlying28 (fun w => by kernel_rfl) rfl rfl tb 0 s.told.length s.told.length (by omega) (fun j hj => ?_) (fun j hj => hb.free _)
          rw [Nat.zero_add, hb.cell]
          have : j < t.length := by omega
          simp [this]
        have hfin : Hid (TellIs bd sb tb r w (.returned (.tuple #[])) ((wr.setCell ⟨sb, 3, none⟩ (.int .i64 ((s.ended : Int) + 1))).setCells tb 0 (List.replicate s.told.length (.bool false)))) := by
          apply Lib.hid
          rw [h1]
          refine ⟨rfl, ⟨_, _, hR, HBD2.out⟩, ?_⟩
          exact Upd.setCells (S := fun k => k = sb ∨ k = tb) (.inl (.inr rfl)) _ _ _ (HU2.out.setCell (p := ⟨sb, 3, none⟩) (.inl (.inl rfl)) _)
        clear HY HNo HA hR h1 htk HU2
        have hne2 := HS.out.ne
        have htc := HS.out.told.cell 0
        go_wp2_with fail
        go_end0
        exact hfin.out
end Go.Proofs.Ytacacnjpfflbnaa
