/- The law CellsNone. -/
import Derived.Test.YtnffnpolkkgnhaaAwake10
import Derived.Test.YtnffnpolkkgnhaaBase2
namespace Go.Proofs.Ytnffnpolkkgnhaa
open Go.RowKit

/-- The banks that have no cell: nil, and one that New did not make. -/
theorem none_at (p : Option Addr) (i : Int) (w : World) (h : p = none ∨ ∃ b, p = some ⟨b, 0, none⟩ ∧ w.cell? ⟨b, 0, none⟩ = some (.slice none 0 0)) :
    Calls Try.prog 31 #[.pointer p, .int .i64 i] w fun e w' => e = .returned (.pointer none) ∧ w = w' := by
  rcases h with rfl | ⟨b, rfl, hc⟩
  · go_enter Try.func31, Try.ntmps31
    go_wp2
    go_ret
    exact ⟨rfl, rfl⟩
  · by_cases h0 : i < 0
    · go_enter Try.func31, Try.ntmps31
      go_wp2
      go_ret
      exact ⟨rfl, rfl⟩
    · have h1 : 0 ≤ i := by omega
      go_enter Try.func31, Try.ntmps31
      go_wp2
      go_ret
      exact ⟨rfl, rfl⟩
/-- A bank's pointer that has no cell. -/
def NoBank (w : World) (p : Option Addr) : Prop := p = none ∨ ∃ b, p = some ⟨b, 0, none⟩ ∧ w.cell? ⟨b, 0, none⟩ = some (.slice none 0 0)
theorem NoBank.upd {w w' : World} {p : Option Addr} {S : Nat → Prop} (h : NoBank w p) (hu : Upd S w w') (hs : ∀ a, p = some a → ¬ S a.block) : NoBank w' p := by
  rcases h with h | ⟨b, rfl, hc⟩
  · exact .inl h
  · exact .inr ⟨b, rfl, by rw [hu.cells _ (by simp [hc]) (hs _ rfl)]; exact hc⟩

theorem none_Load (p : Option Addr) (i : Int) (w : World) (h : NoBank w p) :
    Calls Try.prog 22 #[.pointer p, .int .i64 i] w fun e w' => e = .returned (.int .i64 0) ∧ w = w' := by
  have ha := Lib.hid (none_at p i w h)
  clear h
  go_enter Try.func22, Try.ntmps22
  go_wp2_with (go_at_call 31; refine ha.out.mono ?_; rintro e w' ⟨rfl, rfl⟩)
  go_ret
  exact ⟨rfl, rfl⟩
theorem none_Store (p : Option Addr) (i v : Int) (w : World) (h : NoBank w p) :
    Calls Try.prog 23 #[.pointer p, .int .i64 i, .int .i64 v] w fun e w' => e = .returned (.tuple #[]) ∧ w = w' := by
  have ha := Lib.hid (none_at p i w h)
  clear h
  go_enter Try.func23, Try.ntmps23
  go_wp2_with (go_at_call 31; refine ha.out.mono ?_; rintro e w' ⟨rfl, rfl⟩)
  go_end0
  exact ⟨rfl, rfl⟩
theorem none_Add (p : Option Addr) (i v : Int) (w : World) (h : NoBank w p) :
    Calls Try.prog 25 #[.pointer p, .int .i64 i, .int .i64 v] w fun e w' => e = .returned (.int .i64 0) ∧ w = w' := by
  have ha := Lib.hid (none_at p i w h)
  clear h
  go_enter Try.func25, Try.ntmps25
  go_wp2_with (go_at_call 31; refine ha.out.mono ?_; rintro e w' ⟨rfl, rfl⟩)
  go_ret
  exact ⟨rfl, rfl⟩
theorem none_CAS (p : Option Addr) (i o v : Int) (w : World) (h : NoBank w p) :
    Calls Try.prog 27 #[.pointer p, .int .i64 i, .int .i64 o, .int .i64 v] w fun e w' => e = .returned (.bool false) ∧ w = w' := by
  have ha := Lib.hid (none_at p i w h)
  clear h
  go_enter Try.func27, Try.ntmps27
  go_wp2_with (go_at_call 31; refine ha.out.mono ?_; rintro e w' ⟨rfl, rfl⟩)
  go_ret
  exact ⟨rfl, rfl⟩
theorem none_Len (p : Option Addr) (w : World) (h : NoBank w p) :
    Calls Try.prog 20 #[.pointer p] w fun e w' => e = .returned (.int .i64 0) ∧ w = w' := by
  rcases h with rfl | ⟨b, rfl, hc⟩
  · go_enter Try.func20, Try.ntmps20
    go_wp2
    go_ret
    exact ⟨rfl, rfl⟩
  · go_enter Try.func20, Try.ntmps20
    go_wp2
    go_ret
    exact ⟨rfl, rfl⟩
def EmptyRow (w : World) (e : Ending) (w' : World) : Prop := ∃ a, e = .returned (.slice a 0 0) ∧ Kept w w'
theorem none_All (p : Option Addr) (w : World) (h : NoBank w p) :
    Calls Try.prog 28 #[.pointer p] w (EmptyRow w) := by
  have hmk : ∀ w : World, (Instr.makeSlice 42 (.int .i64 0) (.int .i64 0)).run Try.prog w = .ok (.slice (some ⟨w.heap.size, 0, none⟩) 0 0) (w.alloc (.cells (zeros 0 (.int .i64 0)) 2)) := fun w => make_one (P := Try.prog) (t := 42) (e := 2) (z := .int .i64 0) (v := .int .i64 0) (bytes := 8) Try.underlying42 (by kernel_rfl) rfl .i64 0 (by omega) (by omega) w
  have hl := Lib.hid (none_Len p w h)
  clear h
  go_enter Try.func28, Try.ntmps28
  go_wp2_with (go_at_call 20; refine hl.out.mono ?_; rintro e w' ⟨rfl, rfl⟩)
  go_loop [10] (fun i => i = .int .i64 0) (fun _ => 0)
  case atStart => rfl
  case round =>
    subst hrel
    go_wp2
    go_ret
    exact ⟨_, rfl, (Upd.refl _ _).alloc _⟩

set_option maxRecDepth 100000 in
set_option maxHeartbeats 2000000 in
theorem cellsNone_walk (i v x : Int) (w : World) (w0 : (Lit.int .i64 i).wf = true) (w1 : (Lit.int .i64 v).wf = true) (w2 : (Lit.int .i64 x).wf = true) :
    Calls Try.prog 8 #[.int .i64 i, .int .i64 v, .int .i64 x] w fun e w' => e = .returned (.bool true) ∧ Kept w w' := by
  go_enter Try.func8, Try.ntmps8
  go_wp2_with fail
  refine (New_ok 3 _ (by omega)).mono ?_
  rintro e w1 ⟨bb, g, rfl, hB, hbb, hg, hk⟩
  have HB := Lib.hid hB
  have HK := Lib.hid hk
  clear hB hk
  go_wp2_with fail
  have hg1 : g < w1.heap.size := HB.out.row.lt
  have hb1 : bb < w1.heap.size := HB.out.head.lt
  go_loopw [24] (fun j wr => ∃ k : Nat, j = .int .i64 k ∧ k ≤ 3 ∧ Hid (Blk wr (w1.heap.size + 1) #[.pointer none, .pointer (some ⟨w1.heap.size, 0, none⟩), .pointer (some ⟨bb, 0, none⟩)] 38) ∧
      Hid (Blk wr w1.heap.size #[.slice none 0 0] 58) ∧ Hid (Bnk wr bb g (List.replicate 3 0)) ∧ Hid (Kept w wr)) (fun j _ => 3 - (intOf j).toNat)
  case atStart =>
    refine ⟨0, rfl, by omega, Lib.hid ?_, Lib.hid ((Blk.new _ _ _).alloc _), Lib.hid (HB.out.kept (((Upd.refl _ _).alloc _).alloc _)), Lib.hid ((HK.out.alloc _).alloc _)⟩
    have := Blk.new (w1.alloc (.cells #[.slice none 0 0] 58)) #[.pointer none, .pointer (some ⟨w1.heap.size, 0, none⟩), .pointer (some ⟨bb, 0, none⟩)] 38
    simpa using this
  case round =>
    obtain ⟨k, rfl, hk3, HL, HE, HB1, HK1⟩ := hrel
    clear HB HK
    by_cases hlt : k < 2
    · have hp : ∃ p, wr.cell? ⟨w1.heap.size + 1, k, none⟩ = some (.pointer p) ∧ NoBank wr p := by
        match k, hlt with
        | 0, _ => exact ⟨none, by rw [HL.out.cell]; rfl, .inl rfl⟩
        | 1, _ => exact ⟨some ⟨w1.heap.size, 0, none⟩, by rw [HL.out.cell]; rfl, .inr ⟨_, rfl, by rw [HE.out.cell]; rfl⟩⟩
      obtain ⟨p, hc, hn⟩ := hp
      have HN := Lib.hid hn
      have k2 : ((k : Int) == 2) = false := by simp; omega
      have k3 : (k : Int) < 3 := by omega
      have k4 : (k : Int) < 2 := by omega
      clear hn
      go_wp2_with fail
      refine (none_Store _ _ _ _ HN.out).mono ?_
      rintro e w' ⟨rfl, rfl⟩
      go_wp2_with fail
      refine (none_Load _ _ _ HN.out).mono ?_
      rintro e w' ⟨rfl, rfl⟩
      go_wp2_with fail
      refine (none_Add _ _ _ _ HN.out).mono ?_
      rintro e w' ⟨rfl, rfl⟩
      go_wp2_with fail
      refine (none_CAS _ _ _ _ _ HN.out).mono ?_
      rintro e w' ⟨rfl, rfl⟩
      go_wp2_with fail
      refine (none_Load _ _ _ HN.out).mono ?_
      rintro e w' ⟨rfl, rfl⟩
      go_wp2_with fail
      refine (none_Len _ _ HN.out).mono ?_
      rintro e w' ⟨rfl, rfl⟩
      go_wp2_with fail
      refine (none_All _ _ HN.out).mono ?_
      rintro e w2 ⟨a, rfl, hk2⟩
      have HL2 := Lib.hid (HL.out.kept hk2)
      have HE2 := Lib.hid (HE.out.kept hk2)
      have HB2 := Lib.hid (HB1.out.kept hk2)
      have HK2 := Lib.hid (HK1.out.trans hk2)
      clear hk2
      go_wp2_with fail
      go_roundw
      case rel => exact ⟨k + 1, by go_num, by omega, HL2, HE2, HB2, HK2⟩
      case measure => simp [intOf]; omega
    · by_cases hk2 : k = 2
      · have hc : wr.cell? ⟨w1.heap.size + 1, k, none⟩ = some (.pointer (some ⟨bb, 0, none⟩)) := by rw [hk2, HL.out.cell]; rfl
        have k2 : ((k : Int) == 2) = true := by simp [hk2]
        have k3 : (k : Int) < 3 := by omega
        have k4 : ¬ (k : Int) < 2 := by omega
        have b0 := bounds_i64 w0
        clear hk2 w0 w2
        by_cases i0 : 0 ≤ i
        · by_cases i3 : i < 3
          · have e3 : wrap64 (i + 3) = i + 3 := by simp only [wrap64]; omega
            clear e3
            have ho : ¬ (0 ≤ i + 3 ∧ i + 3 < ((List.replicate 3 (0:Int)).length : Int)) := by simp; omega
            have HS := fun w (H : Bnk w bb g (List.replicate 3 0)) => Lib.hid (Store_is H (i + 3) v _ (bput_out v ho))
            have HLd := fun w (H : Bnk w bb g (List.replicate 3 0)) => Lib.hid (Load_is H (i + 3) 0 (bget_out ho))
            have HA := fun w (H : Bnk w bb g (List.replicate 3 0)) => Lib.hid (Add_is H (i + 3) v 0 _ (if_neg ho) (bput_out _ ho))
            have HC := fun w (H : Bnk w bb g (List.replicate 3 0)) => Lib.hid (CAS_is H (i + 3) 0 x false _ (decide_eq_false fun h => ho h.1) (by rw [bput_out _ ho, ite_self]))
            clear ho
            go_wp2_with fail
            refine (HS _ HB1.out).out.mono ?_
            rintro e w2 ⟨rfl, hB2, hU2⟩
            have HB2 := Lib.hid hB2
            have HL2 := Lib.hid (HL.out.upd hU2 (fun e => by omega))
            have HE2 := Lib.hid (HE.out.upd hU2 (fun e => by omega))
            have HK2 := Lib.hid (HK1.out.then hU2 (fun i h e => by omega))
            clear hB2 hU2 HL HE HK1 HB1
            go_wp2_with fail
            refine (HLd _ HB2.out).out.mono ?_
            rintro e w' ⟨rfl, rfl⟩
            go_wp2_with fail
            refine (HA _ HB2.out).out.mono ?_
            rintro e w3 ⟨rfl, hB3, hU3⟩
            have HB3 := Lib.hid hB3
            have HL3 := Lib.hid (HL2.out.upd hU3 (fun e => by omega))
            have HE3 := Lib.hid (HE2.out.upd hU3 (fun e => by omega))
            have HK3 := Lib.hid (HK2.out.then hU3 (fun i h e => by omega))
            clear hB3 hU3 HL2 HE2 HK2 HB2
            go_wp2_with fail
            refine (HC _ HB3.out).out.mono ?_
            rintro e w4 ⟨rfl, hB4, hU4⟩
            have HB4 := Lib.hid hB4
            have HL4 := Lib.hid (HL3.out.upd hU4 (fun e => by omega))
            have HE4 := Lib.hid (HE3.out.upd hU4 (fun e => by omega))
            have HK4 := Lib.hid (HK3.out.then hU4 (fun i h e => by omega))
            clear hB4 hU4 HL3 HE3 HK3 HB3
            go_wp2_with fail
            refine (HLd _ HB4.out).out.mono ?_
            rintro e w' ⟨rfl, rfl⟩
            go_wp2_with fail
            go_roundw
            case rel => exact ⟨k + 1, by go_num, by omega, HL4, HE4, HB4, HK4⟩
            case measure => simp [intOf]; omega
          · have ho : ¬ (0 ≤ i ∧ i < ((List.replicate 3 (0:Int)).length : Int)) := by simp; omega
            have HS := fun w (H : Bnk w bb g (List.replicate 3 0)) => Lib.hid (Store_is H (i) v _ (bput_out v ho))
            have HLd := fun w (H : Bnk w bb g (List.replicate 3 0)) => Lib.hid (Load_is H (i) 0 (bget_out ho))
            have HA := fun w (H : Bnk w bb g (List.replicate 3 0)) => Lib.hid (Add_is H (i) v 0 _ (if_neg ho) (bput_out _ ho))
            have HC := fun w (H : Bnk w bb g (List.replicate 3 0)) => Lib.hid (CAS_is H (i) 0 x false _ (decide_eq_false fun h => ho h.1) (by rw [bput_out _ ho, ite_self]))
            clear ho
            go_wp2_with fail
            refine (HS _ HB1.out).out.mono ?_
            rintro e w2 ⟨rfl, hB2, hU2⟩
            have HB2 := Lib.hid hB2
            have HL2 := Lib.hid (HL.out.upd hU2 (fun e => by omega))
            have HE2 := Lib.hid (HE.out.upd hU2 (fun e => by omega))
            have HK2 := Lib.hid (HK1.out.then hU2 (fun i h e => by omega))
            clear hB2 hU2 HL HE HK1 HB1
            go_wp2_with fail
            refine (HLd _ HB2.out).out.mono ?_
            rintro e w' ⟨rfl, rfl⟩
            go_wp2_with fail
            refine (HA _ HB2.out).out.mono ?_
            rintro e w3 ⟨rfl, hB3, hU3⟩
            have HB3 := Lib.hid hB3
            have HL3 := Lib.hid (HL2.out.upd hU3 (fun e => by omega))
            have HE3 := Lib.hid (HE2.out.upd hU3 (fun e => by omega))
            have HK3 := Lib.hid (HK2.out.then hU3 (fun i h e => by omega))
            clear hB3 hU3 HL2 HE2 HK2 HB2
            go_wp2_with fail
            refine (HC _ HB3.out).out.mono ?_
            rintro e w4 ⟨rfl, hB4, hU4⟩
            have HB4 := Lib.hid hB4
            have HL4 := Lib.hid (HL3.out.upd hU4 (fun e => by omega))
            have HE4 := Lib.hid (HE3.out.upd hU4 (fun e => by omega))
            have HK4 := Lib.hid (HK3.out.then hU4 (fun i h e => by omega))
            clear hB4 hU4 HL3 HE3 HK3 HB3
            go_wp2_with fail
            refine (HLd _ HB4.out).out.mono ?_
            rintro e w' ⟨rfl, rfl⟩
            go_wp2_with fail
            go_roundw
            case rel => exact ⟨k + 1, by go_num, by omega, HL4, HE4, HB4, HK4⟩
            case measure => simp [intOf]; omega
        · have ho : ¬ (0 ≤ i ∧ i < ((List.replicate 3 (0:Int)).length : Int)) := by simp; omega
          have HS := fun w (H : Bnk w bb g (List.replicate 3 0)) => Lib.hid (Store_is H (i) v _ (bput_out v ho))
          have HLd := fun w (H : Bnk w bb g (List.replicate 3 0)) => Lib.hid (Load_is H (i) 0 (bget_out ho))
          have HA := fun w (H : Bnk w bb g (List.replicate 3 0)) => Lib.hid (Add_is H (i) v 0 _ (if_neg ho) (bput_out _ ho))
          have HC := fun w (H : Bnk w bb g (List.replicate 3 0)) => Lib.hid (CAS_is H (i) 0 x false _ (decide_eq_false fun h => ho h.1) (by rw [bput_out _ ho, ite_self]))
          clear ho
          go_wp2_with fail
          refine (HS _ HB1.out).out.mono ?_
          rintro e w2 ⟨rfl, hB2, hU2⟩
          have HB2 := Lib.hid hB2
          have HL2 := Lib.hid (HL.out.upd hU2 (fun e => by omega))
          have HE2 := Lib.hid (HE.out.upd hU2 (fun e => by omega))
          have HK2 := Lib.hid (HK1.out.then hU2 (fun i h e => by omega))
          clear hB2 hU2 HL HE HK1 HB1
          go_wp2_with fail
          refine (HLd _ HB2.out).out.mono ?_
          rintro e w' ⟨rfl, rfl⟩
          go_wp2_with fail
          refine (HA _ HB2.out).out.mono ?_
          rintro e w3 ⟨rfl, hB3, hU3⟩
          have HB3 := Lib.hid hB3
          have HL3 := Lib.hid (HL2.out.upd hU3 (fun e => by omega))
          have HE3 := Lib.hid (HE2.out.upd hU3 (fun e => by omega))
          have HK3 := Lib.hid (HK2.out.then hU3 (fun i h e => by omega))
          clear hB3 hU3 HL2 HE2 HK2 HB2
          go_wp2_with fail
          refine (HC _ HB3.out).out.mono ?_
          rintro e w4 ⟨rfl, hB4, hU4⟩
          have HB4 := Lib.hid hB4
          have HL4 := Lib.hid (HL3.out.upd hU4 (fun e => by omega))
          have HE4 := Lib.hid (HE3.out.upd hU4 (fun e => by omega))
          have HK4 := Lib.hid (HK3.out.then hU4 (fun i h e => by omega))
          clear hB4 hU4 HL3 HE3 HK3 HB3
          go_wp2_with fail
          refine (HLd _ HB4.out).out.mono ?_
          rintro e w' ⟨rfl, rfl⟩
          go_wp2_with fail
          go_roundw
          case rel => exact ⟨k + 1, by go_num, by omega, HL4, HE4, HB4, HK4⟩
          case measure => simp [intOf]; omega
      · have k3 : ¬ (k : Int) < 3 := by omega
        clear hk2 HL HE
        go_wp2_with fail
        refine (Store_is HB1.out 1 v [0, v, 0] (by simp [bput])).mono ?_
        rintro e w2 ⟨rfl, hB2, hU2⟩
        have HB2 := Lib.hid hB2
        have HK2 := Lib.hid (HK1.out.then hU2 (fun i h e => by omega))
        clear hB2 hU2 HK1 HB1
        go_wp2_with fail
        refine (All_bank HB2.out).mono ?_
        rintro e w3 ⟨_, rfl, ⟨g3, rfl, hI, hg3⟩, hk3'⟩
        have hcx := hI.cell
        have hfx := hI.free
        have HB3 := Lib.hid (HB2.out.kept hk3')
        have HB4 := fun u => Lib.hid (HB3.out.upd (S := fun j => j = g3) (updCell w3 g3 1 u) (fun e => by have := HB2.out.head.lt; omega) (fun e => by have := HB2.out.row.lt; omega))
        have HK4 := fun u => Lib.hid ((HK2.out.trans hk3').setCell (p := ⟨g3, 1, none⟩) (.inr (show w.heap.size ≤ g3 by have := HK2.out.size; omega)) u)
        simp only [List.map_cons, List.map_nil, List.length_cons, List.length_nil] at hcx ⊢
        clear hI hk3' HB3 HK2 HB2
        go_wp2_with fail
        refine (Load_is (HB4 _).out 1 v (by simp [bget])).mono ?_
        rintro e w' ⟨rfl, rfl⟩
        go_wp2_with fail
        refine (Load_is (HB4 _).out 0 0 (by simp [bget])).mono ?_
        rintro e w' ⟨rfl, rfl⟩
        go_wp2_with fail
        refine (Load_is (HB4 _).out 2 0 (by simp [bget])).mono ?_
        rintro e w' ⟨rfl, rfl⟩
        go_wp2_with fail
        refine (awake_any _).mono ?_
        rintro e w5 ⟨rfl, hk5⟩
        go_wp2
        go_ret
        exact ⟨rfl, (HK4 _).out.trans hk5⟩
end Go.Proofs.Ytnffnpolkkgnhaa
