/- The law GlobalsRisen. -/
import Derived.Test.YticeionjlknlcaaOpen
import Derived.Test.YticeionjlknlcaaAwake20
import Derived.Deep.RegionHeld3
namespace Go.Proofs.Yticeionjlknlcaa
set_option linter.unusedVariables false
open Go.RowKit Go.ChangeShapes Go.WideShapes Go.ChangeAt Go.Deep

/-- A struct of two ints: a closed fact. -/
def pairB (P : Program) (t : TypeId) : Bool :=
  match P.underlying t with
  | some (.struct fs) => fs.size == 2 && P.cellsOf t == 2 && (List.range 2).all fun i =>
      match fs[i]? with
      | some f => f.offset == i && P.cellsOf f.type == 1 && (match P.underlying f.type with | some (.int j) => j == .i64 | _ => false)
      | none => false
  | _ => false
theorem pair_of {H : Type} {enc : TypeId × Value → H} {P : Program} {w : World} {t : TypeId} (hB : pairB P t = true) {r : Reach} {base : Nat} {v : Value} (hv : Value.okWide P w r base t v) {d : DataW H} {p : List MemPlace}
    (h : DataW.Trod enc P w 0 (fun _ => true) true t v d p) : ∃ N S, v = .agg #[.int .i64 N, .int .i64 S] ∧ (Lit.int .i64 N).wf = true ∧ (Lit.int .i64 S).wf = true := by
  unfold pairB at hB
  split at hB
  · rename_i fs hu
    simp only [Bool.and_eq_true, beq_iff_eq] at hB
    obtain ⟨⟨hsz, hc⟩, hall⟩ := hB
    obtain ⟨cs, rfl, hcs⟩ := okWide_struct hu hv
    obtain ⟨fuel, hf⟩ := h
    obtain ⟨xs, n, _, _, hl, hxl, hfi⟩ := DataW.trod_struct hu hf
    have key : ∀ i, i < 2 → ∃ f, fs[i]? = some f ∧ (match P.underlying f.type with | some (.int j) => j == .i64 | _ => false) = true ∧ ∃ x, DataW.trod enc P w 0 (fun _ => true) true n f.type [cs[i]?.getD undef] = some x := by
      intro i hi
      have h1 := List.all_eq_true.1 hall i (List.mem_range.2 hi)
      have hfs : fs[i]? = some fs[i] := by simp [hsz, hi]
      rw [hfs] at h1
      simp only [Bool.and_eq_true, beq_iff_eq] at h1
      obtain ⟨⟨ho, h1c⟩, hk⟩ := h1
      have h2 := hfi i fs[i] hfs
      have hxi : xs[i]? = some xs[i] := by simp
      rw [ho, h1c, hxi] at h2
      have hd : ((Value.agg cs).cells.toList.drop i).take 1 = [cs[i]?.getD undef] := by
        have hlt : i < cs.toList.length := by simp; omega
        show (cs.toList.drop i).take 1 = _
        rw [List.drop_eq_getElem_cons hlt]
        have : i < cs.size := by omega
        simp [this]
      rw [hd] at h2
      exact ⟨fs[i], hfs, hk, _, h2⟩
    have num : ∀ i, i < 2 → ∃ m : Int, cs[i]?.getD undef = .int .i64 m ∧ (Lit.int .i64 m).wf = true := by
      intro i hi
      obtain ⟨f, hf1, hk, x, hx⟩ := key i (by omega)
      split at hk
      · rename_i j e1
        simp only [beq_iff_eq] at hk
        obtain ⟨m, hm, _, hw⟩ := DataW.trod_int e1 hx
        rw [hk] at hm hw
        exact ⟨m, by simpa using hm, hw⟩
      · cases hk
    obtain ⟨N, hN, wN⟩ := num 0 (by omega)
    obtain ⟨S, hS, wS⟩ := num 1 (by omega)
    refine ⟨N, S, ?_, wN, wS⟩
    congr 1
    have h4 : cs.size = 2 := by omega
    apply Array.ext
    · simp [h4]
    · intro i hi1 hi2
      have e3 : cs[i] = cs[i]?.getD undef := by simp [hi1]
      rw [e3]
      have : i = 0 ∨ i = 1 := by omega
      rcases this with rfl | rfl
      · exact hN
      · exact hS
  · cases hB
end Go.Proofs.Yticeionjlknlcaa
namespace Go.Proofs.Yticeionjlknlcaa
set_option linter.unusedVariables false
set_option linter.unusedSimpArgs false
open Go.RowKit

theorem ri_law (g1 s1 g2 s2 g3 s3 : Int) : (riB g1 s1 g2 s2 && riB g2 s2 g1 s1) = false ∧ ((riB g1 s1 g2 s2 || riB g2 s2 g1 s1) = true ↔ ¬ (g1 = g2 ∧ s1 = s2)) ∧ (riB g1 s1 g2 s2 = true → riB g2 s2 g3 s3 = true → riB g1 s1 g3 s3 = true) := by
  unfold riB
  refine ⟨?_, ?_, ?_⟩
  · rw [Bool.eq_false_iff]
    simp only [ne_eq, Bool.and_eq_true, decide_eq_true_eq]
    omega
  · simp only [Bool.or_eq_true, decide_eq_true_eq]
    omega
  · simp only [decide_eq_true_eq]
    omega
set_option maxRecDepth 100000 in
set_option maxHeartbeats 4000000 in
theorem globalsRisen_walk (g1 s1 g2 s2 g3 s3 : Int) (w : World) (_a : (Lit.int .i64 g1).wf = true) (_b : (Lit.int .i64 s1).wf = true) (_c : (Lit.int .i64 g2).wf = true) (_d : (Lit.int .i64 s2).wf = true) (_e : (Lit.int .i64 g3).wf = true) (_f : (Lit.int .i64 s3).wf = true) :
    Calls Try.prog 9 #[.agg #[.int .i64 g1, .int .i64 s1], .agg #[.int .i64 g2, .int .i64 s2], .agg #[.int .i64 g3, .int .i64 s3]] w fun e w' => e = .returned (.bool true) ∧ Kept w w' := by
  have HK := Lib.hid ((((Upd.refl (fun _ => False) w).alloc (.cells #[.int .i64 g1, .int .i64 s1] 48)).alloc (.cells #[.int .i64 g2, .int .i64 s2] 48)).alloc (.cells #[.int .i64 g3, .int .i64 s3] 48))
  have H1 : Hid (Blk (((w.alloc (.cells #[.int .i64 g1, .int .i64 s1] 48)).alloc (.cells #[.int .i64 g2, .int .i64 s2] 48)).alloc (.cells #[.int .i64 g3, .int .i64 s3] 48)) w.heap.size #[.int .i64 g1, .int .i64 s1] 48) := Lib.hid (((Blk.new w #[.int .i64 g1, .int .i64 s1] 48).alloc _).alloc _)
  have H2 : Hid (Blk (((w.alloc (.cells #[.int .i64 g1, .int .i64 s1] 48)).alloc (.cells #[.int .i64 g2, .int .i64 s2] 48)).alloc (.cells #[.int .i64 g3, .int .i64 s3] 48)) (w.heap.size + 1) #[.int .i64 g2, .int .i64 s2] 48) := Lib.hid (by
    have := (Blk.new (w.alloc (.cells #[.int .i64 g1, .int .i64 s1] 48)) #[.int .i64 g2, .int .i64 s2] 48).alloc (.cells #[.int .i64 g3, .int .i64 s3] 48)
    rwa [show (w.alloc (.cells #[.int .i64 g1, .int .i64 s1] 48)).heap.size = w.heap.size + 1 by simp] at this)
  have H3 : Hid (Blk (((w.alloc (.cells #[.int .i64 g1, .int .i64 s1] 48)).alloc (.cells #[.int .i64 g2, .int .i64 s2] 48)).alloc (.cells #[.int .i64 g3, .int .i64 s3] 48)) (w.heap.size + 1 + 1) #[.int .i64 g3, .int .i64 s3] 48) := Lib.hid (by
    have := (Blk.new ((w.alloc (.cells #[.int .i64 g1, .int .i64 s1] 48)).alloc (.cells #[.int .i64 g2, .int .i64 s2] 48)) #[.int .i64 g3, .int .i64 s3] 48)
    rwa [show ((w.alloc (.cells #[.int .i64 g1, .int .i64 s1] 48)).alloc (.cells #[.int .i64 g2, .int .i64 s2] 48)).heap.size = w.heap.size + 1 + 1 by simp] at this)
  obtain ⟨l1, l2, l3⟩ := ri_law g1 s1 g2 s2 g3 s3
  obtain ⟨ab, hab⟩ : ∃ z, riB g1 s1 g2 s2 = z := ⟨_, rfl⟩
  obtain ⟨ba, hba⟩ : ∃ z, riB g2 s2 g1 s1 = z := ⟨_, rfl⟩
  obtain ⟨bc, hbc⟩ : ∃ z, riB g2 s2 g3 s3 = z := ⟨_, rfl⟩
  obtain ⟨ac, hac⟩ : ∃ z, riB g1 s1 g3 s3 = z := ⟨_, rfl⟩
  rw [hab, hba] at l1 l2
  rw [hab, hbc, hac] at l3
  have R1 := fun w => Lib.hid (hab ▸ risen_any g1 s1 g2 s2 w)
  have R2 := fun w => Lib.hid (hba ▸ risen_any g2 s2 g1 s1 w)
  have R3 := fun w => Lib.hid (hbc ▸ risen_any g2 s2 g3 s3 w)
  have R4 := fun w => Lib.hid (hac ▸ risen_any g1 s1 g3 s3 w)
  have L1 := Lib.hid l1
  have L2 := Lib.hid l2
  have L3 := Lib.hid l3
  clear l1 l2 l3 hab hba hbc hac
  go_enter Try.func9, Try.ntmps9
  go_upto_region 1 with (fail)
  generalize (((w.alloc (.cells #[.int .i64 g1, .int .i64 s1] 48)).alloc (.cells #[.int .i64 g2, .int .i64 s2] 48)).alloc (.cells #[.int .i64 g3, .int .i64 s3] 48)) = W at HK H1 H2 H3 ⊢
  generalize w.heap.size + 1 + 1 = p3 at H3 ⊢
  generalize w.heap.size + 1 = p2 at H2 ⊢
  generalize w.heap.size = p1 at H1 ⊢
  have C0 : (∀ i, W.drew.cell? ⟨p1, i, none⟩ = (#[.int .i64 g1, .int .i64 s1] : Array Value)[i]?) ∧ (∀ i, W.drew.cell? ⟨p2, i, none⟩ = (#[.int .i64 g2, .int .i64 s2] : Array Value)[i]?) ∧ (∀ i, W.drew.cell? ⟨p3, i, none⟩ = (#[.int .i64 g3, .int .i64 s3] : Array Value)[i]?) := ⟨H1.out.drew.cell, H2.out.drew.cell, H3.out.drew.cell⟩
  have K0 := Lib.hid (HK.out.trans (Upd.refl (fun _ => False) W).drew)
  have D0 := Lib.hid (And.intro H1.out.drew (And.intro H2.out.drew H3.out.drew))
  clear HK H1 H2 H3
  go_region_held3 (fun w' => (∀ i, w'.cell? ⟨p1, i, none⟩ = (#[.int .i64 g1, .int .i64 s1] : Array Value)[i]?) ∧ (∀ i, w'.cell? ⟨p2, i, none⟩ = (#[.int .i64 g2, .int .i64 s2] : Array Value)[i]?) ∧ (∀ i, w'.cell? ⟨p3, i, none⟩ = (#[.int .i64 g3, .int .i64 s3] : Array Value)[i]?))
    (first | exact C0 | exact C1 | exact C2)
    ((first
      | (go_at_call 27; with_reducible refine (R2 _).out.mono ?_; rintro e W2 ⟨rfl, hk⟩; have K2 := Lib.hid (K1.out.trans hk); have D2 := Lib.hid (And.intro (D1.out.1.kept hk) (And.intro (D1.out.2.1.kept hk) (D1.out.2.2.kept hk))); have C2 : (∀ i, W2.cell? ⟨p1, i, none⟩ = (#[.int .i64 g1, .int .i64 s1] : Array Value)[i]?) ∧ (∀ i, W2.cell? ⟨p2, i, none⟩ = (#[.int .i64 g2, .int .i64 s2] : Array Value)[i]?) ∧ (∀ i, W2.cell? ⟨p3, i, none⟩ = (#[.int .i64 g3, .int .i64 s3] : Array Value)[i]?) := ⟨D2.out.1.cell, D2.out.2.1.cell, D2.out.2.2.cell⟩; clear hk)
      | (go_at_call 27; with_reducible refine (R1 _).out.mono ?_; rintro e W1 ⟨rfl, hk⟩; have K1 := Lib.hid (K0.out.trans hk); have D1 := Lib.hid (And.intro (D0.out.1.kept hk) (And.intro (D0.out.2.1.kept hk) (D0.out.2.2.kept hk))); have C1 : (∀ i, W1.cell? ⟨p1, i, none⟩ = (#[.int .i64 g1, .int .i64 s1] : Array Value)[i]?) ∧ (∀ i, W1.cell? ⟨p2, i, none⟩ = (#[.int .i64 g2, .int .i64 s2] : Array Value)[i]?) ∧ (∀ i, W1.cell? ⟨p3, i, none⟩ = (#[.int .i64 g3, .int .i64 s3] : Array Value)[i]?) := ⟨D1.out.1.cell, D1.out.2.1.cell, D1.out.2.2.cell⟩; clear hk)))
  clear C0 C1 K0 K1 D0 D1 R1 R2
  obtain ⟨c1, c2, c3⟩ := C2
  rename_i hHeld
  clear hHeld
  cases ab with
  | false =>
    cases ba with
    | false =>
      obtain ⟨rfl, rfl⟩ : g1 = g2 ∧ s1 = s2 := by
        apply Classical.byContradiction
        intro h
        have := L2.out.2 h
        simp at this
      have K9 := K2
      clear L1 L2 L3 R3 R4
      go_wp2_with fail
      refine (awake20_any _).mono ?_
      rintro e Wz ⟨rfl, hk⟩
      have KZ := Lib.hid (K9.out.trans hk)
      clear hk
      go_wp2_with fail
      go_ret
      exact ⟨rfl, KZ.out⟩
    | true =>
      have hne : ¬ (g1 = g2 ∧ s1 = s2) := L2.out.1 rfl
      have K9 := K2
      clear L1 L2 L3 R3 R4
      by_cases hg : g1 = g2
      · subst hg
        have hs : ¬ s1 = s2 := fun e => hne ⟨rfl, e⟩
        clear hne
        go_wp2_with fail
        refine (awake20_any _).mono ?_
        rintro e Wz ⟨rfl, hk⟩
        have KZ := Lib.hid (K9.out.trans hk)
        clear hk
        go_wp2_with fail
        go_ret
        exact ⟨rfl, KZ.out⟩
      · clear hne
        go_wp2_with fail
        refine (awake20_any _).mono ?_
        rintro e Wz ⟨rfl, hk⟩
        have KZ := Lib.hid (K9.out.trans hk)
        clear hk
        go_wp2_with fail
        go_ret
        exact ⟨rfl, KZ.out⟩
  | true =>
    cases ba with
    | true => exact absurd L1.out (by simp)
    | false =>
      have hne : ¬ (g1 = g2 ∧ s1 = s2) := L2.out.1 rfl
      clear L1 L2
      by_cases hg : g1 = g2
      · subst hg
        have hs : ¬ s1 = s2 := fun e => hne ⟨rfl, e⟩
        clear hne
        go_wp2_with fail
        with_reducible refine (R3 _).out.mono ?_
        rintro e W3 ⟨rfl, hk⟩
        have K3 := Lib.hid (K2.out.trans hk)
        have D3 := Lib.hid (And.intro (D2.out.1.kept hk) (And.intro (D2.out.2.1.kept hk) (D2.out.2.2.kept hk)))
        clear hk c1 c2 c3
        obtain ⟨c1, c2, c3⟩ := And.intro D3.out.1.cell (And.intro D3.out.2.1.cell D3.out.2.2.cell)
        cases bc with
        | false =>
          have K9 := K3
          clear L3 R3 R4
          go_wp2_with fail
          refine (awake20_any _).mono ?_
          rintro e Wz ⟨rfl, hk⟩
          have KZ := Lib.hid (K9.out.trans hk)
          clear hk
          go_wp2_with fail
          go_ret
          exact ⟨rfl, KZ.out⟩
        | true =>
          have hac : ac = true := by
            have h := L3.out
            simpa using h
          subst hac
          clear L3
          go_wp2_with fail
          with_reducible refine (R4 _).out.mono ?_
          rintro e W4 ⟨rfl, hk⟩
          have K4 := Lib.hid (K3.out.trans hk)
          have D4 := Lib.hid (And.intro (D3.out.1.kept hk) (And.intro (D3.out.2.1.kept hk) (D3.out.2.2.kept hk)))
          clear hk c1 c2 c3
          obtain ⟨c1, c2, c3⟩ := And.intro D4.out.1.cell (And.intro D4.out.2.1.cell D4.out.2.2.cell)
          have K9 := K4
          clear R3 R4
          go_wp2_with fail
          refine (awake20_any _).mono ?_
          rintro e Wz ⟨rfl, hk⟩
          have KZ := Lib.hid (K9.out.trans hk)
          clear hk
          go_wp2_with fail
          go_ret
          exact ⟨rfl, KZ.out⟩
      · clear hne
        go_wp2_with fail
        with_reducible refine (R3 _).out.mono ?_
        rintro e W3 ⟨rfl, hk⟩
        have K3 := Lib.hid (K2.out.trans hk)
        have D3 := Lib.hid (And.intro (D2.out.1.kept hk) (And.intro (D2.out.2.1.kept hk) (D2.out.2.2.kept hk)))
        clear hk c1 c2 c3
        obtain ⟨c1, c2, c3⟩ := And.intro D3.out.1.cell (And.intro D3.out.2.1.cell D3.out.2.2.cell)
        cases bc with
        | false =>
          have K9 := K3
          clear L3 R3 R4
          go_wp2_with fail
          refine (awake20_any _).mono ?_
          rintro e Wz ⟨rfl, hk⟩
          have KZ := Lib.hid (K9.out.trans hk)
          clear hk
          go_wp2_with fail
          go_ret
          exact ⟨rfl, KZ.out⟩
        | true =>
          have hac : ac = true := by
            have h := L3.out
            simpa using h
          subst hac
          clear L3
          go_wp2_with fail
          with_reducible refine (R4 _).out.mono ?_
          rintro e W4 ⟨rfl, hk⟩
          have K4 := Lib.hid (K3.out.trans hk)
          have D4 := Lib.hid (And.intro (D3.out.1.kept hk) (And.intro (D3.out.2.1.kept hk) (D3.out.2.2.kept hk)))
          clear hk c1 c2 c3
          obtain ⟨c1, c2, c3⟩ := And.intro D4.out.1.cell (And.intro D4.out.2.1.cell D4.out.2.2.cell)
          have K9 := K4
          clear R3 R4
          go_wp2_with fail
          refine (awake20_any _).mono ?_
          rintro e Wz ⟨rfl, hk⟩
          have KZ := Lib.hid (K9.out.trans hk)
          clear hk
          go_wp2_with fail
          go_ret
          exact ⟨rfl, KZ.out⟩
end Go.Proofs.Yticeionjlknlcaa
