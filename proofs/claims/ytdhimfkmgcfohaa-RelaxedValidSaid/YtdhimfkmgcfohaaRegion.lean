/- A region that draws its order, by one invariant: each operation is shown once, whatever came up ahead of it. No program in sight. -/
import Derived.Test.YtdhimfkmgcfohaaBase
import Derived.Deep.RegionHeld3
namespace Go.Proofs.Ytdhimfkmgcfohaa
set_option linter.unusedVariables false
open Go.RowKit

def putAll (a : Act) : List Nat → List Value → Act
  | [], _ => a
  | _, [] => a
  | d :: ds, v :: vs => putAll (a.put (some d) v) ds vs
theorem wpAny_inv {P : Program} {md : Region.Mode} {ops : Array Oper} {Q : Exit → Act → World → Prop} {J : Array Bool → Act → World → Prop}
    (hstep : ∀ i l a w, J l a w → i ∈ Region.ready md ops l → wpOp P ops Q i (fun a' w' => J (l.setIfInBounds i true) a' w') a w)
    (hend : ∀ l a w, J l a w → Region.ready md ops l = [] → Q .normal a w) :
    ∀ (fuel : Nat) (l : Array Bool) (a : Act) (w : World), l.toList.count false ≤ fuel → J l a w → wpAny P md ops Q fuel l a w
  | 0, l, a, w, hc, h => by
    have hr : Region.ready md ops l = [] := by
      apply List.eq_nil_iff_forall_not_mem.2
      intro j hj
      have h1 := (mem_ready.1 hj).1
      have : false ∈ l.toList := by
        rw [Array.getD_eq_getD_getElem?] at h1
        cases hg : l[j]? with
        | none => rw [hg] at h1; cases h1
        | some b =>
          rw [hg] at h1
          simp at h1
          subst h1
          exact List.mem_of_getElem? (by simpa using hg)
      have := List.count_pos_iff.2 this
      omega
    exact ⟨hr, hend l a w h hr⟩
  | fuel + 1, l, a, w, hc, h => by
    refine ⟨fun hr => hend l a w h hr, fun i hi => wpOp_mono (fun a' w' h' => wpAny_inv hstep hend fuel _ a' w' ?_ h') (hstep i l a w h hi)⟩
    have h1 := (mem_ready.1 hi).1
    rw [Array.getD_eq_getD_getElem?] at h1
    cases hg : l[i]? with
    | none => rw [hg] at h1; cases h1
    | some b =>
      rw [hg] at h1
      simp at h1
      subst h1
      obtain ⟨hi1, hi2⟩ := Array.getElem?_eq_some_iff.1 hg
      have e : (l.setIfInBounds i true).toList = l.toList.set i true := by simp
      rw [e, List.count_set (by simpa using hi1)]
      have : 0 < l.toList.count false := List.count_pos_iff.2 (List.mem_of_getElem? (by simpa using hg))
      have e2 : l.toList[i]'(by simpa using hi1) = false := by simpa using hi2
      rw [e2, if_pos (by rfl), if_neg (by decide)]
      omega
/-- Does each operation wait for earlier ones alone? -/
def inOrder (md : Region.Mode) (ops : Array Oper) : Bool := (List.range ops.size).all fun i => ((ops[i]?).map fun o => o.after.all fun e => !Region.binds md e || decide (e.on < i)).getD true
theorem all_listed {md : Region.Mode} {ops : Array Oper} {l : Array Bool} (ho : inOrder md ops = true) (hs : l.size = ops.size) (hr : Region.ready md ops l = []) : ∀ j, l.getD j true = true := by
  intro j
  induction j using Nat.strongRecOn with
  | _ j ih =>
    cases h : l.getD j true with
    | true => rfl
    | false =>
      exfalso
      have hj : j < ops.size := by
        rcases Nat.lt_or_ge j ops.size with h1 | h1
        · exact h1
        · rw [Array.getD_eq_getD_getElem?, Array.getElem?_eq_none (by omega)] at h; cases h
      have hm : j ∈ Region.ready md ops l := by
        refine mem_ready.2 ⟨h, ops[j], by simp [hj], fun e he hb => ?_⟩
        have h2 := List.all_eq_true.1 ho j (List.mem_range.2 hj)
        simp only [Array.getElem?_eq_getElem hj, Option.map_some, Option.getD_some] at h2
        have h3 : e.on < j := by
          have := Array.all_eq_true_iff_forall_mem.1 h2 e he
          simpa [hb] using this
        have h4 := ih e.on h3
        rw [Array.getD_eq_getD_getElem?] at h4 ⊢
        rw [Array.getElem?_eq_getElem (show e.on < l.size by omega)] at h4 ⊢
        simpa using h4
      rw [hr] at hm
      cases hm
/-- A region that draws: I is shown of the beginning, behind each operation that may come up, and leads on at the end. ds: the slots that the region writes. -/
theorem wp_region_inv {P : Program} {id : Nat} {ops : Array Oper} {Q : Exit → Act → World → Prop} {a : Act} {w : World} (I : Array Bool → List Value → World → Prop) (ds : List Nat) (vs : List Value)
    (hm : P.follows .mixedOrders = true) (ho : inOrder .any ops = true) (ha : a = putAll a ds vs) (h0 : I (Array.replicate ops.size false) vs w.drew)
    (hstep : ∀ i l us W, I l us W → i ∈ Region.ready .any ops l → wpOp P ops Q i (fun a' w' => ∃ us', a' = putAll a ds us' ∧ I (l.setIfInBounds i true) us' w') (putAll a ds us) W)
    (hend : ∀ l us W, I l us W → (∀ j, l.getD j true = true) → Q .normal (putAll a ds us) W) : (Code.region id ops true).wp P Q a w := by
  refine wp_region_any hm (wpAny_inv (J := fun l a' w' => l.size = ops.size ∧ ∃ us, a' = putAll a ds us ∧ I l us w') ?_ ?_ ops.size _ a _ ?_ ⟨by simp, vs, ha, h0⟩)
  · rintro i l _ W ⟨hs, us, rfl, h⟩ hi
    exact wpOp_mono (fun _ _ h' => ⟨by simpa using hs, h'⟩) (hstep i l us W h hi)
  · rintro l _ W ⟨hs, us, rfl, h⟩ hr
    exact hend l us W h (all_listed ho hs hr)
  · simp
/-- What an operation that may come up tells of those that came up. -/
theorem ready_at {md : Region.Mode} {ops : Array Oper} {l : Array Bool} {i : Nat} {o : Oper} (h : i ∈ Region.ready md ops l) (ho : ops[i]? = some o) :
    l.getD i true = false ∧ ∀ e ∈ o.after, Region.binds md e = true → l.getD e.on false = true := by
  obtain ⟨h1, o', ho', h2⟩ := mem_ready.1 h
  rw [ho] at ho'
  cases ho'
  exact ⟨h1, h2⟩
theorem ready_lt {md : Region.Mode} {ops : Array Oper} {l : Array Bool} {i : Nat} (h : i ∈ Region.ready md ops l) : i < ops.size := List.mem_range.1 (List.mem_filter.1 h).1
end Go.Proofs.Ytdhimfkmgcfohaa
