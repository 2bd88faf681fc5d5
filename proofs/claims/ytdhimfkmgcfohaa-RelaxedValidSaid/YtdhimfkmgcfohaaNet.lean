/- Nets: rows of arcs, as lists; how much of a sum is left. No walk. -/
import Derived.Test.YtdhimfkmgcfohaaProg
import Derived.Test.YtdhimfkmgcfohaaRd
namespace Go.Proofs.Ytdhimfkmgcfohaa
set_option linter.unusedVariables false
open Go.RowKit

/-- An arc: from, to, capacity. -/
structure Ar where
  f : Int
  t : Int
  c : Int
deriving DecidableEq
def Ar.vals (a : Ar) : List Value := [.int .i64 a.f, .int .i64 a.t, .int .i64 a.c]
/-- The cells of a row of arcs. -/
def acells : List Ar → List Value
  | [] => []
  | a :: ys => .int .i64 a.f :: .int .i64 a.t :: .int .i64 a.c :: acells ys
theorem acells_len : ∀ ys : List Ar, (acells ys).length = ys.length * 3
  | [] => rfl
  | a :: ys => by simp [acells, acells_len ys]; omega
theorem acells_at : ∀ (ys : List Ar) (k : Nat) (h : k < ys.length), (acells ys)[k * 3]? = some (.int .i64 ys[k].f) ∧ (acells ys)[k * 3 + 1]? = some (.int .i64 ys[k].t) ∧ (acells ys)[k * 3 + 2]? = some (.int .i64 ys[k].c)
  | [], k, h => by simp at h
  | a :: ys, 0, h => ⟨rfl, rfl, rfl⟩
  | a :: ys, k + 1, h => by
    have := acells_at ys k (by simpa using h)
    have e : (k + 1) * 3 = k * 3 + 3 := by omega
    rw [e]
    simpa [acells] using this
theorem acells_append : ∀ ys bs : List Ar, acells (ys ++ bs) = acells ys ++ acells bs
  | [], bs => rfl
  | a :: ys, bs => by simp [acells, acells_append ys bs]
theorem acells_one (ys : List Ar) : ∀ v ∈ acells ys, v.oneCell' = true := by
  induction ys with
  | nil => simp [acells]
  | cons a ys ih => intro v hv; simp [acells] at hv; rcases hv with rfl | rfl | rfl | hv; rfl; rfl; rfl; exact ih v hv
theorem acells_take : ∀ (ys : List Ar) (k : Nat), acells (ys.take k) = (acells ys).take (k * 3)
  | [], k => by simp [acells]
  | a :: ys, 0 => by simp [acells]
  | a :: ys, k + 1 => by
    have e : (k + 1) * 3 = k * 3 + 1 + 1 + 1 := by omega
    rw [e]
    simp [acells, acells_take ys k]
theorem acells_drop : ∀ (ys : List Ar) (k : Nat), acells (ys.drop k) = (acells ys).drop (k * 3)
  | [], k => by simp [acells]
  | a :: ys, 0 => by simp [acells]
  | a :: ys, k + 1 => by
    have e : (k + 1) * 3 = k * 3 + 1 + 1 + 1 := by omega
    rw [e]
    simp [acells, acells_drop ys k]
/-- The slice at a reads as these arcs. -/
def Ars (w : World) (a : Option Addr) (ys : List Ar) : Prop := Rd w a (acells ys)
theorem Ars.kept {w w' : World} {a : Option Addr} {ys : List Ar} (h : Ars w a ys) (hk : Kept w w') : Ars w' a ys := Rd.kept h hk
/-- An arc's three cells. -/
theorem Ars.at {w : World} {a : Option Addr} {ys : List Ar} (h : Ars w a ys) (k : Nat) (hk : k < ys.length) : ∃ b off, a = some ⟨b, off, none⟩ ∧
    w.cell? ⟨b, off + k * 3, none⟩ = some (.int .i64 ys[k].f) ∧ w.cell? ⟨b, off + k * 3 + 1, none⟩ = some (.int .i64 ys[k].t) ∧ w.cell? ⟨b, off + k * 3 + 2, none⟩ = some (.int .i64 ys[k].c) := by
  obtain ⟨h0, h1, h2⟩ := acells_at ys k hk
  rcases h with h | ⟨b, off, rfl, hc⟩
  · rw [h] at h0; simp at h0
  · exact ⟨b, off, rfl, hc _ _ h0, by rw [Nat.add_assoc]; exact hc _ _ h1, by rw [Nat.add_assoc]; exact hc _ _ h2⟩
theorem Ars.nil (w : World) (a : Option Addr) : Ars w a [] := .inl rfl
theorem Ars.some {w : World} {a : Option Addr} {ys : List Ar} (h : Ars w a ys) (hn : ys ≠ []) : ∃ b off, a = some ⟨b, off, none⟩ := by
  rcases h with h | ⟨b, off, rfl, _⟩
  · cases ys with | nil => exact absurd rfl hn | cons _ _ => simp [acells] at h
  · exact ⟨b, off, rfl⟩
theorem Ars.take {w : World} {a : Option Addr} {ys : List Ar} (h : Ars w a ys) (k : Nat) : Ars w a (ys.take k) := by
  rcases h with h | ⟨b, off, rfl, hc⟩
  · refine .inl ?_; rw [acells_take, h]; simp
  · refine .inr ⟨b, off, rfl, fun i u hu => hc i u ?_⟩
    rw [acells_take, List.getElem?_take] at hu
    split at hu
    · exact hu
    · cases hu
/-- What came in: a row of arcs. -/
theorem ars_of_flat {w : World} {a : Option Addr} {cap : Nat} {els : List (List Value)} (h : FlatRow [some .i64, some .i64, some .i64] w a cap els) :
    ∃ ys : List Ar, ys.length = els.length ∧ Ars w a ys ∧ ∀ x ∈ ys, (Lit.int .i64 x.f).wf = true ∧ (Lit.int .i64 x.t).wf = true ∧ (Lit.int .i64 x.c).wf = true := by
  have key : ∀ els : List (List Value), (∀ e ∈ els, fits [some .i64, some .i64, some .i64] e) → ∃ ys : List Ar, ys.length = els.length ∧ (∀ x ∈ ys, (Lit.int .i64 x.f).wf = true ∧ (Lit.int .i64 x.t).wf = true ∧ (Lit.int .i64 x.c).wf = true) ∧
      ∀ i (hi : i < els.length) (hi' : i < ys.length), els[i] = ys[i].vals := by
    intro els
    induction els with
    | nil => intro _; exact ⟨[], rfl, by simp, fun i hi => by simp at hi⟩
    | cons e es ih =>
      intro hf
      obtain ⟨ys, hl, hw, hg⟩ := ih (fun x hx => hf x (List.mem_cons_of_mem _ hx))
      obtain ⟨x1, u1, e1, h1, f1⟩ := fits_int (hf e (by simp))
      obtain ⟨x2, u2, e2, h2, f2⟩ := fits_int f1
      obtain ⟨x3, u3, e3, h3, f3⟩ := fits_int f2
      refine ⟨⟨x1, x2, x3⟩ :: ys, by simp [hl], ?_, ?_⟩
      · intro x hx
        simp at hx
        rcases hx with rfl | hx
        · exact ⟨h1, h2, h3⟩
        · exact hw x hx
      · intro i hi hi'
        cases i with
        | zero => simp [Ar.vals, e1, e2, e3, fits_nil f3]
        | succ i => simpa using hg i (by simpa using hi) (by simpa using hi')
  obtain ⟨ys, hl, hw, hg⟩ := key els h.fit
  refine ⟨ys, hl, ?_, hw⟩
  rcases h.cells with h0 | ⟨b, off, rfl, hc⟩
  · refine .inl ?_
    have : ys = [] := List.eq_nil_of_length_eq_zero (by omega)
    rw [this]; rfl
  · refine .inr ⟨b, off, rfl, fun i u hu => ?_⟩
    have hi : i < ys.length * 3 := by rw [← acells_len]; exact (List.getElem?_eq_some_iff.1 hu).1
    obtain ⟨q, r, rfl, hr⟩ : ∃ q r, i = q * 3 + r ∧ r < 3 := ⟨i / 3, i % 3, by omega, by omega⟩
    have hk : q < ys.length := by omega
    have hat := acells_at ys q hk
    have hv := hc q (by omega) r
    rw [hg q (by omega) hk] at hv
    have hm : r = 0 ∨ r = 1 ∨ r = 2 := by omega
    rcases hm with rfl | rfl | rfl
    · rw [Nat.add_zero, hat.1] at hu
      cases hu
      simpa using hv _ rfl
    · rw [hat.2.1] at hu
      cases hu
      rw [← Nat.add_assoc]; exact hv _ rfl
    · rw [hat.2.2] at hu
      cases hu
      rw [← Nat.add_assoc]; exact hv _ rfl
/-- What is left of l behind all capacities; none: one is below 0, or they are too much. -/
def leftOf : List Ar → Int → Option Int
  | [], l => some l
  | a :: ys, l => if a.c < 0 ∨ l < a.c then none else leftOf ys (l - a.c)
def capsOf : List Ar → Int
  | [] => 0
  | a :: ys => a.c + capsOf ys
theorem leftOf_some : ∀ (ys : List Ar) (l : Int), 0 ≤ l → ((∀ a ∈ ys, 0 ≤ a.c) ∧ capsOf ys ≤ l) → leftOf ys l = some (l - capsOf ys)
  | [], l, _, _ => by simp [leftOf, capsOf]
  | a :: ys, l, hl, ⟨h, hs⟩ => by
    have h0 := h a (by simp)
    have hr : ∀ x ∈ ys, 0 ≤ x.c := fun x hx => h x (List.mem_cons_of_mem _ hx)
    have hp : ∀ l : List Ar, (∀ x ∈ l, 0 ≤ x.c) → 0 ≤ capsOf l := by
      intro l; induction l with
      | nil => intro _; exact Int.le_refl _
      | cons x xs ih => intro hx; have := ih (fun y hy => hx y (List.mem_cons_of_mem _ hy)); have := hx x (by simp); simp only [capsOf]; omega
    have h1 := hp ys hr
    simp only [capsOf] at hs ⊢
    unfold leftOf
    rw [if_neg (by omega), leftOf_some ys (l - a.c) (by omega) ⟨hr, by omega⟩]
    congr 1; omega
theorem leftOf_inv : ∀ (ys : List Ar) (l m : Int), leftOf ys l = some m → (∀ a ∈ ys, 0 ≤ a.c) ∧ m = l - capsOf ys ∧ (0 ≤ l → 0 ≤ m)
  | [], l, m, h => by simp [leftOf] at h; subst h; simp [capsOf]
  | a :: ys, l, m, h => by
    unfold leftOf at h
    split at h
    · cases h
    · rename_i hn
      obtain ⟨h1, h2, h3⟩ := leftOf_inv ys _ _ h
      refine ⟨fun x hx => ?_, ?_, fun hl => h3 (by omega)⟩
      · simp at hx; rcases hx with rfl | hx; omega; exact h1 x hx
      · simp only [capsOf]; omega
/-- What all capacities are: told, and whether they may be. -/
def sumT (ys : List Ar) : Int := match leftOf ys 4611686018427387904 with | none => 0 | some l => 4611686018427387904 - l
def sumB (ys : List Ar) : Bool := (leftOf ys 4611686018427387904).isSome
end Go.Proofs.Ytdhimfkmgcfohaa
