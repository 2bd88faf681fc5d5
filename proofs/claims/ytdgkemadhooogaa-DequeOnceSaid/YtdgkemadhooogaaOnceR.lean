/- The log: what was put, got, stolen; all sides together. Plain. -/
import Derived.Test.YtdgkemadhooogaaOnceQ
namespace Go.Proofs.Ytdgkemadhooogaa
set_option linter.unusedVariables false
set_option linter.unusedSimpArgs false
open Go.RowKit

structure LogI (nx : Int) (P G S L pend : List Int) (o : Option Sd) : Prop where
  srt : P.Pairwise (· < ·)
  le : ∀ x ∈ P, 1 ≤ x ∧ x ≤ nx
  new : ∀ v mb m lo, o = some ⟨.push v, mb, m, lo⟩ → v = nx ∧ 1 ≤ v ∧ ∀ x ∈ P, x < v
  perm : P.Perm (G ++ (L ++ pend))
  ssrt : (S ++ L).Pairwise (· < ·)
  sub : ∀ x ∈ S, x ∈ G
def evP (kd : Kd) (s : KS) (P : List Int) : List Int := match kd with
  | .push v => if s.m.done && s.m.got then P ++ [v] else P
  | _ => P
def evG (kd : Kd) (s : KS) (G : List Int) : List Int := match kd with
  | .push _ => G
  | _ => if s.m.done && s.m.got then G ++ [s.m.x] else G
def evS (kd : Kd) (s : KS) (S : List Int) : List Int := match kd with
  | .steal => if s.m.done && s.m.got then S ++ [s.m.x] else S
  | _ => S
section
variable {nx : Int} {P G S L L' pend pend' : List Int} {o o' : Option Sd}
/-- A thief has the first one. -/
theorem LogI.stolen {x : Int} (h : LogI nx P G S (x :: L') pend o) : LogI nx P (G ++ [x]) (S ++ [x]) L' pend o := by
  refine ⟨h.srt, h.le, h.new, ?_, ?_, fun y hy => ?_⟩
  · have := h.perm
    simpa using this
  · have := h.ssrt
    simpa using this
  · rcases List.mem_append.1 hy with e | e
    · exact List.mem_append_left _ (h.sub y e)
    · exact List.mem_append_right _ e
/-- The owner's step. -/
theorem LogI.owner {kd : Kd} {mb : Nat} {m : DM} {lo : Bool} {s : KS} (h : LogI nx P G S L pend (some ⟨kd, mb, m, lo⟩)) (hk : kd ≠ .steal) (he : OwnEv kd s L L' pend pend') : LogI nx (evP kd s P) (evG kd s G) (evS kd s S) L' pend' (OwnNew kd mb s) := by
  cases kd with
  | steal => exact (hk rfl).elim
  | push v =>
    obtain ⟨rfl, rfl, he⟩ := he
    obtain ⟨hv, hv1, hlt⟩ := h.new v mb m lo rfl
    rcases he with ⟨h1, h2, rfl⟩ | ⟨rfl, h2⟩
    · have eP : evP (.push v) s P = P ++ [v] := by simp [evP, h1, h2]
      rw [eP]
      have hperm := h.perm
      rw [List.append_nil] at hperm
      refine ⟨?_, fun x hx => ?_, fun v' mb' m' lo' e => ?_, ?_, ?_, h.sub⟩
      · rw [List.pairwise_append]
        exact ⟨h.srt, by simp, fun x hx y hy => by obtain rfl := List.mem_singleton.1 hy; exact hlt x hx⟩
      · rcases List.mem_append.1 hx with e | e
        · exact h.le x e
        · obtain rfl := List.mem_singleton.1 e; omega
      · simp [OwnNew, h1] at e
      · show (P ++ [v]).Perm (G ++ (L ++ [v] ++ []))
        rw [List.append_nil, ← List.append_assoc]
        exact hperm.append_right [v]
      · rw [← List.append_assoc, List.pairwise_append]
        refine ⟨h.ssrt, by simp, fun x hx y hy => ?_⟩
        obtain rfl := List.mem_singleton.1 hy
        refine hlt x (hperm.mem_iff.2 ?_)
        rcases List.mem_append.1 hx with e | e
        · exact List.mem_append_left _ (h.sub x e)
        · exact List.mem_append_right _ e
    · have eP : evP (.push v) s P = P := by
        unfold evP
        simp only
        by_cases hd : s.m.done = true
        · simp [h2 hd]
        · simp [hd]
      rw [eP]
      refine ⟨h.srt, h.le, fun v' mb' m' lo' e => ?_, h.perm, h.ssrt, h.sub⟩
      unfold OwnNew at e
      split at e
      · cases e
      · cases e
        exact ⟨hv, hv1, hlt⟩
  | pop =>
    obtain ⟨hs, he⟩ := he
    have hnew : ∀ v' mb' m' lo', OwnNew .pop mb s = some ⟨.push v', mb', m', lo'⟩ → v' = nx ∧ 1 ≤ v' ∧ ∀ x ∈ P, x < v' := by
      intro v' mb' m' lo' e
      unfold OwnNew at e
      split at e <;> cases e
    have hss := h.ssrt.sublist (hs.append_left S)
    rcases he with ⟨h1, h2, hp⟩ | ⟨h2, hp⟩
    · have eG : evG .pop s G = G ++ [s.m.x] := by simp [evG, h1, h2]
      rw [eG]
      refine ⟨h.srt, h.le, hnew, h.perm.trans ?_, hss, fun y hy => List.mem_append_left _ (h.sub y hy)⟩
      refine (hp.append_left G).trans ?_
      rw [List.append_assoc G [s.m.x]]
      exact (List.perm_append_comm (l₁ := L' ++ pend') (l₂ := [s.m.x])).append_left G
    · have eG : evG .pop s G = G := by
        unfold evG
        simp only
        by_cases hd : s.m.done = true
        · simp [h2 hd]
        · simp [hd]
      rw [eG]
      exact ⟨h.srt, h.le, hnew, h.perm.trans (hp.append_left G), hss, h.sub⟩
/-- Two rising rows of the same numbers. -/
theorem rising_ext : ∀ (l1 l2 : List Int), l1.Pairwise (· < ·) → l2.Pairwise (· < ·) → (∀ x, x ∈ l1 ↔ x ∈ l2) → l1 = l2
  | [], [], _, _, _ => rfl
  | [], b :: l2, _, _, h => by have := (h b).2 (by simp); simp at this
  | a :: l1, [], _, _, h => by have := (h a).1 (by simp); simp at this
  | a :: l1, b :: l2, h1, h2, h => by
    rw [List.pairwise_cons] at h1 h2
    have e : a = b := by
      rcases List.mem_cons.1 ((h a).1 (by simp)) with e | e
      · exact e
      · rcases List.mem_cons.1 ((h b).2 (by simp)) with e2 | e2
        · exact e2.symm
        · have := h2.1 a e; have := h1.1 b e2; omega
    subst e
    congr 1
    refine rising_ext l1 l2 h1.2 h2.2 fun x => ⟨fun hx => ?_, fun hx => ?_⟩
    · rcases List.mem_cons.1 ((h x).1 (List.mem_cons_of_mem _ hx)) with e | e
      · subst e; have := h1.1 x hx; omega
      · exact e
    · rcases List.mem_cons.1 ((h x).2 (List.mem_cons_of_mem _ hx)) with e | e
      · subst e; have := h2.1 x hx; omega
      · exact e
theorem rising_nodup {l : List Int} (h : l.Pairwise (· < ·)) : l.Nodup := h.imp fun h e => by omega
/-- At the end: what was put, and not got, is held. -/
theorem LogI.left (h : LogI nx P G S L [] o) : P.filter (fun v => !(G.contains v)) = L ∧ G.Nodup ∧ (∀ x ∈ G, x ∈ P) ∧ S.Pairwise (· < ·) := by
  have hp := h.perm
  rw [List.append_nil] at hp
  have hnd := hp.nodup_iff.1 (rising_nodup h.srt)
  rw [List.nodup_append] at hnd
  obtain ⟨n1, n2, n3⟩ := hnd
  have hs := List.pairwise_append.1 h.ssrt
  refine ⟨rising_ext _ _ (h.srt.sublist List.filter_sublist) hs.2.1 fun x => ?_, n1, fun x hx => hp.mem_iff.2 (List.mem_append_left _ hx), hs.1⟩
  rw [List.mem_filter, hp.mem_iff, List.mem_append]
  simp only [Bool.not_eq_true', List.contains_eq_mem, decide_eq_false_iff_not]
  constructor
  · rintro ⟨h1 | h1, h2⟩
    · exact absurd h1 h2
    · exact h1
  · intro h1
    exact ⟨.inr h1, fun h2 => n3 x h2 x h1 rfl⟩
end
/-- All sides, and the log. -/
structure DI (nx n : Int) (tp r : Nat) (P G S : List Int) (T : Int) (L xs : List Int) (o : Option Sd) (sides : List (Option Sd)) : Prop where
  row : RowB tp r xs T L (ownDn o)
  own : OwnS tp r xs T L o
  th : ∀ i x, 1 ≤ i → sides[i]? = some x → ThfS T L (ownSure o) x
  len : sides.length = 5
  ho : sides[0]? = some o
  log : LogI nx P G S L (ownPend o) o
  bd : T + L.length ≤ n ∧ 0 ≤ nx ∧ nx ≤ n
theorem DI.step {nx n : Int} {tp r : Nat} {P G S : List Int} {T : Int} {L xs : List Int} {o : Option Sd} {sides : List (Option Sd)} (h : DI nx n tp r P G S T L xs o sides) (hn : n ≤ 999) {i : Nat} {d : Sd} (hd : sides[i]? = some (some d)) :
    KInv tp d.kd ⟨d.m, d.lo, xs⟩ ∧ ∃ T' L' o', DI nx (n + 1) tp r (evP d.kd (kstep tp r d.kd ⟨d.m, d.lo, xs⟩) P) (evG d.kd (kstep tp r d.kd ⟨d.m, d.lo, xs⟩) G) (evS d.kd (kstep tp r d.kd ⟨d.m, d.lo, xs⟩) S) T' L' (kstep tp r d.kd ⟨d.m, d.lo, xs⟩).xs o' (sides.set i (OwnNew d.kd d.mb (kstep tp r d.kd ⟨d.m, d.lo, xs⟩))) := by
  have hl := (List.getElem?_eq_some_iff.1 hd).1
  have hb := h.bd
  obtain ⟨kd, mb, m, lo⟩ := d
  by_cases hi : i = 0
  · subst hi
    have hho := h.ho
    rw [hd] at hho
    obtain rfl := Option.some.inj hho
    have hk : kd ≠ .steal := fun e => by subst e; exact h.own.2
    obtain ⟨h1, T', L', a1, a2, a3, a4, a5, a6⟩ := own_once (by omega) kd m mb lo h.row h.own
    refine ⟨h1, T', L', _, a1, a2, fun j x hj hx => ?_, by rw [List.length_set]; exact h.len, List.getElem?_set_self hl, h.log.owner hk a6, by omega⟩
    rw [List.getElem?_set_ne (by omega)] at hx
    exact a3 x (h.th j x hj hx)
  · have hT := h.th i _ (by omega) hd
    obtain rfl : kd = .steal := hT.2.1
    obtain ⟨h1, T', L', a1, a2, a3, a4, a5⟩ := thf_once h.row h.own (by omega) m mb lo hT
    have hlog : LogI nx P (evG .steal (kstep tp r .steal ⟨m, lo, xs⟩) G) (evS .steal (kstep tp r .steal ⟨m, lo, xs⟩) S) L' (ownPend o) o ∧ T' + L'.length ≤ T + L.length := by
      rcases a5 with ⟨rfl, rfl, q⟩ | ⟨rfl, e, q1, q2⟩
      · have e1 : evG .steal (kstep tp r .steal ⟨m, lo, xs⟩) G = G := by
          unfold evG
          simp only
          by_cases hd : (kstep tp r .steal ⟨m, lo, xs⟩).m.done = true
          · simp [q hd]
          · simp [hd]
        have e2 : evS .steal (kstep tp r .steal ⟨m, lo, xs⟩) S = S := by
          unfold evS
          simp only
          by_cases hd : (kstep tp r .steal ⟨m, lo, xs⟩).m.done = true
          · simp [q hd]
          · simp [hd]
        rw [e1, e2]
        exact ⟨h.log, Int.le_refl _⟩
      · have e1 : evG .steal (kstep tp r .steal ⟨m, lo, xs⟩) G = G ++ [(kstep tp r .steal ⟨m, lo, xs⟩).m.x] := by simp [evG, q1, q2]
        have e2 : evS .steal (kstep tp r .steal ⟨m, lo, xs⟩) S = S ++ [(kstep tp r .steal ⟨m, lo, xs⟩).m.x] := by simp [evS, q1, q2]
        rw [e1, e2]
        have hlg := h.log
        rw [e] at hlg
        exact ⟨hlg.stolen, by rw [e]; simp; omega⟩
    refine ⟨h1, T', L', o, a1, a2, fun j x hj hx => ?_, by rw [List.length_set]; exact h.len, by rw [List.getElem?_set_ne hi]; exact h.ho, hlog.1, by have := hlog.2; omega⟩
    rw [List.getElem?_set] at hx
    split at hx
    · rename_i e
      subst e
      cases hx
      unfold OwnNew
      split
      · trivial
      · rename_i hnd
        exact a3 (by simpa using hnd)
    · exact a4 x (h.th j x hj hx)
end Go.Proofs.Ytdgkemadhooogaa
