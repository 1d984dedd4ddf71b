/-
  What TopApart compares: the text with another content in its isolate. Plain laws: no walk.
-/
import Derived.Test.YtjnidopbdjbbgaaGreatA23
namespace Go.Proofs.YtjnidopbdjbbgaaGreat
open Go.RowKit
set_option linter.unusedVariables false

theorem known_begins (c : Nat) : begins (knownOf c) = begins c := by
  unfold knownOf
  split
  · rfl
  · rw [Bool.eq_iff_iff]
    simp [begins]
    omega
theorem known_23 (c : Nat) : knownOf c = 23 ↔ c = 23 := by unfold knownOf; split <;> omega
theorem known_11 (c : Nat) : knownOf c = 11 ↔ c = 11 := by unfold knownOf; split <;> omega
theorem depthC_known (l : List Nat) : ∀ d, depthC d (l.map knownOf) = depthC d l := by
  induction l with
  | nil => intro d; rfl
  | cons c l ih =>
    intro d
    rw [List.map_cons, depthC, depthC, known_begins]
    simp only [known_23, known_11, ih]
theorem depthC_no (l : List Nat) : ∀ (d k : Nat), depthC d l = some k → 11 ∉ l := by
  induction l with
  | nil => intro d k _ h; cases h
  | cons c l ih =>
    intro d k h hm
    rw [depthC] at h
    by_cases hb : begins c = true
    · rw [if_pos hb] at h
      rcases List.mem_cons.1 hm with rfl | hm
      · simp [begins] at hb
      · exact ih _ _ h hm
    · rw [if_neg hb] at h
      by_cases h23 : c = 23
      · rw [if_pos h23] at h
        split at h
        · cases h
        · rcases List.mem_cons.1 hm with e | hm
          · omega
          · exact ih _ _ h hm
      · rw [if_neg h23] at h
        by_cases h11 : c = 11
        · rw [if_pos h11] at h; cases h
        · rw [if_neg h11] at h
          rcases List.mem_cons.1 hm with e | hm
          · omega
          · exact ih _ _ h hm
theorem known_ok {l : List Nat} : ∀ x ∈ l.map knownOf, 1 ≤ x ∧ x ≤ 23 := by
  intro x hx
  obtain ⟨y, _, rfl⟩ := List.mem_map.1 hx
  unfold knownOf
  split <;> omega
theorem isoT_map (A : List Nat) (c : Nat) (I Z : List Nat) (hc : begins c = true) : (isoT A c I Z).map knownOf = isoT (A.map knownOf) c (I.map knownOf) (Z.map knownOf) := by
  unfold isoT
  have : knownOf c = c := by
    simp only [begins, Bool.or_eq_true, beq_iff_eq] at hc
    unfold knownOf
    rw [if_pos (by omega)]
  rw [List.map_append, List.map_cons, List.map_append, List.map_cons, this]
  rfl
/-- The text with the other content. -/
def otherOf (l inner : List Nat) (p q : Nat) : List Nat := l.take (p + 1) ++ inner ++ l.drop q
theorem other_known {b : Int} {l inner : List Nat} {p q : Nat} (hb : begins (l.getD p 0) = true) (hm : (matchOf l).getD p 0 = (q : Int)) (hq : q < l.length) (hw : wholeB inner = true) (hn : l.length ≤ 1048576) (hlast : lastB (l.map knownOf) = true)
    (h123 : (engineOf b (l.map knownOf)).getD p 0 ≤ 123) :
    lastB ((otherOf l inner p q).map knownOf) = true ∧ ((otherOf l inner p q).length ≤ 1048576 → baseOf b ((otherOf l inner p q).map knownOf) = baseOf b (l.map knownOf) ∧
      (engineOf b ((otherOf l inner p q).map knownOf)).take (p + 1) = (engineOf b (l.map knownOf)).take (p + 1) ∧ (engineOf b ((otherOf l inner p q).map knownOf)).drop (p + 1 + inner.length) = (engineOf b (l.map knownOf)).drop q) ∧
      (otherOf l inner p q).length = p + 1 + inner.length + (l.length - q) ∧ p < q := by
  obtain ⟨I, Z, e, hI, hqe, hl⟩ := iso_of hb hm hq
  obtain ⟨A, hA⟩ : ∃ A, A = l.take p := ⟨_, rfl⟩
  obtain ⟨c, hc⟩ : ∃ c, c = l.getD p 0 := ⟨_, rfl⟩
  rw [← hA, ← hc] at e
  rw [← hA] at hl
  rw [← hc] at hb
  have hJ := whole_is hw
  have ho : otherOf l inner p q = isoT A c inner Z := by
    unfold otherOf
    have e1 : l.drop q = 23 :: Z := by
      rw [e, hqe, ← hl]
      have := isoT_drop A c I Z 0
      rw [Nat.add_zero, List.drop_zero] at this
      exact this
    have e2 : l.take (p + 1) = A ++ [c] := by
      rw [e, ← hl]
      unfold isoT
      rw [show A ++ c :: (I ++ 23 :: Z) = (A ++ [c]) ++ (I ++ 23 :: Z) from by simp, List.take_append, List.take_of_length_le (by simp), show A.length + 1 - (A ++ [c]).length = 0 from by simp, List.take_zero, List.append_nil]
    rw [e1, e2]
    unfold isoT
    simp
  have hlk : l.map knownOf = isoT (A.map knownOf) c (I.map knownOf) (Z.map knownOf) := by rw [e, isoT_map A c I Z hb]
  have hok : (otherOf l inner p q).map knownOf = isoT (A.map knownOf) c (inner.map knownOf) (Z.map knownOf) := by rw [ho, isoT_map A c inner Z hb]
  have hAl : (A.map knownOf).length = p := by rw [List.length_map, hl]
  have hlen : (otherOf l inner p q).length = p + 1 + inner.length + (l.length - q) := by
    unfold otherOf
    rw [List.length_append, List.length_append, List.length_take, List.length_drop]
    omega
  refine ⟨?_, fun hn2 => ?_, hlen, by omega⟩
  · rw [lastB_iff]
    have hL := (lastB_iff _).1 hlast
    intro i hi
    rw [List.length_map]
    have hi2 : (otherOf l inner p q)[i]? = some 11 := by
      rw [List.getElem?_map] at hi
      cases hx : (otherOf l inner p q)[i]? with
      | none => rw [hx] at hi; cases hi
      | some y =>
        rw [hx] at hi
        simp at hi
        rw [(known_11 y).1 hi]
    have hLk : ∀ j, l[j]? = some 11 → j + 1 = l.length := fun j hj => by
      have := hL j (by rw [List.getElem?_map, hj]; rfl)
      rw [List.length_map] at this
      exact this
    have hil := (List.getElem?_eq_some_iff.1 hi2).1
    rcases Nat.lt_or_ge i (p + 1) with h1 | h1
    · exfalso
      unfold otherOf at hi2
      rw [List.append_assoc, List.getElem?_append_left (by rw [List.length_take]; omega), List.getElem?_take, if_pos h1] at hi2
      have := hLk i hi2
      omega
    · rcases Nat.lt_or_ge i (p + 1 + inner.length) with h2 | h2
      · exfalso
        unfold otherOf at hi2
        rw [List.append_assoc, List.getElem?_append_right (by rw [List.length_take]; omega), List.getElem?_append_left (by rw [List.length_take]; omega)] at hi2
        exact depthC_no inner 0 0 hJ (List.mem_of_getElem? hi2)
      · unfold otherOf at hi2
        rw [List.getElem?_append_right (by rw [List.length_append, List.length_take]; omega), List.getElem?_drop] at hi2
        have := hLk _ hi2
        rw [List.length_append, List.length_take] at this
        omega
  · have := engine_apart (b := b) (A.map knownOf) c (I.map knownOf) (inner.map knownOf) (Z.map knownOf) hb (by rw [depthC_known]; exact hI) (by rw [depthC_known]; exact hJ) (by rw [← hlk, List.length_map]; exact hn) (by rw [← hok, List.length_map]; exact hn2) (by rw [← hlk]; exact known_ok) (by rw [← hok]; exact known_ok) (by rw [← hlk, hAl]; exact h123)
    rw [← hlk, ← hok, hAl, List.length_map, List.length_map, ← hqe] at this
    exact this
theorem engine_at {b : Int} {l : List Nat} (hn : l.length ≤ 1048576) {p : Nat} (hp : p < l.length) (hb : begins (l.getD p 0) = true) : ∃ v : Nat, (engineOf b (l.map knownOf))[p]? = some (v : Int) ∧ v ≤ 126 := by
  have hk : p ∈ keptOf (l.map knownOf) := by
    refine mem_keptOf.2 ⟨by rw [List.length_map]; exact hp, ?_⟩
    have : (l.map knownOf).getD p 0 = knownOf (l.getD p 0) := by
      rw [List.getD_eq_getElem?_getD, List.getElem?_map, List.getD_eq_getElem?_getD, List.getElem?_eq_getElem hp]
      rfl
    rw [this, rem_removed]
    exact begin_removed (by rw [known_begins]; exact hb)
  obtain ⟨v, w, c, h1, _, _, h4, _⟩ := engine_kept (b := b) (by rw [List.length_map]; exact hn) known_ok hk
  exact ⟨w, h1, h4⟩

end Go.Proofs.YtjnidopbdjbbgaaGreat
