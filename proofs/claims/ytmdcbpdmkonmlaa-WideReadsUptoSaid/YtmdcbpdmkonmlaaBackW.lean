/-
  The iterator over units from behind: its contract.
-/
import Derived.Test.YtmdcbpdmkonmlaaRunes
namespace Go.Proofs.Ytmdcbpdmkonmlaa
open Go.RowKit Go.Shelf

attribute [local go_sem] Oper.semAt_some

/-- Where the marks begin, one behind the other; at the end it stays. -/
def bndN (us : List Int) : Nat → Nat
  | 0 => 0
  | n + 1 => if bndN us n < us.length then bndN us n + (firstOf (us.drop (bndN us n))).2 else bndN us n
/-- A mark begins there, or the end is there. -/
def Bnd (us : List Int) (k : Nat) : Prop := ∃ n, bndN us n = k

theorem bndN_le (us : List Int) (n : Nat) : bndN us n ≤ us.length := by
  induction n with
  | zero => exact Nat.zero_le _
  | succ n ih =>
    unfold bndN
    split
    · rename_i h
      have := (firstOf_le (us.drop (bndN us n))).2
      rcases this with h1 | h1
      · rw [List.length_drop] at h1
        omega
      · have := congrArg List.length h1
        rw [List.length_drop] at this
        simp at this
        omega
    · exact ih

theorem bndN_marks (us : List Int) (n : Nat) : ∃ A, marksFrom us 0 = A ++ marksFrom (us.drop (bndN us n)) (bndN us n) := by
  induction n with
  | zero => exact ⟨[], by simp [bndN]⟩
  | succ n ih =>
    obtain ⟨A, hA⟩ := ih
    unfold bndN
    split
    · rename_i h
      have hne : us.drop (bndN us n) ≠ [] := by simp; omega
      have hs := marksFrom_step (us.drop (bndN us n)) (bndN us n) hne
      rw [List.drop_drop] at hs
      exact ⟨A ++ [(bndN us n, (firstOf (us.drop (bndN us n))).1)], by rw [hA, hs]; simp⟩
    · exact ⟨A, hA⟩

theorem bndN_grow (us : List Int) (n : Nat) : n ≤ bndN us n ∨ bndN us n = us.length := by
  induction n with
  | zero => exact .inl (Nat.zero_le _)
  | succ n ih =>
    have hl := bndN_le us n
    have h1 := (firstOf_le (us.drop (bndN us n))).1
    unfold bndN
    split
    · left
      rcases ih with h | h
      · omega
      · omega
    · right
      omega

theorem bnd_end (us : List Int) : Bnd us us.length := ⟨us.length, by
  have h := bndN_grow us us.length
  have h2 := bndN_le us us.length
  omega⟩

/-- Ahead of a mark's place there is none, or the mark that ends there. -/
theorem bnd_back (us : List Int) (k : Nat) (h : Bnd us k) (h0 : 0 < k) : ∃ q, Bnd us q ∧ q < us.length ∧ q + (firstOf (us.drop q)).2 = k := by
  obtain ⟨n, rfl⟩ := h
  induction n with
  | zero => simp [bndN] at h0
  | succ n ih =>
    by_cases hl : bndN us n < us.length
    · exact ⟨bndN us n, ⟨n, rfl⟩, hl, by simp only [bndN, if_pos hl]⟩
    · have e : bndN us (n + 1) = bndN us n := by simp only [bndN, if_neg hl]
      rw [e] at h0 ⊢
      exact ih h0

theorem firstOf_two (us : List Int) : (firstOf us).2 = 1 ∨ ∃ u v r, us = u :: v :: r ∧ (joinOf u v).2 = true ∧ firstOf us = ((joinOf u v).1, 2) := by
  match us with
  | [] => exact .inl rfl
  | [u] => exact .inl rfl
  | u :: v :: r =>
    cases hj : (joinOf u v).2
    · left; rw [firstOf_no hj]
    · right; exact ⟨u, v, r, rfl, hj, firstOf_yes hj⟩
theorem firstOf_lone (us : List Int) (h : (firstOf us).2 = 1) (u : Int) (hu : us[0]? = some u) : firstOf us = (loneR u, 1) := by
  match us, hu with
  | [x], hu =>
    simp at hu
    subst hu
    rfl
  | x :: v :: r, hu =>
    simp at hu
    subst hu
    cases hj : (joinOf x v).2
    · rw [firstOf_no hj]
    · rw [firstOf_yes hj] at h
      simp at h
theorem join_kinds {u v : Int} (h : (joinOf u v).2 = true) : highB u = true ∧ lowB v = true := by
  unfold joinOf at h
  cases h1 : highB u <;> cases h2 : lowB v <;> simp_all
theorem high_low {u : Int} (h : highB u = true) (h2 : lowB u = true) : False := by
  simp [highB] at h
  simp [lowB] at h2
  omega

/-- What stands ahead of a mark's place, of one unit or of two. -/
def tailOf (us : List Int) (k : Nat) : Int × Nat := if 2 ≤ k ∧ (joinOf (us[k - 2]?.getD 0) (us[k - 1]?.getD 0)).2 = true then ((joinOf (us[k - 2]?.getD 0) (us[k - 1]?.getD 0)).1, 2) else (loneR (us[k - 1]?.getD 0), 1)

theorem tail_is (us : List Int) (k q : Nat) (hq : Bnd us q) (hl : q < us.length) (he : q + (firstOf (us.drop q)).2 = k) : firstOf (us.drop q) = tailOf us k := by
  rcases firstOf_two (us.drop q) with h1 | ⟨u, v, r, hd, hj, hf⟩
  · rw [h1] at he
    have hu : (us.drop q)[0]? = some (us[q]?.getD 0) := by
      rw [List.getElem?_drop, Nat.add_zero, List.getElem?_eq_getElem hl]
      rfl
    rw [firstOf_lone _ h1 _ hu]
    unfold tailOf
    rw [if_neg]
    · rw [show k - 1 = q by omega]
    · rintro ⟨h2, hj⟩
      rw [show k - 1 = q by omega, show k - 2 = q - 1 by omega] at hj
      obtain ⟨jh, jl⟩ := join_kinds hj
      obtain ⟨p, hp, hpl, hpe⟩ := bnd_back us q hq (by omega)
      rcases firstOf_two (us.drop p) with g1 | ⟨x, y, r, gd, gj, gf⟩
      · rw [g1] at hpe
        have e2 : us.drop p = us[p]?.getD 0 :: us[q]?.getD 0 :: us.drop (q + 1) := by
          rw [List.drop_eq_getElem_cons hpl, show p + 1 = q by omega, List.drop_eq_getElem_cons hl, List.getElem?_eq_getElem hpl, List.getElem?_eq_getElem hl]
          rfl
        rw [show q - 1 = p by omega] at hj
        rw [e2, firstOf_yes hj] at g1
        simp at g1
      · rw [gf] at hpe
        simp only at hpe
        have hy : us[q - 1]?.getD 0 = y := by
          have := congrArg (fun l => l[1]?) gd
          simp only [List.getElem?_drop] at this
          rw [show p + 1 = q - 1 by omega] at this
          rw [this]
          rfl
        rw [hy] at jh
        exact high_low jh (join_kinds gj).2
  · rw [hf] at he ⊢
    simp only at he
    have hu : us[k - 2]?.getD 0 = u := by
      have := congrArg (fun l => l[0]?) hd
      simp only [List.getElem?_drop] at this
      rw [show q + 0 = k - 2 by omega] at this
      rw [this]
      rfl
    have hv : us[k - 1]?.getD 0 = v := by
      have := congrArg (fun l => l[1]?) hd
      simp only [List.getElem?_drop] at this
      rw [show q + 1 = k - 1 by omega] at this
      rw [this]
      rfl
    unfold tailOf
    rw [hu, hv, if_pos ⟨by omega, hj⟩]

/-- **Ahead of a mark's place: the mark that ends there, by its last units.** -/
theorem mark_back (us : List Int) (k : Nat) (h : Bnd us k) (h0 : 0 < k) : Bnd us (k - (tailOf us k).2) ∧ (tailOf us k).2 ≤ k ∧ marksFrom (us.drop (k - (tailOf us k).2)) (k - (tailOf us k).2) = (k - (tailOf us k).2, (tailOf us k).1) :: marksFrom (us.drop k) k := by
  obtain ⟨q, hq, hl, he⟩ := bnd_back us k h h0
  have ht := tail_is us k q hq hl he
  rw [ht] at he
  rw [show k - (tailOf us k).2 = q by omega]
  refine ⟨hq, by omega, ?_⟩
  have hs := marksFrom_step (us.drop q) q (by simp; omega)
  rw [ht, List.drop_drop, he] at hs
  exact hs

end Go.Proofs.Ytmdcbpdmkonmlaa
