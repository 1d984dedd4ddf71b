/-
  Places by bytes and by characters. Plain laws.
-/
import Derived.Test.YthkehgmeaedflaaDoorLastM
namespace Go.Proofs.YthkehgmeaedflaaDoor
open Go.RowKit

/-- Where the characters begin, and the end. -/
def indexOf (s : ByteArray) : List Nat := placesFrom s 0 ++ [s.size]
/-- .. as integers. -/
def indexI (s : ByteArray) : List Int := (indexOf s).map (fun x : Nat => (x : Int))

theorem places_sorted (s : ByteArray) (m i : Nat) : ((spotsN s m i).map Prod.fst).Pairwise (· < ·) := by
  induction m generalizing i with
  | zero => simp [spotsN]
  | succ m ih =>
    unfold spotsN
    split
    · rw [List.map_cons, List.pairwise_cons]
      refine ⟨fun x hx => ?_, ih _⟩
      have := places_ge s _ _ x hx
      have hw := decode_width s i
      omega
    · exact List.Pairwise.nil

theorem index_sorted (s : ByteArray) : (indexOf s).Pairwise (· < ·) := by
  unfold indexOf
  rw [List.pairwise_append]
  refine ⟨places_sorted s _ _, List.pairwise_singleton _ _, fun x hx y hy => ?_⟩
  simp at hy
  subst hy
  exact place_lt hx

theorem indexI_sorted (s : ByteArray) : (indexI s).Pairwise (· < ·) := by
  unfold indexI
  rw [List.pairwise_map]
  exact (index_sorted s).imp (fun h => by omega)

theorem index_zero (s : ByteArray) : (indexOf s)[0]? = some 0 := by
  unfold indexOf
  by_cases h : 0 < s.size
  · rw [placesFrom_more s 0 h]; rfl
  · rw [placesFrom_end s 0 h, show s.size = 0 by omega]; rfl

theorem index_len (s : ByteArray) : (indexOf s).length = (placesFrom s 0).length + 1 := by simp [indexOf]

theorem count_le_lt (l : List Int) (b : Int) (h : l.Pairwise (· < ·)) : l.countP (· ≤ b) = l.countP (· < b) + if l.contains b then 1 else 0 := by
  induction l with
  | nil => simp
  | cons x l ih =>
    rw [List.pairwise_cons] at h
    have ih := ih h.2
    rw [List.countP_cons, List.countP_cons, ih, List.contains_cons]
    rcases Int.lt_trichotomy x b with hx | rfl | hx
    · have h1 : (b == x) = false := by simp; omega
      have h2 : x ≤ b := by omega
      simp only [h1, Bool.false_or, decide_eq_true h2, decide_eq_true hx, if_true]
      omega
    · have hn : l.contains x = false := by
        rw [Bool.eq_false_iff]
        intro hc
        have := h.1 x (by simpa using hc)
        omega
      have hl : List.countP (fun y => decide (y < x)) l = 0 := by
        rw [List.countP_eq_zero]
        intro y hy
        have := h.1 y hy
        simp
        omega
      simp only [hn, hl, Int.le_refl, Int.lt_irrefl, decide_true, decide_false, beq_self_eq_true, Bool.true_or, if_true, Bool.false_eq_true, if_false]
    · have h1 : (b == x) = false := by simp; omega
      have h2 : ¬ x ≤ b := by omega
      have h3 : ¬ x < b := by omega
      simp only [h1, Bool.false_or, decide_eq_false h2, decide_eq_false h3]
      simp

/-- How many places lie at a byte or ahead of it. -/
def upTo (s : ByteArray) (b : Int) : Nat := (indexI s).countP (· ≤ b)

theorem upTo_pos (s : ByteArray) (b : Int) (h : 0 ≤ b) : 1 ≤ upTo s b := by
  unfold upTo
  rw [Nat.one_le_iff_ne_zero]
  intro h0
  rw [List.countP_eq_zero] at h0
  have hz := index_zero s
  have hm : (0 : Int) ∈ indexI s := by
    unfold indexI
    exact List.mem_map.2 ⟨0, List.mem_of_getElem? hz, rfl⟩
  have := h0 0 hm
  simp at this
  omega
theorem upTo_le (s : ByteArray) (b : Int) : upTo s b ≤ (placesFrom s 0).length + 1 := by
  unfold upTo
  refine Nat.le_trans List.countP_le_length ?_
  unfold indexI
  rw [List.length_map, index_len]
  exact Nat.le_refl _

/-- The character at a byte: its place among the characters. -/
def hasOf (s : ByteArray) (b : Int) : Int × Int := if b < 0 ∨ (s.size : Int) < b then (0, 2) else ((upTo s b : Int) - 1, 0)
/-- Does a character begin there, or the end? -/
def startsB (s : ByteArray) (b : Int) : Bool := (indexI s).contains b
theorem startsB_eq (s : ByteArray) (b : Int) : startsB s b = decide (b = s.size ∨ ∃ x ∈ placesFrom s 0, (x : Int) = b) := by
  unfold startsB indexI indexOf
  rw [Bool.eq_iff_iff]
  simp only [List.contains_iff_mem, List.mem_map, List.mem_append, List.mem_singleton, decide_eq_true_eq]
  constructor
  · rintro ⟨x, hx | hx, rfl⟩
    · exact .inr ⟨x, hx, rfl⟩
    · exact .inl (by omega)
  · rintro (rfl | ⟨x, hx, rfl⟩)
    · exact ⟨s.size, .inr rfl, rfl⟩
    · exact ⟨x, .inl hx, rfl⟩

/-- The character at a place. -/
def runeOf (s : ByteArray) (p : Int) : Int × Int := if p < 0 ∨ ((placesFrom s 0).length : Int) ≤ p then (0, 2) else ((textRunes s)[p.toNat]?.getD 0, 0)
/-- The text from a place to a place. -/
def sliceOf (s : ByteArray) (p q : Int) : ByteArray × Int := if p < 0 ∨ q < p ∨ ((placesFrom s 0).length : Int) < q then (⟨#[]⟩, 2) else (s.extract ((indexOf s)[p.toNat]?.getD 0) ((indexOf s)[q.toNat]?.getD 0), 0)

theorem index_at (s : ByteArray) (k : Nat) (h : k ≤ (placesFrom s 0).length) : ∃ x, (indexOf s)[k]? = some x ∧ x ≤ s.size := by
  have hk : k < (indexOf s).length := by rw [index_len]; omega
  refine ⟨_, List.getElem?_eq_getElem hk, ?_⟩
  have hm : (indexOf s)[k] ∈ indexOf s := List.getElem_mem hk
  generalize (indexOf s)[k] = y at *
  unfold indexOf at hm
  rcases List.mem_append.1 hm with h1 | h1
  · exact Nat.le_of_lt (place_lt h1)
  · simp at h1
    omega
theorem index_mono (s : ByteArray) (j k x y : Nat) (hjk : j ≤ k) (hx : (indexOf s)[j]? = some x) (hy : (indexOf s)[k]? = some y) : x ≤ y := by
  obtain ⟨hj, rfl⟩ := List.getElem?_eq_some_iff.1 hx
  obtain ⟨hk, rfl⟩ := List.getElem?_eq_some_iff.1 hy
  rcases Nat.lt_or_eq_of_le hjk with h | h
  · exact Nat.le_of_lt (List.pairwise_iff_getElem.1 (index_sorted s) j k hj hk h)
  · subst h
    exact Nat.le_refl _

end Go.Proofs.YthkehgmeaedflaaDoor
