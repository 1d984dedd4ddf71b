/-
  Wrong texts, part by part: how long a wrong part is, and what a text's parts are. Plain laws.
-/
import Derived.Test.YthkehgmeaedflaaDoorRSpots
import Derived.Test.YthkehgmeaedflaaDoorOrderM
namespace Go.Proofs.YthkehgmeaedflaaDoor
open Go.RowKit

/-- May a byte stand behind a first one, as the second of a right sequence? -/
def secondB (f b : Nat) : Bool := decide ((if f = 224 then 160 else if f = 240 then 144 else 128) ≤ b ∧ b ≤ (if f = 237 then 159 else if f = 244 then 143 else 191))

theorem second_tail {f b : Nat} (h : secondB f b = true) : 128 ≤ b ∧ b ≤ 191 := by
  unfold secondB at h
  have h := of_decide_eq_true h
  obtain ⟨h1, h2⟩ := h
  refine ⟨?_, ?_⟩
  · split at h1
    · omega
    · split at h1 <;> omega
  · split at h2
    · omega
    · split at h2 <;> omega

/-- Does a sequence of more than one byte begin here, by its first two? -/
def opensP (s : ByteArray) (i : Nat) : Prop := 194 ≤ (s.get! i).toNat ∧ (s.get! i).toNat ≤ 244 ∧ i + 1 < s.size ∧ secondB (s.get! i).toNat (s.get! (i + 1)).toNat = true
instance (s : ByteArray) (i : Nat) : Decidable (opensP s i) := inferInstanceAs (Decidable (_ ∧ _))
instance (s : ByteArray) (i k : Nat) : Decidable (tailOk s i k) := inferInstanceAs (Decidable (_ ∧ _))
instance (s : ByteArray) (i : Nat) : Decidable (badB s i) := inferInstanceAs (Decidable (_ ∧ _))

/-- How many bytes from a wrong one on begin some right sequence. -/
def longestOf (s : ByteArray) (i : Nat) : Nat := if opensP s i then (if 240 ≤ (s.get! i).toNat ∧ tailOk s i 2 then 3 else 2) else 1

theorem longest_no {s : ByteArray} {i : Nat} (h : ¬ opensP s i) : longestOf s i = 1 := if_neg h
theorem longest_two {s : ByteArray} {i : Nat} (h : opensP s i) (h2 : ¬ (240 ≤ (s.get! i).toNat ∧ tailOk s i 2)) : longestOf s i = 2 := by unfold longestOf; rw [if_pos h, if_neg h2]
theorem longest_three {s : ByteArray} {i : Nat} (h : opensP s i) (h2 : 240 ≤ (s.get! i).toNat ∧ tailOk s i 2) : longestOf s i = 3 := by unfold longestOf; rw [if_pos h, if_pos h2]

theorem longest_range (s : ByteArray) (i : Nat) : 1 ≤ longestOf s i ∧ longestOf s i ≤ 3 := by
  unfold longestOf
  repeat' split
  all_goals omega

theorem longest_tails (s : ByteArray) (i k : Nat) (h1 : 1 ≤ k) (hk : k < longestOf s i) : tailOk s i k := by
  by_cases h : opensP s i
  · have ht := second_tail h.2.2.2
    have e1 : tailOk s i 1 := ⟨h.2.2.1, by omega⟩
    by_cases h2 : 240 ≤ (s.get! i).toNat ∧ tailOk s i 2
    · rw [longest_three h h2] at hk
      rcases (show k = 1 ∨ k = 2 by omega) with rfl | rfl
      · exact e1
      · exact h2.2
    · rw [longest_two h h2] at hk
      obtain rfl : k = 1 := by omega
      exact e1
  · rw [longest_no h] at hk
    omega

theorem longest_fits (s : ByteArray) (i : Nat) (h : i < s.size) : i + longestOf s i ≤ s.size := by
  have h1 := longest_range s i
  rcases (show longestOf s i = 1 ∨ 1 < longestOf s i by omega) with h2 | h2
  · omega
  · have := (longest_tails s i (longestOf s i - 1) (by omega) (by omega)).1
    omega

theorem tail_bad {s : ByteArray} {i k : Nat} (h : tailOk s i k) : badB s (i + k) := by
  have hr := tail_range h
  exact bad_of (dec_lead rfl hr.1 (.inl (by omega)) (by omega))

/-- Wrong bytes in a row. -/
theorem bad_run (s : ByteArray) (m i : Nat) (h : ∀ k, k < m → i + k < s.size ∧ badB s (i + k)) : placesFrom s i = List.range' i m ++ placesFrom s (i + m) := by
  induction m generalizing i with
  | zero => simp
  | succ m ih =>
    have h0 := h 0 (by omega)
    rw [Nat.add_zero] at h0
    rw [placesFrom_more s i h0.1, h0.2.2, ih (i + 1) (fun k hk => by rw [Nat.add_assoc, Nat.add_comm 1 k]; exact h (k + 1) (by omega)), List.range'_succ]
    rw [show i + 1 + m = i + (m + 1) by omega]
    rfl

/-- How many bytes a part of a text has. -/
def partW (s : ByteArray) (i : Nat) : Nat := if codeOf s i = 0 then (Utf8.decode s i).2 else longestOf s i
theorem part_ok {s : ByteArray} {i : Nat} (h : codeOf s i = 0) : partW s i = (Utf8.decode s i).2 := if_pos h
theorem part_no {s : ByteArray} {i : Nat} (h : codeOf s i ≠ 0) : partW s i = longestOf s i := if_neg h
theorem part_range (s : ByteArray) (i : Nat) : 1 ≤ partW s i ∧ partW s i ≤ 4 := by
  have h1 := decode_width s i
  have h2 := longest_range s i
  unfold partW
  split <;> omega
theorem part_fits (s : ByteArray) (i : Nat) (h : i < s.size) : i + partW s i ≤ s.size := by
  have h1 := decode_fits s i h
  have h2 := longest_fits s i h
  unfold partW
  split <;> omega

/-- Where a text's parts begin, from a byte on, so many at most. -/
def piecesN (s : ByteArray) : Nat → Nat → List Nat
  | 0, _ => []
  | b + 1, i => if i < s.size then i :: piecesN s b (i + partW s i) else []
theorem piecesN_more (s : ByteArray) (b c i : Nat) (hb : s.size ≤ i + b) (hc : s.size ≤ i + c) : piecesN s b i = piecesN s c i := by
  induction b generalizing c i with
  | zero =>
    cases c with
    | zero => rfl
    | succ c => simp [piecesN]; omega
  | succ b ih =>
    cases c with
    | zero => simp [piecesN]; omega
    | succ c =>
      have := part_range s i
      simp only [piecesN]
      split
      · rw [ih c (i + partW s i) (by omega) (by omega)]
      · rfl
/-- .. all of them. -/
def piecesFrom (s : ByteArray) (i : Nat) : List Nat := piecesN s s.size i
theorem piecesFrom_more (s : ByteArray) (i : Nat) (h : i < s.size) : piecesFrom s i = i :: piecesFrom s (i + partW s i) := by
  have hw := part_range s i
  obtain ⟨b, hb⟩ : ∃ b, s.size = b + 1 := ⟨s.size - 1, by omega⟩
  unfold piecesFrom
  rw [show piecesN s s.size i = piecesN s (b + 1) i from by rw [hb]]
  simp only [piecesN, if_pos h]
  rw [piecesN_more s b s.size (i + partW s i) (by omega) (by omega)]
theorem piecesFrom_end (s : ByteArray) (i : Nat) (h : ¬ i < s.size) : piecesFrom s i = [] := by
  unfold piecesFrom
  cases s.size with
  | zero => rfl
  | succ b => simp [piecesN]; omega
theorem piecesN_le (s : ByteArray) (b i : Nat) : (piecesN s b i).length ≤ b := by
  induction b generalizing i with
  | zero => simp [piecesN]
  | succ b ih =>
    simp only [piecesN]
    split
    · have := ih (i + partW s i)
      simp
      omega
    · simp
theorem pieces_le (s : ByteArray) : (piecesFrom s 0).length ≤ s.size := piecesN_le s s.size 0
theorem piece_lt (s : ByteArray) (b i : Nat) : ∀ x ∈ piecesN s b i, x < s.size := by
  induction b generalizing i with
  | zero => simp [piecesN]
  | succ b ih =>
    simp only [piecesN]
    split
    · intro x hx
      rcases List.mem_cons.1 hx with rfl | hx
      · assumption
      · exact ih _ x hx
    · simp
/-- A part's text. -/
def partS (s : ByteArray) (i : Nat) : ByteArray := s.extract i (i + partW s i)

/-- What the parts of a text stand for. -/
def partsOf (s : ByteArray) : List Int := (piecesFrom s 0).map (runeAt s)
theorem parts_le (s : ByteArray) : (partsOf s).length ≤ s.size := by
  unfold partsOf
  rw [List.length_map]
  exact pieces_le s

theorem rune_bad {s : ByteArray} {i : Nat} (h : badB s i) : runeAt s i = 65533 := by
  unfold runeAt
  rw [h.1]
  rfl

/-- The places at a part, and behind it. -/
theorem places_part (s : ByteArray) (i : Nat) (h : i < s.size) (hc : codeOf s i ≠ 0) : placesFrom s i = List.range' i (partW s i) ++ placesFrom s (i + partW s i) ∧ ∀ x ∈ List.range' i (partW s i), runeAt s x = 65533 := by
  have hb := code_pos hc
  have hall : ∀ k, k < partW s i → i + k < s.size ∧ badB s (i + k) := by
    intro k hk
    rcases Nat.eq_zero_or_pos k with rfl | h1
    · exact ⟨h, hb⟩
    · rw [part_no hc] at hk
      have ht := longest_tails s i k h1 hk
      exact ⟨ht.1, tail_bad ht⟩
  refine ⟨bad_run s _ i hall, fun x hx => ?_⟩
  rw [List.mem_range'_1] at hx
  have := hall (x - i) (by omega)
  rw [show i + (x - i) = x by omega] at this
  exact rune_bad this.2

theorem parts_law (s : ByteArray) (m i : Nat) (hm : s.size ≤ i + m) :
    (piecesFrom s i).length ≤ (placesFrom s i).length ∧ ((placesFrom s i).map (runeAt s)).filter (· != 65533) = ((piecesFrom s i).map (runeAt s)).filter (· != 65533) := by
  induction m generalizing i with
  | zero => rw [piecesFrom_end s i (by omega), placesFrom_end s i (by omega)]; simp
  | succ m ih =>
    by_cases h : i < s.size
    · have hw := part_range s i
      have ih := ih (i + partW s i) (by omega)
      rw [piecesFrom_more s i h]
      by_cases hc : codeOf s i = 0
      · rw [placesFrom_more s i h, ← part_ok hc]
        refine ⟨by simp only [List.length_cons]; omega, ?_⟩
        rw [List.map_cons, List.map_cons, List.filter_cons, List.filter_cons, ih.2]
      · obtain ⟨h1, h2⟩ := places_part s i h hc
        rw [h1]
        refine ⟨by simp only [List.length_cons, List.length_append, List.length_range']; omega, ?_⟩
        rw [List.map_append, List.filter_append, ih.2, List.map_cons, List.filter_cons, rune_bad (code_pos hc)]
        rw [List.filter_eq_nil_iff.2]
        · simp
        · intro y hy
          obtain ⟨x, hx, rfl⟩ := List.mem_map.1 hy
          simp [h2 x hx]
    · rw [piecesFrom_end s i h, placesFrom_end s i h]; simp

theorem parts_few (s : ByteArray) : (partsOf s).length ≤ (textRunes s).length := by
  have := (parts_law s s.size 0 (by omega)).1
  rw [places_runes]
  unfold partsOf
  rw [List.length_map]
  exact this
theorem parts_same (s : ByteArray) : (textRunes s).filter (· != 65533) = (partsOf s).filter (· != 65533) := by
  have := (parts_law s s.size 0 (by omega)).2
  rw [runes_places] at this
  exact this
theorem pieces_right (s : ByteArray) (m i : Nat) (hm : s.size ≤ i + m) (hc : ∀ x ∈ placesFrom s i, codeOf s x = 0) : piecesFrom s i = placesFrom s i := by
  induction m generalizing i with
  | zero => rw [piecesFrom_end s i (by omega), placesFrom_end s i (by omega)]
  | succ m ih =>
    by_cases h : i < s.size
    · have hw := decode_width s i
      rw [placesFrom_more s i h] at hc ⊢
      rw [piecesFrom_more s i h, part_ok (hc i (by simp)), ih (i + (Utf8.decode s i).2) (by omega) (fun x hx => hc x (by simp [hx]))]
    · rw [piecesFrom_end s i h, placesFrom_end s i h]
theorem parts_right {s : ByteArray} (h : (checkOf s).2 = 0) : partsOf s = textRunes s := by
  unfold partsOf
  rw [pieces_right s s.size 0 (by omega) (check_zero h), runes_places]

/-- A part that stands for FFFD is FFFD's own sequence, or a wrong one of three bytes at most. -/
theorem part_fffd (s : ByteArray) (i : Nat) (h : i < s.size) (hr : runeAt s i = 65533) : partS s i = ⟨#[239, 191, 189]⟩ ∨ (1 ≤ (partS s i).size ∧ (partS s i).size ≤ 3) := by
  have hf := part_fits s i h
  by_cases hc : codeOf s i = 0
  · left
    have hn := code_zero hc
    have hb := enc_back s i h hn
    rw [show ((Utf8.decode s i).1 : Int) = 65533 from hr, ← part_ok hc] at hb
    apply bytes_ext
    have he : encL 65533 = [239, 191, 189] := by decide
    rw [he] at hb
    have e2 := congrArg (List.take (partW s i)) hb
    have h4 := part_range s i
    have hl : partW s i = 3 := by
      have e3 := congrArg List.length hb
      simp only [List.length_drop, List.length_append, List.length_cons, List.length_nil, size_list] at e3
      omega
    unfold partS
    rw [ByteArray.data_extract, Array.toList_extract, List.extract_eq_take_drop, show i + partW s i - i = partW s i by omega, e2, hl]
    simp
  · right
    have := longest_range s i
    unfold partS
    rw [ByteArray.size_extract, part_no hc] at *
    omega

end Go.Proofs.YthkehgmeaedflaaDoor
