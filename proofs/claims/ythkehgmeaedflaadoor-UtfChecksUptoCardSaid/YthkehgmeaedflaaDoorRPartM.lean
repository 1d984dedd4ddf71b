/-
  The reference's longest wrong part: what its bits make, and that some character begins so just where the program's two bytes say it. Plain laws.
-/
import Derived.Test.YthkehgmeaedflaaDoorPieceM
import Derived.Test.YthkehgmeaedflaaDoorRAt
import Derived.Test.YthkehgmeaedflaaDoorSmalls
namespace Go.Proofs.YthkehgmeaedflaaDoor
open Go.RowKit

/-- What the bytes behind a first one make of a number; -1: one of them is none. -/
def numT : List UInt8 → Nat → Int
  | [], x => (x : Int)
  | b :: l, x => if b.toNat < 128 ∨ 191 < b.toNat then -1 else numT l (x * 64 + (b.toNat - 128))
/-- .. with the bits of the first. -/
def numOf (t : ByteArray) : Int := numT (t.data.toList.drop 1) ((t.get! 0).toNat % (if t.size = 2 then 32 else if t.size = 3 then 16 else 8))

theorem numT_bad {b : UInt8} (l : List UInt8) (x : Nat) (h : b.toNat < 128 ∨ 191 < b.toNat) : numT (b :: l) x = -1 := if_pos h
theorem numT_good {b : UInt8} (l : List UInt8) (x y : Nat) (h1 : 128 ≤ b.toNat) (h2 : b.toNat ≤ 191) (hy : y + 128 = x * 64 + b.toNat) : numT (b :: l) x = numT l y := by
  show (if b.toNat < 128 ∨ 191 < b.toNat then (-1 : Int) else numT l (x * 64 + (b.toNat - 128))) = _
  rw [if_neg (by omega), show x * 64 + (b.toNat - 128) = y by omega]

/-- So many bytes more. -/
def padB (t : ByteArray) (b : UInt8) : Nat → ByteArray
  | 0 => t
  | k + 1 => padB t b k ++ ⟨#[b]⟩
theorem push_size (t : ByteArray) (b : UInt8) : (t ++ ⟨#[b]⟩ : ByteArray).size = t.size + 1 := by rw [ByteArray.size_append]; rfl
theorem push_list (t : ByteArray) (b : UInt8) : (t ++ ⟨#[b]⟩ : ByteArray).data.toList = t.data.toList ++ [b] := by
  rw [ByteArray.data_append, Array.toList_append]
theorem push_get (t : ByteArray) (b : UInt8) (h : 0 < t.size) : (t ++ ⟨#[b]⟩ : ByteArray).get! 0 = t.get! 0 := get_append_left t _ 0 h
theorem pad_list (t : ByteArray) (b : UInt8) (k : Nat) : (padB t b k).data.toList = t.data.toList ++ List.replicate k b := by
  induction k with
  | zero => simp [padB]
  | succ k ih =>
    unfold padB
    rw [push_list, ih, List.append_assoc, List.replicate_succ']
theorem pad_size (t : ByteArray) (b : UInt8) (k : Nat) : (padB t b k).size = t.size + k := by
  have := congrArg List.length (pad_list t b k)
  rw [size_list] at this
  simp only [List.length_append, List.length_replicate] at this
  rw [size_list] at this
  exact this
theorem pad_get (t : ByteArray) (b : UInt8) (k : Nat) (h : 0 < t.size) : (padB t b k).get! 0 = t.get! 0 := by
  induction k with
  | zero => rfl
  | succ k ih =>
    unfold padB
    rw [push_get _ b (by rw [pad_size]; omega), ih]

/-- Is there a character of so many bytes between two numbers? -/
def charIn (n : Nat) (a b : Int) : Prop := ∃ x : Nat, a ≤ (x : Int) ∧ (x : Int) ≤ b ∧ scalarB (x : Int) = true ∧ widthOf (x : Int) = n

theorem wide_of {x n : Nat} (h : scalarB (x : Int) = true) (hw : widthOf (x : Int) = n) : (n = 1 ∧ x < 128) ∨ (n = 2 ∧ 128 ≤ x ∧ x < 2048) ∨ (n = 3 ∧ 2048 ≤ x ∧ x < 65536) ∨ (n = 4 ∧ 65536 ≤ x) := by
  unfold widthOf at hw
  rw [if_pos h] at hw
  split at hw
  · omega
  · split at hw
    · omega
    · split at hw <;> omega
theorem scalar_mk {x : Nat} (h : x < 55296 ∨ 57343 < x ∧ x ≤ 1114111) : scalarB (x : Int) = true := by
  unfold scalarB
  exact decide_eq_true (by omega)
theorem wide_mk {x n : Nat} (h : x < 55296 ∨ 57343 < x ∧ x ≤ 1114111) (hw : (n = 2 ∧ 128 ≤ x ∧ x < 2048) ∨ (n = 3 ∧ 2048 ≤ x ∧ x < 65536) ∨ (n = 4 ∧ 65536 ≤ x)) : widthOf (x : Int) = n := by
  unfold widthOf
  rw [if_pos (scalar_mk h)]
  rcases hw with ⟨rfl, h1, h2⟩ | ⟨rfl, h1, h2⟩ | ⟨rfl, h1⟩
  · rw [if_neg (by omega), if_pos (by omega)]
  · rw [if_neg (by omega), if_neg (by omega), if_pos (by omega)]
  · rw [if_neg (by omega), if_neg (by omega), if_neg (by omega)]

/-- One character of n bytes. -/
theorem char_one (n x : Nat) (h : 2 ≤ n) : charIn n x x ↔ (scalarB (x : Int) = true ∧ widthOf (x : Int) = n) := by
  constructor
  · rintro ⟨y, h1, h2, h3, h4⟩
    obtain rfl : y = x := by omega
    exact ⟨h3, h4⟩
  · rintro ⟨h3, h4⟩
    exact ⟨x, by omega, by omega, h3, h4⟩

/-- A character of three bytes begins with these two. -/
theorem char_three (b0 b1 x1 : Nat) (f : 224 ≤ b0) (f' : b0 < 240) (p : 128 ≤ b1) (q : b1 ≤ 191) (hx : x1 + 128 = (b0 % 16) * 64 + b1) : charIn 3 ((x1 * 64 : Nat) : Int) ((x1 * 64 + 63 : Nat) : Int) ↔ secondB b0 b1 = true := by
  unfold secondB
  rw [decide_eq_true_iff]
  constructor
  · rintro ⟨y, h1, h2, h3, h4⟩
    have hw := wide_of h3 h4
    have hs := scalar_of h3
    refine ⟨?_, ?_⟩
    · split
      · omega
      · split <;> omega
    · split
      · omega
      · split <;> omega
  · rintro ⟨h1, h2⟩
    have k1 : b0 = 224 → 160 ≤ b1 := by
      rintro rfl
      simpa using h1
    have k2 : b0 = 237 → b1 ≤ 159 := by
      rintro rfl
      simpa using h2
    have e : x1 * 64 < 55296 ∨ 57343 < x1 * 64 ∧ x1 * 64 ≤ 1114111 := by
      by_cases e1 : b0 = 237
      · have := k2 e1; omega
      · omega
    have e2 : 2048 ≤ x1 * 64 := by
      by_cases e1 : b0 = 224
      · have := k1 e1; omega
      · omega
    exact ⟨x1 * 64, by omega, by omega, scalar_mk e, wide_mk e (.inr (.inl ⟨rfl, e2, by omega⟩))⟩

/-- A character of four bytes begins with these two. -/
theorem char_four (b0 b1 x1 : Nat) (f : 240 ≤ b0) (f' : b0 ≤ 247) (p : 128 ≤ b1) (q : b1 ≤ 191) (hx : x1 + 128 = (b0 % 8) * 64 + b1) : charIn 4 ((x1 * 4096 : Nat) : Int) ((x1 * 4096 + 4095 : Nat) : Int) ↔ (b0 ≤ 244 ∧ secondB b0 b1 = true) := by
  unfold secondB
  rw [decide_eq_true_iff]
  constructor
  · rintro ⟨y, h1, h2, h3, h4⟩
    have hw := wide_of h3 h4
    have hs := scalar_of h3
    refine ⟨by omega, ?_, ?_⟩
    · split
      · omega
      · split <;> omega
    · split
      · omega
      · split <;> omega
  · rintro ⟨h0, h1, h2⟩
    have k1 : b0 = 240 → 144 ≤ b1 := by
      rintro rfl
      simpa using h1
    have k2 : b0 = 244 → b1 ≤ 143 := by
      rintro rfl
      simpa using h2
    have e2 : 65536 ≤ x1 * 4096 := by
      by_cases e1 : b0 = 240
      · have := k1 e1; omega
      · omega
    have e : x1 * 4096 < 55296 ∨ 57343 < x1 * 4096 ∧ x1 * 4096 ≤ 1114111 := by
      by_cases e1 : b0 = 244
      · have := k2 e1; omega
      · omega
    exact ⟨x1 * 4096, by omega, by omega, scalar_mk e, wide_mk e (.inr (.inr ⟨rfl, e2⟩))⟩

/-- .. and with these three, where the first two do. -/
theorem char_four2 (b0 b1 x1 x2 b2 : Nat) (f : 240 ≤ b0) (h0 : b0 ≤ 244) (hs : secondB b0 b1 = true) (p2 : 128 ≤ b2) (q2 : b2 ≤ 191) (hx : x1 + 128 = (b0 % 8) * 64 + b1) (hx2 : x2 + 128 = x1 * 64 + b2) : charIn 4 ((x2 * 64 : Nat) : Int) ((x2 * 64 + 63 : Nat) : Int) := by
  have ht := second_tail hs
  unfold secondB at hs
  rw [decide_eq_true_iff] at hs
  obtain ⟨h1, h2⟩ := hs
  have k1 : b0 = 240 → 144 ≤ b1 := by
    rintro rfl
    simpa using h1
  have k2 : b0 = 244 → b1 ≤ 143 := by
    rintro rfl
    simpa using h2
  have e2 : 65536 ≤ x2 * 64 := by
    by_cases e1 : b0 = 240
    · have := k1 e1; omega
    · omega
  have e : x2 * 64 < 55296 ∨ 57343 < x2 * 64 ∧ x2 * 64 ≤ 1114111 := by
    by_cases e1 : b0 = 244
    · have := k2 e1; omega
    · omega
  exact ⟨x2 * 64, by omega, by omega, scalar_mk e, wide_mk e (.inr (.inr ⟨rfl, e2⟩))⟩

end Go.Proofs.YthkehgmeaedflaaDoor
