/-
  Bits turned in sealed bytes: the plain law of SumsBurst.
-/
import Derived.Test.YtallfhfgplgfpaaTold
namespace Go.Proofs.Ytallfhfgplgfpaa

/-- A byte with a bit turned. -/
def flip (x : UInt8) (r : Nat) : UInt8 := x ^^^ UInt8.ofNat (2 ^ r)
/-- Bytes with a bit turned. -/
def flipAt (l : List UInt8) (p : Nat) : List UInt8 := l.set (p / 8) (flip (l.getD (p / 8) 0) (p % 8))

theorem flipAt_length (l : List UInt8) (p : Nat) : (flipAt l p).length = l.length := by simp [flipAt]

theorem flip_testBit (x : UInt8) (r i : Nat) (hr : r < 8) (hi : i < 8) : (flip x r).toNat.testBit i = (x.toNat.testBit i ^^ decide (r = i)) := by
  unfold flip
  have h2 : (2 : Nat) ^ r < 256 := Nat.pow_lt_pow_right (by omega) hr
  rw [UInt8.toNat_xor, Nat.testBit_xor, UInt8.toNat_ofNat', Nat.mod_eq_of_lt (by simpa using h2), Nat.testBit_two_pow]

theorem flipAt_lbit (l : List UInt8) (p j : Nat) (hp : p < 8 * l.length) : Crc.lbit (flipAt l p) j = (Crc.lbit l j ^^ decide (p = j)) := by
  unfold Crc.lbit flipAt
  by_cases h : p / 8 = j / 8
  · rw [h, List.getD_eq_getElem?_getD, List.getElem?_set_self (by omega)]
    show (flip _ _).toNat.testBit _ = _
    rw [flip_testBit _ _ _ (by omega) (by omega)]
    congr 1
    simp only [decide_eq_decide]
    omega
  · rw [List.getD_eq_getElem?_getD, List.getElem?_set_ne h, ← List.getD_eq_getElem?_getD]
    have : decide (p = j) = false := by simp; intro e; subst e; exact h rfl
    simp [this]

/-- What the loop keeps. -/
structure Turned (l : List UInt8) (f : Nat) (t : BitVec 32) (k : Nat) (T : List UInt8) (tu : Bool) : Prop where
  len : T.length = l.length
  bit : ∀ j, Crc.lbit T j = (Crc.lbit l j ^^ (decide (f ≤ j) && decide (j < f + k) && t.getLsbD (j - f)))
  tu : tu = true ↔ ∃ i, i < k ∧ t.getLsbD i = true

theorem Turned.start (l : List UInt8) (f : Nat) (t : BitVec 32) : Turned l f t 0 l false where
  len := rfl
  bit := fun j => by
    have : (decide (f ≤ j) && decide (j < f + 0)) = false := by simp
    rw [this]
    simp
  tu := by simp

theorem Turned.skip {l : List UInt8} {f : Nat} {t : BitVec 32} {k : Nat} {T : List UInt8} {tu : Bool} (h : Turned l f t k T tu) (hk : t.getLsbD k = false) : Turned l f t (k + 1) T tu where
  len := h.len
  bit := fun j => by
    rw [h.bit]
    congr 1
    by_cases hj : j = f + k
    · subst hj
      simp [hk]
    · have : decide (j < f + (k + 1)) = decide (j < f + k) := by simp only [decide_eq_decide]; omega
      rw [this]
  tu := by
    rw [h.tu]
    constructor
    · rintro ⟨i, hi, h2⟩
      exact ⟨i, by omega, h2⟩
    · rintro ⟨i, hi, h2⟩
      refine ⟨i, ?_, h2⟩
      by_cases e : i = k
      · subst e
        rw [hk] at h2
        cases h2
      · omega

theorem Turned.turn {l : List UInt8} {f : Nat} {t : BitVec 32} {k : Nat} {T : List UInt8} {tu : Bool} (h : Turned l f t k T tu) (hk : t.getLsbD k = true) (hf : f + k < 8 * l.length) : Turned l f t (k + 1) (flipAt T (f + k)) true where
  len := by rw [flipAt_length, h.len]
  bit := fun j => by
    rw [flipAt_lbit _ _ _ (by rw [h.len]; exact hf), h.bit, Bool.xor_assoc]
    congr 1
    by_cases hj : j = f + k
    · subst hj
      simp [hk]
    · have e1 : decide (j < f + (k + 1)) = decide (j < f + k) := by simp only [decide_eq_decide]; omega
      have e2 : decide (f + k = j) = false := by simp; omega
      rw [e1, e2]
      simp
  tu := by
    simp only [true_iff]
    exact ⟨k, by omega, hk⟩

theorem unlike_last (a b : ByteArray) (n p q : Nat) (h : unlike a b n = ((p : Int), (q : Int))) : bitN a q ≠ bitN b q := by
  induction n with
  | zero =>
    simp [unlike] at h
  | succ n ih =>
    by_cases hq : bitN a n = bitN b n
    · rw [unlike_same a b n hq] at h
      exact ih h
    · have e : (unlike a b (n + 1)).2 = (n : Int) := by
        simp only [unlike, if_neg hq]
      rw [h] at e
      have : q = n := by simp only at e; omega
      subst this
      exact hq

theorem openOf_seal (s : ByteArray) : (openOf (sealOf s)).2 = 0 := by rw [openOf_sealOf]

/-- THE LAYER'S THEOREM. -/
theorem turned_law (s : ByteArray) (f : Nat) (t : BitVec 32) (k : Nat) (T : List UInt8) (tu : Bool) (h : Turned (sealOf s).data.toList f t k T tu) (hk : k ≤ 32) (hf : f + k ≤ 8 * (sealOf s).size) :
    (tu = false ∧ burstOf (sealOf s) ⟨T.toArray⟩ = (0, 0, 0)) ∨
    (tu = true ∧ (burstOf (sealOf s) ⟨T.toArray⟩).2.2 = 0 ∧ 0 < (burstOf (sealOf s) ⟨T.toArray⟩).2.1 ∧ (burstOf (sealOf s) ⟨T.toArray⟩).2.1 ≤ 32 ∧ openOf ⟨T.toArray⟩ = (.empty, 121)) := by
  obtain ⟨S, hS⟩ : ∃ S, S = sealOf s := ⟨_, rfl⟩
  have ho := openOf_seal s
  have h4 := sealOf_size s
  rw [← hS] at h hf ho h4 ⊢
  have hsz : S.size = (⟨T.toArray⟩ : ByteArray).size := by
    have := h.len
    show S.size = T.toArray.size
    simpa using this.symm
  have hb : ∀ j, bitN S j = bitN ⟨T.toArray⟩ j ↔ (decide (f ≤ j) && decide (j < f + k) && t.getLsbD (j - f)) = false := by
    intro j
    rw [bitN_lbit, bitN_lbit]
    show (Crc.lbit S.data.toList j).toNat = (Crc.lbit T j).toNat ↔ _
    rw [h.bit j]
    cases Crc.lbit S.data.toList j <;> cases (decide (f ≤ j) && decide (j < f + k) && t.getLsbD (j - f)) <;> decide
  rcases unlike_spec S ⟨T.toArray⟩ (8 * S.size) with ⟨h1, h2⟩ | ⟨p, q, h1, h2, h3, h5, h6, h7⟩
  · left
    constructor
    · rcases Bool.eq_false_or_eq_true tu with e | e
      · obtain ⟨i, hi, hi2⟩ := h.tu.1 e
        have := (hb (f + i)).1 (h2 _ (by omega))
        simp [hi2, hi] at this
      · exact e
    · unfold burstOf
      rw [if_neg (by simpa using hsz), if_pos h1]
  · right
    have hB : burstOf S ⟨T.toArray⟩ = ((p : Int), (q : Int) - p + 1, 0) := by
      unfold burstOf
      rw [if_neg (by simpa using hsz), if_neg (by rw [h1]; simp), h1]
    have hp : f ≤ p ∧ p < f + k ∧ t.getLsbD (p - f) = true := by
      have := mt (hb p).2 h5
      simpa [and_assoc] using this
    have hq : q < f + k := by
      have hne : bitN S q ≠ bitN ⟨T.toArray⟩ q := by
        by_cases e : q = p
        · subst e; exact h5
        · intro hq
          exact absurd hq (unlike_last S ⟨T.toArray⟩ (8 * S.size) p q h1)
      have := mt (hb q).2 hne
      simp at this
      omega
    have hle : (burstOf S ⟨T.toArray⟩).2.1 ≤ 32 := by rw [hB]; show (q : Int) - p + 1 ≤ 32; omega
    have hpos : 0 < (burstOf S ⟨T.toArray⟩).2.1 := by rw [hB]; show 0 < (q : Int) - p + 1; omega
    refine ⟨h.tu.2 ⟨p - f, by omega, hp.2.2⟩, by rw [hB], hpos, hle, ?_⟩
    have hno : (openOf ⟨T.toArray⟩).2 ≠ 0 := by
      intro e
      rcases told S _ ho e hsz with h8 | h8 <;> omega
    unfold openOf at hno ⊢
    rw [if_neg (by rw [← hsz]; omega)] at hno ⊢
    split
    · rename_i e
      rw [if_pos e] at hno
      exact absurd rfl hno
    · rfl

end Go.Proofs.Ytallfhfgplgfpaa
