/-
  The language's own reading of one character, by its bytes. Plain laws.
-/
import Derived.Test.YtmdcbpdmkonmlaaAtH
namespace Go.Proofs.Ytmdcbpdmkonmlaa
open Go.RowKit

theorem get_at2 (s : ByteArray) (i : Nat) (h : i < s.size) : (s.get! i).toNat = s[i].toNat := by
  have := get_at s i h
  rw [Nat.add_zero] at this
  rw [this]

theorem dec_one {s : ByteArray} {i b0 : Nat} (g0 : (s.get! i).toNat = b0) (h : b0 < 128) : Utf8.decode s i = (b0, 1) := by
  simp [Utf8.decode, g0, h]

theorem dec_lead {s : ByteArray} {i b0 : Nat} (g0 : (s.get! i).toNat = b0) (h1 : 128 ≤ b0) (h2 : b0 < 192 ∨ 247 < b0) (h3 : b0 < 256) : Utf8.decode s i = (65533, 1) := by
  have e1 : ¬ b0 < 128 := by omega
  have e2 : ¬ b0 / 32 = 6 := by omega
  have e3 : ¬ b0 / 16 = 14 := by omega
  have e4 : ¬ b0 / 8 = 30 := by omega
  simp [Utf8.decode, g0, e1, e2, e3, e4, Utf8.runeError]

theorem dec_two_no {s : ByteArray} {i b0 : Nat} (g0 : (s.get! i).toNat = b0) (h1 : 192 ≤ b0) (h2 : b0 < 224) (hc : ¬ (i + 1 < s.size ∧ (s.get! (i + 1)).toNat / 64 = 2)) : Utf8.decode s i = (65533, 1) := by
  have e1 : ¬ b0 < 128 := by omega
  have e3 : ¬ b0 / 16 = 14 := by omega
  have e4 : ¬ b0 / 8 = 30 := by omega
  have hc2 : (decide (i + 1 < s.size) && ((s.get! (i + 1)).toNat / 64 == 2)) = false := by
    rw [Bool.eq_false_iff]
    simpa using hc
  simp only [Utf8.decode, Nat.add_zero, g0, e1, if_false, hc2, Bool.and_false, Bool.false_and]
  simp [e3, e4, Utf8.runeError]

theorem dec_two {s : ByteArray} {i b0 b1 x : Nat} (g0 : (s.get! i).toNat = b0) (g1 : (s.get! (i + 1)).toNat = b1) (l1 : i + 1 < s.size) (h1 : 192 ≤ b0) (h2 : b0 < 224) (p1 : 128 ≤ b1) (q1 : b1 ≤ 191) (hx : x + 128 = (b0 % 32) * 64 + b1) : Utf8.decode s i = if 128 ≤ x then (x, 2) else (65533, 1) := by
  have e1 : ¬ b0 < 128 := by omega
  have e2 : b0 / 32 = 6 := by omega
  have e3 : b1 / 64 = 2 := by omega
  have e4 : b0 % 32 * 64 + b1 % 64 = x := by omega
  simp [Utf8.decode, g0, g1, e1, e2, e3, l1, e4, Utf8.runeError]

theorem dec_three_no {s : ByteArray} {i b0 : Nat} (g0 : (s.get! i).toNat = b0) (h1 : 224 ≤ b0) (h2 : b0 < 240) (hc : ¬ ((i + 1 < s.size ∧ (s.get! (i + 1)).toNat / 64 = 2) ∧ (i + 2 < s.size ∧ (s.get! (i + 2)).toNat / 64 = 2))) : Utf8.decode s i = (65533, 1) := by
  have e1 : ¬ b0 < 128 := by omega
  have e2 : ¬ b0 / 32 = 6 := by omega
  have e3 : b0 / 16 = 14 := by omega
  have e4 : ¬ b0 / 8 = 30 := by omega
  have hc2 : ((decide (i + 1 < s.size) && ((s.get! (i + 1)).toNat / 64 == 2)) && (decide (i + 2 < s.size) && ((s.get! (i + 2)).toNat / 64 == 2))) = false := by
    rw [Bool.eq_false_iff]
    simpa using hc
  simp only [Utf8.decode, Nat.add_zero, g0, e1, if_false]
  rw [if_neg (by simp [e2]), if_neg (by rw [Bool.and_assoc, hc2]; simp)]
  simp [e4, Utf8.runeError]

theorem dec_three {s : ByteArray} {i b0 b1 b2 x : Nat} (g0 : (s.get! i).toNat = b0) (g1 : (s.get! (i + 1)).toNat = b1) (g2 : (s.get! (i + 2)).toNat = b2) (l1 : i + 1 < s.size) (l2 : i + 2 < s.size) (h1 : 224 ≤ b0) (h2 : b0 < 240) (p1 : 128 ≤ b1) (q1 : b1 ≤ 191) (p2 : 128 ≤ b2) (q2 : b2 ≤ 191) (hx : x = (b0 % 16) * 4096 + (b1 - 128) * 64 + (b2 - 128)) : Utf8.decode s i = if 2048 ≤ x ∧ Utf8.valid x = true then (x, 3) else (65533, 1) := by
  have e1 : ¬ b0 < 128 := by omega
  have e2 : ¬ b0 / 32 = 6 := by omega
  have e3 : b0 / 16 = 14 := by omega
  have e5 : b1 / 64 = 2 := by omega
  have e6 : b2 / 64 = 2 := by omega
  have e4 : b0 % 16 * 4096 + b1 % 64 * 64 + b2 % 64 = x := by omega
  simp [Utf8.decode, g0, g1, g2, e1, e2, e3, e5, e6, l1, l2, Utf8.runeError]
  have e7 : (b0 : Int) % 16 * 4096 + (b1 : Int) % 64 * 64 + (b2 : Int) % 64 = (x : Int) := by omega
  rw [e4, e7]

theorem dec_four_no {s : ByteArray} {i b0 : Nat} (g0 : (s.get! i).toNat = b0) (h1 : 240 ≤ b0) (h2 : b0 ≤ 247) (hc : ¬ (((i + 1 < s.size ∧ (s.get! (i + 1)).toNat / 64 = 2) ∧ (i + 2 < s.size ∧ (s.get! (i + 2)).toNat / 64 = 2)) ∧ (i + 3 < s.size ∧ (s.get! (i + 3)).toNat / 64 = 2))) : Utf8.decode s i = (65533, 1) := by
  have e1 : ¬ b0 < 128 := by omega
  have e2 : ¬ b0 / 32 = 6 := by omega
  have e3 : ¬ b0 / 16 = 14 := by omega
  have e4 : b0 / 8 = 30 := by omega
  have hc2 : (((decide (i + 1 < s.size) && ((s.get! (i + 1)).toNat / 64 == 2)) && (decide (i + 2 < s.size) && ((s.get! (i + 2)).toNat / 64 == 2))) && (decide (i + 3 < s.size) && ((s.get! (i + 3)).toNat / 64 == 2))) = false := by
    rw [Bool.eq_false_iff]
    simpa using hc
  simp only [Utf8.decode, Nat.add_zero, g0, e1, if_false]
  rw [if_neg (by simp [e2]), if_neg (by simp [e3]), if_neg (by
    rw [Bool.and_assoc, Bool.and_assoc, ← Bool.and_assoc (decide (i + 1 < s.size) && _), hc2]
    simp)]
  simp [Utf8.runeError]

theorem dec_four {s : ByteArray} {i b0 b1 b2 b3 x : Nat} (g0 : (s.get! i).toNat = b0) (g1 : (s.get! (i + 1)).toNat = b1) (g2 : (s.get! (i + 2)).toNat = b2) (g3 : (s.get! (i + 3)).toNat = b3) (l1 : i + 1 < s.size) (l2 : i + 2 < s.size) (l3 : i + 3 < s.size) (h1 : 240 ≤ b0) (h2 : b0 ≤ 247) (p1 : 128 ≤ b1) (q1 : b1 ≤ 191) (p2 : 128 ≤ b2) (q2 : b2 ≤ 191) (p3 : 128 ≤ b3) (q3 : b3 ≤ 191) (hx : x = (b0 % 8) * 262144 + (b1 - 128) * 4096 + (b2 - 128) * 64 + (b3 - 128)) : Utf8.decode s i = if 65536 ≤ x ∧ Utf8.valid x = true then (x, 4) else (65533, 1) := by
  have e1 : ¬ b0 < 128 := by omega
  have e2 : ¬ b0 / 32 = 6 := by omega
  have e3 : ¬ b0 / 16 = 14 := by omega
  have e4 : b0 / 8 = 30 := by omega
  have e5 : b1 / 64 = 2 := by omega
  have e6 : b2 / 64 = 2 := by omega
  have e7 : b3 / 64 = 2 := by omega
  have e8 : b0 % 8 * 262144 + b1 % 64 * 4096 + b2 % 64 * 64 + b3 % 64 = x := by omega
  have e9 : (b0 : Int) % 8 * 262144 + (b1 : Int) % 64 * 4096 + (b2 : Int) % 64 * 64 + (b3 : Int) % 64 = (x : Int) := by omega
  simp [Utf8.decode, g0, g1, g2, g3, e1, e2, e3, e4, e5, e6, e7, l1, l2, l3, Utf8.runeError]
  rw [e8, e9]

end Go.Proofs.Ytmdcbpdmkonmlaa
