/-
  A burst of up to 32 bits is told: of two sealed texts of one length none is so near the other. Plain law: no program in sight (but the names of the walks' plain functions).
-/
import Derived.Test.YtallfhfgplgfpaaBursts
namespace Go.Proofs.Ytallfhfgplgfpaa
namespace Crc

/-- Where the low bits are nought, a step is a shift. -/
theorem stps_low (n : Nat) (y : BitVec 32) (h : ∀ i, i < n → y.getLsbD i = false) : stps n y = y >>> n := by
  induction n generalizing y with
  | zero => simp [stps]
  | succ n ih =>
    simp only [stps]
    rw [stp_even _ (h 0 (by omega)), ih]
    · rw [← BitVec.shiftRight_add, Nat.add_comm]
    · intro i hi
      rw [BitVec.getLsbD_ushiftRight]
      exact h _ (by omega)

theorem feed_num (n : Nat) (r : BitVec 32) (c : Nat) (h : c < 256 ^ n) (h32 : c < 4294967296) : feed r (numBytes n c) = stps (8 * n) (r ^^^ BitVec.ofNat 32 c) := by
  induction n generalizing r c with
  | zero =>
    have : c = 0 := by simpa using h
    subst this
    simp [numBytes, feed, stps]
  | succ n ih =>
    have hnb : numBytes (n + 1) c = UInt8.ofNat c :: numBytes n (c / 256) := by
      simp only [numBytes, List.range_succ_eq_map, List.map_cons, List.map_map, Nat.pow_zero, Nat.div_one]
      congr 1
      apply List.map_congr_left
      intro i _
      simp only [Function.comp_apply, Nat.pow_succ]
      rw [Nat.mul_comm, Nat.div_div_eq_div_mul]
    have hc : c / 256 < 256 ^ n := by
      rw [Nat.pow_succ] at h
      exact Nat.div_lt_of_lt_mul (by omega)
    rw [hnb]
    show feed (fed r (UInt8.ofNat c)) (numBytes n (c / 256)) = _
    rw [ih _ _ hc (by omega), show 8 * (n + 1) = 8 + 8 * n from by omega, stps_add]
    congr 1
    unfold fed
    have hsplit : r ^^^ BitVec.ofNat 32 c = (r ^^^ byte (UInt8.ofNat c)) ^^^ (BitVec.ofNat 32 c ^^^ byte (UInt8.ofNat c)) := by
      rw [BitVec.xor_assoc]
      congr 1
      rw [BitVec.xor_comm (byte _), BitVec.xor_assoc, BitVec.xor_self, BitVec.xor_zero]
    have hbyte : byte (UInt8.ofNat c) = BitVec.ofNat 32 (c % 256) := by
      unfold byte
      rw [UInt8.toNat_ofNat']
    have hlow : ∀ i, i < 8 → (BitVec.ofNat 32 c ^^^ byte (UInt8.ofNat c)).getLsbD i = false := by
      intro i hi
      rw [hbyte, BitVec.getLsbD_xor, BitVec.getLsbD_ofNat, BitVec.getLsbD_ofNat, show (256 : Nat) = 2 ^ 8 from rfl, Nat.testBit_mod_two_pow]
      simp [hi]
    rw [hsplit, stps_xor 8 (r ^^^ byte (UInt8.ofNat c)) (BitVec.ofNat 32 c ^^^ byte (UInt8.ofNat c)), stps_low 8 _ hlow]
    congr 1
    apply BitVec.eq_of_toNat_eq
    rw [BitVec.toNat_ushiftRight, hbyte, BitVec.toNat_xor, BitVec.toNat_ofNat, BitVec.toNat_ofNat, BitVec.toNat_ofNat, Nat.mod_eq_of_lt h32, Nat.mod_eq_of_lt (show c % 256 < 2 ^ 32 from by omega), Nat.mod_eq_of_lt (show c / 256 < 2 ^ 32 from by omega)]
    rw [Nat.shiftRight_xor_distrib]
    have e1 : (c % 256) >>> 8 = 0 := by rw [Nat.shiftRight_eq_div_pow]; omega
    rw [e1, Nat.xor_zero, Nat.shiftRight_eq_div_pow]

/-- The register when n bits are fed. -/
def bfeed (r : BitVec 32) (f : Nat → Bool) : Nat → BitVec 32
  | 0 => r
  | n + 1 => stp (bfeed r f n ^^^ BitVec.ofNat 32 (f n).toNat)

theorem bfeed_add (r : BitVec 32) (f : Nat → Bool) (m n : Nat) : bfeed r f (m + n) = bfeed (bfeed r f m) (fun i => f (m + i)) n := by
  induction n with
  | zero => rfl
  | succ n ih => rw [← Nat.add_assoc]; simp only [bfeed, ih]

theorem bfeed_bits (r v : BitVec 32) (f : Nat → Bool) (m : Nat) (h : ∀ i, i < m → f i = v.getLsbD i) : bfeed r f m = bitsIn r v m := by
  induction m with
  | zero => rfl
  | succ m ih =>
    simp only [bfeed, bitsIn]
    rw [ih (fun i hi => h i (by omega))]
    have hb : (v >>> m) &&& 1#32 = BitVec.ofNat 32 (f m).toNat := by
      rw [h m (by omega), BitVec.and_one_eq_setWidth_ofBool_getLsbD, BitVec.getLsbD_ushiftRight, Nat.add_zero]
      cases v.getLsbD m <;> rfl
    rw [hb, rst_eq]
    cases f m <;> decide

theorem bitsIn_eq (r v : BitVec 32) (m : Nat) (h : v.toNat < 2 ^ m) : bitsIn r v m = stps m (r ^^^ v) := by
  have := bitsIn_fed r v 0 m
  simp only [bitsFed, Nat.zero_add] at this
  rw [this, bitsFed_eq m r v h]

theorem bfeed_zero (f : Nat → Bool) (n : Nat) (h : ∀ i, i < n → f i = false) : bfeed 0#32 f n = 0#32 := by
  induction n with
  | zero => rfl
  | succ n ih =>
    simp only [bfeed]
    rw [ih (fun i hi => h i (by omega)), h n (by omega)]
    decide

/-- The bits of bytes. -/
def lbit (l : List UInt8) (i : Nat) : Bool := (l.getD (i / 8) 0).toNat.testBit (i % 8)

theorem feed_bits (r : BitVec 32) (l : List UInt8) (k : Nat) (hk : k ≤ l.length) : feed r (l.take k) = bfeed r (lbit l) (8 * k) := by
  induction k with
  | zero => rfl
  | succ k ih =>
    have hlt : k < l.length := by omega
    rw [List.take_succ_eq_append_getElem hlt, feed_append, ih (by omega), show 8 * (k + 1) = 8 * k + 8 from by omega, bfeed_add]
    show fed _ _ = _
    rw [← bitsIn_byte]
    symm
    apply bfeed_bits
    intro i hi
    unfold lbit byte
    rw [show (8 * k + i) / 8 = k from by omega, show (8 * k + i) % 8 = i from by omega]
    rw [BitVec.getLsbD_ofNat, List.getD_eq_getElem?_getD, List.getElem?_eq_getElem hlt]
    simp
    omega

theorem word_of (f : Nat → Bool) (n : Nat) (hn : n ≤ 32) : ∃ v : BitVec 32, ∀ i, i < 32 → v.getLsbD i = (decide (i < n) && f i) := by
  induction n with
  | zero => exact ⟨0#32, fun i _ => by simp⟩
  | succ n ih =>
    obtain ⟨v, hv⟩ := ih (by omega)
    refine ⟨v ||| (if f n then BitVec.twoPow 32 n else 0#32), fun i hi => ?_⟩
    rw [BitVec.getLsbD_or, hv i hi]
    by_cases hin : i = n
    · subst hin
      cases f i <;> simp [hi]
    · have h1 : decide (i < n + 1) = decide (i < n) := by simp; omega
      rw [h1]
      split
      · rw [BitVec.getLsbD_twoPow]
        have : decide (n = i) = false := by simp; omega
        simp [this]
      · simp

/-- A burst of up to 32 bits leaves the register turned. -/
theorem burst_ne (l : List UInt8) (p : Nat) (hp : p < 8 * l.length) (h1 : lbit l p = true) (hlo : ∀ i, i < p → lbit l i = false) (hhi : ∀ i, p + 32 ≤ i → i < 8 * l.length → lbit l i = false) : feed 0#32 l ≠ 0#32 := by
  have hf := feed_bits 0#32 l l.length (Nat.le_refl _)
  rw [List.take_of_length_le (Nat.le_refl _)] at hf
  rw [hf, show 8 * l.length = p + (8 * l.length - p) from by omega, bfeed_add, bfeed_zero _ _ hlo]
  obtain ⟨m, hm⟩ : ∃ m, m = 8 * l.length - p := ⟨_, rfl⟩
  rw [← hm]
  -- the pattern
  obtain ⟨v, hv⟩ : ∃ v : BitVec 32, ∀ i, i < 32 → v.getLsbD i = (decide (i < m) && lbit l (p + i)) := by
    obtain ⟨v, hv⟩ := word_of (fun i => decide (i < m) && lbit l (p + i)) 32 (by omega)
    exact ⟨v, fun i hi => by rw [hv i hi]; simp [hi]⟩
  have hvm : v.toNat < 2 ^ m := by
    by_cases h32 : 32 ≤ m
    · exact Nat.lt_of_lt_of_le v.isLt (Nat.pow_le_pow_right (by omega) h32)
    · apply Nat.lt_pow_two_of_testBit
      intro i hi
      show v.getLsbD i = false
      by_cases hi2 : i < 32
      · rw [hv i hi2]
        simp
        omega
      · exact BitVec.getLsbD_of_ge _ _ (by omega)
  have hb : bfeed 0#32 (fun i => lbit l (p + i)) m = bitsIn 0#32 v m := by
    apply bfeed_bits
    intro i hi
    by_cases hi2 : i < 32
    · rw [hv i hi2]; simp [hi]
    · rw [BitVec.getLsbD_of_ge _ _ (by omega)]
      exact hhi _ (by omega) (by omega)
  rw [hb, bitsIn_eq _ _ _ hvm]
  intro h0
  have hz := stps_eq_zero _ _ h0
  have hv0 := hv 0 (by omega)
  rw [Nat.add_zero, h1] at hv0
  have : v = 0#32 := by simpa using hz
  rw [this] at hv0
  simp at hv0
  omega

end Crc

theorem bitN_lbit (s : ByteArray) (i : Nat) : bitN s i = (Crc.lbit s.data.toList i).toNat := by
  unfold bitN Crc.lbit
  rw [Nat.testBit_eq_decide_div_mod_eq]
  have := Nat.mod_lt ((s.data.toList.getD (i / 8) 0).toNat / 2 ^ (i % 8)) (show 0 < 2 by omega)
  generalize (s.data.toList.getD (i / 8) 0).toNat / 2 ^ (i % 8) % 2 = z at *
  rcases (show z = 0 ∨ z = 1 from by omega) with rfl | rfl <;> rfl

theorem lbit_xor (la lb : List UInt8) (h : la.length = lb.length) (i : Nat) : Crc.lbit (List.zipWith (· ^^^ ·) la lb) i = (Crc.lbit la i ^^ Crc.lbit lb i) := by
  unfold Crc.lbit
  by_cases hi : i / 8 < la.length
  · rw [List.getD_eq_getElem?_getD, List.getD_eq_getElem?_getD, List.getD_eq_getElem?_getD, List.getElem?_zipWith, List.getElem?_eq_getElem hi, List.getElem?_eq_getElem (by omega)]
    simp [Nat.testBit_xor]
  · rw [List.getD_eq_getElem?_getD, List.getD_eq_getElem?_getD, List.getD_eq_getElem?_getD, List.getElem?_eq_none (by simp; omega), List.getElem?_eq_none (by omega), List.getElem?_eq_none (by omega)]
    simp

/-- What the first and the last unlike bit are. -/
theorem unlike_spec (a b : ByteArray) (n : Nat) : ((unlike a b n).1 < 0 ∧ ∀ i, i < n → bitN a i = bitN b i) ∨
    ∃ p q : Nat, unlike a b n = ((p : Int), (q : Int)) ∧ p ≤ q ∧ q < n ∧ bitN a p ≠ bitN b p ∧ (∀ i, i < p → bitN a i = bitN b i) ∧ (∀ i, q < i → i < n → bitN a i = bitN b i) := by
  induction n with
  | zero => left; exact ⟨by simp [unlike], fun i hi => by omega⟩
  | succ n ih =>
    by_cases hq : bitN a n = bitN b n
    · rw [unlike_same a b n hq]
      rcases ih with ⟨h1, h2⟩ | ⟨p, q, h1, h2, h3, h4, h5, h6⟩
      · left
        refine ⟨h1, fun i hi => ?_⟩
        by_cases hin : i = n
        · subst hin; exact hq
        · exact h2 i (by omega)
      · right
        refine ⟨p, q, h1, h2, by omega, h4, h5, fun i hi1 hi2 => ?_⟩
        by_cases hin : i = n
        · subst hin; exact hq
        · exact h6 i hi1 (by omega)
    · right
      rcases ih with ⟨h1, h2⟩ | ⟨p, q, h1, h2, h3, h4, h5, h6⟩
      · exact ⟨n, n, unlike_new a b n hq h1, Nat.le_refl _, by omega, hq, fun i hi => h2 i (by omega), fun i hi1 hi2 => by omega⟩
      · have hf : ¬ (unlike a b n).1 < 0 := by rw [h1]; simp
        refine ⟨p, n, ?_, by omega, by omega, h4, fun i hi => h5 i hi, fun i hi1 hi2 => by omega⟩
        rw [unlike_old a b n hq hf, h1]

theorem opened (s : ByteArray) (h : (openOf s).2 = 0) : ∃ t : ByteArray, s = sealOf t ∧ s.size = t.size + 4 := by
  unfold openOf at h
  split at h
  · simp at h
  · split at h
    · rename_i h4 hs
      exact ⟨_, hs.symm, by conv => lhs; rw [← hs]
                            rw [sealOf_size]⟩
    · simp at h

theorem seal_feed (t : ByteArray) : Crc.feed (Crc.inv 0#32) (sealOf t).data.toList = Crc.stps 32 (BitVec.allOnes 32) := by
  have e : (sealOf t).data.toList = t.data.toList ++ numBytes 4 (sumOf t) := by
    unfold sealOf sumBytes numStr
    simp [ByteArray.data_append]
  rw [e, Crc.feed_append, Crc.feed_num 4 _ _ (by have := sumOf_lt t; simpa using this) (sumOf_lt t)]
  congr 1
  unfold sumOf Crc.more
  generalize Crc.feed (Crc.inv 0#32) t.data.toList = D
  rw [BitVec.ofNat_toNat, BitVec.setWidth_eq]
  unfold Crc.inv
  apply BitVec.eq_of_getLsbD_eq
  intro i hi
  rw [BitVec.getLsbD_xor, BitVec.getLsbD_not, BitVec.getLsbD_allOnes]
  simp only [hi, decide_true, Bool.true_and]
  cases D.getLsbD i <;> rfl

/-- No two sealed texts of one length are so near. -/
theorem told (a b : ByteArray) (ha : (openOf a).2 = 0) (hb : (openOf b).2 = 0) (hs : a.size = b.size) : (burstOf a b).2.1 = 0 ∨ 32 < (burstOf a b).2.1 := by
  obtain ⟨a0, hA, _⟩ := opened a ha
  obtain ⟨b0, hB, _⟩ := opened b hb
  have hfa := seal_feed a0
  have hfb := seal_feed b0
  rw [← hA] at hfa
  rw [← hB] at hfb
  unfold burstOf
  rw [if_neg (by simpa using hs)]
  rcases unlike_spec a b (8 * a.size) with ⟨h1, _⟩ | ⟨p, q, h1, h2, h3, h4, h5, h6⟩
  · rw [if_pos h1]; left; rfl
  · rw [if_neg (by rw [h1]; simp)]
    right
    rw [h1]
    show (32 : Int) < (q : Int) - p + 1
    have hlen : a.data.toList.length = b.data.toList.length := by simpa using hs
    have hx := Crc.feed_xor a.data.toList b.data.toList hlen (Crc.inv 0#32) (Crc.inv 0#32)
    rw [hfa, hfb, BitVec.xor_self, BitVec.xor_self] at hx
    have hzl : (List.zipWith (· ^^^ ·) a.data.toList b.data.toList).length = a.size := by simp; omega
    have heq : ∀ i, bitN a i = bitN b i → Crc.lbit (List.zipWith (· ^^^ ·) a.data.toList b.data.toList) i = false := by
      intro i hi
      rw [lbit_xor _ _ hlen]
      rw [bitN_lbit, bitN_lbit] at hi
      revert hi
      cases Crc.lbit a.data.toList i <;> cases Crc.lbit b.data.toList i <;> simp
    by_cases hlt : (32 : Int) < (q : Int) - p + 1
    · exact hlt
    · exfalso
      refine Crc.burst_ne _ p (by rw [hzl]; omega) ?_ (fun i hi => heq i (h5 i hi)) (fun i hi1 hi2 => heq i (h6 i (by omega) (by rw [hzl] at hi2; exact hi2))) hx
      rw [lbit_xor _ _ hlen]
      rw [bitN_lbit, bitN_lbit] at h4
      revert h4
      cases Crc.lbit a.data.toList p <;> cases Crc.lbit b.data.toList p <;> simp

end Go.Proofs.Ytallfhfgplgfpaa
