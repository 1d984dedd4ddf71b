/-
  The plain mathematics of the check sum: the register's step is linear and turns no two registers into one. No program in sight.
-/
import Derived.Laws.Entries
namespace Go.Proofs.Ytallfhfgplgfpaa
namespace Crc

def poly : BitVec 32 := 0xedb88320#32

/-- A step of the register. -/
def stp (r : BitVec 32) : BitVec 32 := (r >>> 1) ^^^ (poly &&& -(r &&& 1#32))

theorem stp_if (r : BitVec 32) : stp r = if r.getLsbD 0 then (r >>> 1) ^^^ poly else r >>> 1 := by
  unfold stp
  rw [BitVec.and_one_eq_setWidth_ofBool_getLsbD]
  cases r.getLsbD 0
  · simp
  · have h : -(BitVec.setWidth 32 (BitVec.ofBool true)) = BitVec.allOnes 32 := by decide
    have h2 : poly &&& BitVec.allOnes 32 = poly := by decide
    rw [h, h2]
    rfl

/-- The reference's step. -/
def rst (r b : BitVec 32) : BitVec 32 := if (r ^^^ b) &&& 1#32 = 1#32 then (r >>> 1) ^^^ poly else r >>> 1

theorem stp_xor (a b : BitVec 32) : stp (a ^^^ b) = stp a ^^^ stp b := by
  have hs : (a ^^^ b) >>> 1 = (a >>> 1) ^^^ (b >>> 1) := by ext i; simp
  rw [stp_if, stp_if, stp_if, BitVec.getLsbD_xor, hs]
  cases a.getLsbD 0 <;> cases b.getLsbD 0 <;> simp
  · simp [BitVec.xor_assoc]
  · rw [BitVec.xor_assoc, BitVec.xor_assoc, BitVec.xor_comm poly]
  · ext i
    simp
    cases a.getLsbD (1 + i) <;> cases b.getLsbD (1 + i) <;> cases poly[i] <;> rfl

theorem stp_zero : stp 0#32 = 0#32 := by decide

theorem and_one_iff (x : BitVec 32) : (x &&& 1#32 = 1#32) ↔ x.getLsbD 0 = true := by
  rw [BitVec.and_one_eq_setWidth_ofBool_getLsbD]
  cases x.getLsbD 0 <;> decide

theorem rst_eq (r b : BitVec 32) (hb : b >>> 1 = 0#32) : rst r b = stp (r ^^^ b) := by
  have hs : (r ^^^ b) >>> 1 = (r >>> 1) ^^^ (b >>> 1) := by ext i; simp
  unfold rst
  rw [stp_if, hs, hb]
  simp only [and_one_iff, BitVec.xor_zero]

/-- So many steps. -/
def stps : Nat → BitVec 32 → BitVec 32
  | 0, r => r
  | n + 1, r => stps n (stp r)

theorem stps_xor (n : Nat) (a b : BitVec 32) : stps n (a ^^^ b) = stps n a ^^^ stps n b := by
  induction n generalizing a b with
  | zero => rfl
  | succ n ih => simp only [stps, stp_xor, ih]

theorem stps_zero (n : Nat) : stps n 0#32 = 0#32 := by
  induction n with
  | zero => rfl
  | succ n ih => simp only [stps, stp_zero, ih]

theorem stps_add (m n : Nat) (a : BitVec 32) : stps (m + n) a = stps n (stps m a) := by
  induction m generalizing a with
  | zero => simp [stps]
  | succ m ih => rw [Nat.succ_add]; simp only [stps, ih]

theorem stps_succ (n : Nat) (a : BitVec 32) : stps (n + 1) a = stp (stps n a) := by
  rw [stps_add n 1]; rfl

/-- The step turns no two registers into one. -/
theorem stp_eq_zero (r : BitVec 32) (h : stp r = 0#32) : r = 0#32 := by
  rw [stp_if] at h
  have hp : poly.getLsbD 31 = true := by decide
  by_cases h0 : r.getLsbD 0 = true
  · rw [if_pos h0] at h
    have h31 := congrArg (fun x => BitVec.getLsbD x 31) h
    simp only [BitVec.getLsbD_xor, BitVec.getLsbD_ushiftRight, hp, BitVec.getLsbD_zero] at h31
    rw [BitVec.getLsbD_of_ge _ _ (by omega)] at h31
    simp at h31
  · rw [if_neg h0] at h
    apply BitVec.eq_of_getLsbD_eq
    intro i hi
    cases i with
    | zero => simpa using h0
    | succ i =>
      have := congrArg (fun x => BitVec.getLsbD x i) h
      simp only [BitVec.getLsbD_ushiftRight, BitVec.getLsbD_zero] at this
      rw [Nat.add_comm i 1, this]; simp

theorem stps_eq_zero (n : Nat) (r : BitVec 32) (h : stps n r = 0#32) : r = 0#32 := by
  induction n generalizing r with
  | zero => exact h
  | succ n ih => exact stp_eq_zero r (ih _ h)

/-- A byte at the register's low end. -/
def byte (b : UInt8) : BitVec 32 := BitVec.ofNat 32 b.toNat

/-- A byte fed. -/
def fed (r : BitVec 32) (b : UInt8) : BitVec 32 := stps 8 (r ^^^ byte b)

/-- Bytes fed. -/
def feed (r : BitVec 32) (l : List UInt8) : BitVec 32 := l.foldl fed r

/-- All bits turned. -/
def inv (x : BitVec 32) : BitVec 32 := ~~~ x

theorem inv_inv (x : BitVec 32) : inv (inv x) = x := by simp [inv]

/-- The sum of bytes whose sum is crc, and l behind them. -/
def more (crc : BitVec 32) (l : List UInt8) : BitVec 32 := inv (feed (inv crc) l)

theorem feed_append (r : BitVec 32) (l m : List UInt8) : feed r (l ++ m) = feed (feed r l) m := by
  simp [feed]

theorem more_append (crc : BitVec 32) (l m : List UInt8) : more crc (l ++ m) = more (more crc l) m := by
  simp [more, feed_append, inv_inv]

/-- The bits of a number fed one by one by the reference's step. -/
def bitsFed : Nat → BitVec 32 → BitVec 32 → BitVec 32
  | 0, r, _ => r
  | n + 1, r, v => bitsFed n (rst r (v &&& 1#32)) (v >>> 1)

theorem stp_even (u : BitVec 32) (h : u.getLsbD 0 = false) : stp u = u >>> 1 := by
  rw [stp_if, h]; simp

theorem bitsFed_eq (n : Nat) (r v : BitVec 32) (h : v.toNat < 2 ^ n) : bitsFed n r v = stps n (r ^^^ v) := by
  induction n generalizing r v with
  | zero =>
    have : v = 0#32 := BitVec.eq_of_toNat_eq (by simp at h ⊢; exact h)
    subst this
    simp [bitsFed, stps]
  | succ n ih =>
    have hv : (v >>> 1).toNat < 2 ^ n := by
      rw [BitVec.toNat_ushiftRight, Nat.shiftRight_eq_div_pow]
      rw [Nat.pow_succ] at h
      omega
    simp only [bitsFed, stps]
    rw [ih _ _ hv]
    have h1 : (v &&& 1#32) >>> 1 = 0#32 := by
      apply BitVec.eq_of_getLsbD_eq
      intro i hi
      simp
    rw [rst_eq _ _ h1]
    congr 1
    have hsplit : v = (v &&& 1#32) ^^^ (v &&& ~~~ 1#32) := by
      apply BitVec.eq_of_getLsbD_eq
      intro i hi
      rw [BitVec.getLsbD_xor, BitVec.getLsbD_and, BitVec.getLsbD_and, BitVec.getLsbD_not]
      simp only [hi, decide_true, Bool.true_and]
      cases v.getLsbD i <;> cases (1#32).getLsbD i <;> rfl
    have heven : (v &&& ~~~ 1#32).getLsbD 0 = false := by simp
    have hsh : (v &&& ~~~ 1#32) >>> 1 = v >>> 1 := by
      apply BitVec.eq_of_getLsbD_eq
      intro i hi
      rw [BitVec.getLsbD_ushiftRight, BitVec.getLsbD_ushiftRight, BitVec.getLsbD_and, BitVec.getLsbD_not]
      have h1 : (1#32).getLsbD (1 + i) = false := by
        rw [BitVec.getLsbD_one]
        simp
      rw [h1]
      by_cases h32 : 1 + i < 32
      · simp [h32]
      · rw [BitVec.getLsbD_of_ge v _ (by omega)]
        rfl
    conv => rhs; rw [hsplit, ← BitVec.xor_assoc, stp_xor, stp_even _ heven, hsh]

theorem byte_lt (b : UInt8) : (byte b).toNat < 2 ^ 8 := by
  have := b.toNat_lt
  simp [byte]
  omega

theorem bitsFed_byte (r : BitVec 32) (b : UInt8) : bitsFed 8 r (byte b) = fed r b := bitsFed_eq 8 r _ (byte_lt b)

/-- The register when n bits of v are fed by the reference's step. -/
def bitsIn (r v : BitVec 32) : Nat → BitVec 32
  | 0 => r
  | n + 1 => rst (bitsIn r v n) ((v >>> n) &&& 1#32)

theorem bitsIn_fed (r v : BitVec 32) (m n : Nat) : bitsFed m (bitsIn r v n) (v >>> n) = bitsFed (m + n) r v := by
  induction n generalizing m with
  | zero => simp [bitsIn]
  | succ n ih =>
    have h := ih (m + 1)
    rw [show m + (n + 1) = m + 1 + n from by omega, ← h]
    simp only [bitsFed, bitsIn]
    rw [← BitVec.shiftRight_add]

theorem bitsIn_byte (r : BitVec 32) (b : UInt8) : bitsIn r (byte b) 8 = fed r b := by
  have := bitsIn_fed r (byte b) 0 8
  rw [← bitsFed_byte]
  simpa [bitsFed] using this

theorem byte_xor (x y : UInt8) : byte (x ^^^ y) = byte x ^^^ byte y := by
  apply BitVec.eq_of_toNat_eq
  have hx := x.toNat_lt
  have hy := y.toNat_lt
  have hxy := (x ^^^ y).toNat_lt
  simp only [byte, BitVec.toNat_ofNat, BitVec.toNat_xor, UInt8.toNat_xor] at hxy ⊢
  rw [Nat.mod_eq_of_lt (by omega), Nat.mod_eq_of_lt (by omega), Nat.mod_eq_of_lt (by omega)]

theorem fed_xor (r s : BitVec 32) (x y : UInt8) : fed (r ^^^ s) (x ^^^ y) = fed r x ^^^ fed s y := by
  unfold fed
  rw [← stps_xor, byte_xor]
  congr 1
  simp only [BitVec.xor_assoc]
  congr 1
  simp only [← BitVec.xor_assoc]
  rw [BitVec.xor_comm s]

/-- Sums are added like texts. -/
theorem feed_xor (la lb : List UInt8) (h : la.length = lb.length) (r s : BitVec 32) : feed (r ^^^ s) (List.zipWith (· ^^^ ·) la lb) = feed r la ^^^ feed s lb := by
  induction la generalizing lb r s with
  | nil =>
    cases lb with
    | nil => rfl
    | cons y lb => cases h
  | cons x la ih =>
    cases lb with
    | nil => cases h
    | cons y lb =>
      simp only [List.length_cons, Nat.add_right_cancel_iff] at h
      simp only [feed, List.zipWith_cons_cons, List.foldl_cons, fed_xor]
      exact ih lb h _ _

theorem inv_eq (x : BitVec 32) : inv x = x ^^^ BitVec.allOnes 32 := by
  unfold inv
  rw [BitVec.xor_allOnes]

theorem more_three (la lb lc : List UInt8) (h1 : la.length = lb.length) (h2 : lb.length = lc.length) :
    more 0#32 la ^^^ more 0#32 lb ^^^ more 0#32 lc = more 0#32 (List.zipWith (· ^^^ ·) (List.zipWith (· ^^^ ·) la lb) lc) := by
  unfold more
  have h0 : inv 0#32 = (inv 0#32 ^^^ inv 0#32) ^^^ inv 0#32 := by decide
  have h3 : feed (inv 0#32) (List.zipWith (· ^^^ ·) (List.zipWith (· ^^^ ·) la lb) lc) = (feed (inv 0#32) la ^^^ feed (inv 0#32) lb) ^^^ feed (inv 0#32) lc := by
    conv => lhs; rw [h0]
    rw [feed_xor _ _ (by simp; omega), feed_xor _ _ h1]
  rw [h3]
  simp only [inv_eq]
  generalize feed _ la = x
  generalize feed _ lb = y
  generalize feed _ lc = z
  apply BitVec.eq_of_getLsbD_eq
  intro i hi
  simp only [BitVec.getLsbD_xor, BitVec.getLsbD_allOnes, hi, decide_true]
  cases x.getLsbD i <;> cases y.getLsbD i <;> cases z.getLsbD i <;> rfl

end Crc
end Go.Proofs.Ytallfhfgplgfpaa
