/-
  The walk's numbers as 32-bit words: what Go's operators on uint32 come to. Lemmas alone.
-/
import Derived.Test.YtallfhfgplgfpaaMath
import Derived.Test.YtallfhfgplgfpaaKit
import Derived.Test.YtallfhfgplgfpaaRows
import Derived.WalkKit
import Derived.WalkSpells
import Derived.WalkLawsBesides
import Derived.Lib.Hide
namespace Go.Proofs.Ytallfhfgplgfpaa
open Go.RowKit

theorem ofInt_toNat (x : BitVec 32) : BitVec.ofInt 32 (x.toNat : Int) = x := by
  apply BitVec.eq_of_toNat_eq
  have := x.isLt
  simp only [BitVec.toNat_ofInt]
  omega

theorem ofInt_half (x : BitVec 32) : BitVec.ofInt 32 ((x.toNat : Int) / 2) = x >>> 1 := by
  apply BitVec.eq_of_toNat_eq
  have := x.isLt
  simp only [BitVec.toNat_ofInt, BitVec.toNat_ushiftRight, Nat.shiftRight_eq_div_pow]
  omega

theorem ofInt_neg (x : BitVec 32) : BitVec.ofInt 32 (-(x.toNat : Int) % 4294967296) = -x := by
  apply BitVec.eq_of_toNat_eq
  have := x.isLt
  simp only [BitVec.toNat_ofInt, BitVec.toNat_neg]
  omega

theorem wrap_u32 (x : BitVec 32) : IntKind.u32.wrap ((x.toNat : Nat) : Int) = x.toNat := by
  have := x.isLt
  simp [IntKind.wrap, IntKind.signed, IntKind.bits]
  omega

theorem bits_xor_u32 (a b : Int) : bits .xor .u32 a b = ((BitVec.ofInt 32 a ^^^ BitVec.ofInt 32 b).toNat : Int) := by
  simp only [bits]
  exact wrap_u32 _

theorem bits_and_u32 (a b : Int) : bits .and .u32 a b = ((BitVec.ofInt 32 a &&& BitVec.ofInt 32 b).toNat : Int) := by
  simp only [bits]
  exact wrap_u32 _

theorem bits_or_u32 (a b : Int) : bits .or .u32 a b = ((BitVec.ofInt 32 a ||| BitVec.ofInt 32 b).toNat : Int) := by
  simp only [bits]
  exact wrap_u32 _

theorem ret_u32 {a b : Int} (h : a = b) : Ending.returned (.int .u32 a) = .returned (.int .u32 b) := by rw [h]
theorem ret_int {k : IntKind} {a b : Int} (h : a = b) : Ending.returned (.int k a) = .returned (.int k b) := by rw [h]
theorem ret_bool {a b : Bool} (h : a = b) : Ending.returned (.bool a) = .returned (.bool b) := by rw [h]

theorem stp_walk (x : BitVec 32) : bits BinOp.xor IntKind.u32 (↑x.toNat / 2) (bits BinOp.and IntKind.u32 3988292384 (-bits BinOp.and IntKind.u32 (↑x.toNat) 1 % 4294967296)) = ((Crc.stp x).toNat : Int) := by
  simp only [bits_xor_u32, bits_and_u32, ofInt_toNat, ofInt_half, ofInt_neg]
  rfl

set_option maxHeartbeats 400000 in
theorem step_any (x : BitVec 32) (w : World) :
    Calls Try.prog 45 #[.int .u32 x.toNat] w fun e w' => e = .returned (.int .u32 (Crc.stp x).toNat) ∧ w = w' := by
  go_enter Try.func45, Try.ntmps45
  go_wp2
  go_ret
  exact ⟨ret_u32 (stp_walk x), rfl⟩

theorem rst_walk (x b : BitVec 32) : (bits BinOp.and IntKind.u32 (bits BinOp.xor IntKind.u32 (↑x.toNat) ↑b.toNat) 1 = 1) ↔ ((x ^^^ b) &&& 1#32 = 1#32) := by
  simp only [bits_xor_u32, bits_and_u32, ofInt_toNat]
  constructor
  · intro h
    apply BitVec.eq_of_toNat_eq
    have h1 : BitVec.ofInt 32 1 = 1#32 := by decide
    rw [h1] at h
    have h2 : (1#32).toNat = 1 := by decide
    omega
  · intro h
    have h1 : BitVec.ofInt 32 1 = 1#32 := by decide
    rw [h1, h]
    rfl

theorem poly_walk (x : BitVec 32) : bits BinOp.xor IntKind.u32 (↑x.toNat / 2) 3988292384 = (((x >>> 1) ^^^ Crc.poly).toNat : Int) := by
  simp only [bits_xor_u32, ofInt_half]
  rfl

theorem half_walk (x : BitVec 32) : (x.toNat : Int) / 2 = ((x >>> 1).toNat : Int) := by
  simp only [BitVec.toNat_ushiftRight, Nat.shiftRight_eq_div_pow]
  omega

set_option maxHeartbeats 400000 in
theorem rstep_any (x b : BitVec 32) (w : World) :
    Calls Try.prog 46 #[.int .u32 x.toNat, .int .u32 b.toNat] w fun e w' => e = .returned (.int .u32 (Crc.rst x b).toNat) ∧ w = w' := by
  by_cases hb : (x ^^^ b) &&& 1#32 = 1#32
  · have hb' := (rst_walk x b).2 hb
    have hb2 : (bits BinOp.and IntKind.u32 (bits BinOp.xor IntKind.u32 (↑x.toNat) ↑b.toNat) 1 == 1) = true := by simp [hb']
    clear hb'
    go_enter Try.func46, Try.ntmps46
    go_wp2
    go_ret
    exact ⟨ret_u32 (by unfold Crc.rst; rw [if_pos hb]; exact poly_walk x), rfl⟩
  · have hb' : ¬ _ := fun h => hb ((rst_walk x b).1 h)
    have hb2 : (bits BinOp.and IntKind.u32 (bits BinOp.xor IntKind.u32 (↑x.toNat) ↑b.toNat) 1 == 1) = false := by simpa using hb'
    clear hb'
    go_enter Try.func46, Try.ntmps46
    go_wp2
    go_ret
    exact ⟨ret_u32 (by unfold Crc.rst; rw [if_neg hb]; exact half_walk x), rfl⟩

theorem bits_not_u32 (x : BitVec 32) : bits BinOp.xor IntKind.u32 4294967295 (↑x.toNat) = ((Crc.inv x).toNat : Int) := by
  simp only [bits_xor_u32, ofInt_toNat]
  have h : BitVec.ofInt 32 4294967295 = BitVec.allOnes 32 := by decide
  rw [h, BitVec.allOnes_xor]
  rfl

theorem take_snoc (s : ByteArray) (k : Nat) (h : k < s.size) : s.data.toList.take (k + 1) = s.data.toList.take k ++ [s[k]] := by
  rw [List.take_succ_eq_append_getElem (by simpa using h)]; rfl

/-- The register when k bytes are fed. -/
def regAt (crc : BitVec 32) (l : List UInt8) (k : Nat) : BitVec 32 := Crc.feed (Crc.inv crc) (l.take k)
/-- The register j bits on. -/
def regIn (crc : BitVec 32) (l : List UInt8) (k : Nat) (b : UInt8) (j : Nat) : BitVec 32 := Crc.stps j (regAt crc l k ^^^ Crc.byte b)

theorem regIn_start (crc : BitVec 32) (l : List UInt8) (k : Nat) (b : UInt8) : bits BinOp.xor IntKind.u32 ↑(regAt crc l k).toNat (b.toNat % 4294967296 : Int) = ((regIn crc l k b 0).toNat : Int) := by
  have : (b.toNat % 4294967296 : Int) = b.toNat := by have := b.toNat_lt; omega
  rw [this]
  simp only [bits_xor_u32, ofInt_toNat]
  rfl
theorem regIn_step (crc : BitVec 32) (l : List UInt8) (k : Nat) (b : UInt8) (j : Nat) : Crc.stp (regIn crc l k b j) = regIn crc l k b (j + 1) := by
  unfold regIn; rw [Crc.stps_succ]
theorem regIn_end (crc : BitVec 32) (s : ByteArray) (k : Nat) (h : k < s.size) : regIn crc s.data.toList k s[k] 8 = regAt crc s.data.toList (k + 1) := by
  unfold regAt regIn; rw [take_snoc s k h, Crc.feed_append]; rfl
theorem regAt_end (crc : BitVec 32) (s : ByteArray) (k : Nat) (h : s.size ≤ k) : Crc.inv (regAt crc s.data.toList k) = Crc.more crc s.data.toList := by
  unfold regAt Crc.more; rw [List.take_of_length_le (by simpa using h)]


theorem u32_signed : IntKind.u32.signed = false := rfl
theorem u32_max : IntKind.u32.max = 4294967295 := rfl
attribute [local go_sem] u32_signed u32_max bits_not_u32

set_option maxHeartbeats 400000 in
theorem more_any (crc : BitVec 32) (s : ByteArray) (w : World) (hs : s.size ≤ maxLen) :
    Calls Try.prog 17 #[.int .u32 crc.toNat, .string s] w fun e w' => e = .returned (.int .u32 (Crc.more crc s.data.toList).toNat) ∧ w = w' := by
  unfold maxLen at hs
  go_enter Try.func17, Try.ntmps17
  go_wp2
  go_loop [5, 11] (fun r i => ∃ k : Nat, k ≤ s.size ∧ i = .int .i64 k ∧ r = .int .u32 (regAt crc s.data.toList k).toNat) (fun _ i => s.size - (intOf i).toNat)
  case atStart => exact ⟨0, Nat.zero_le _, rfl, rfl⟩
  case round =>
    obtain ⟨k, hk, rfl, rfl⟩ := hrel
    by_cases hlt : k < s.size
    · have hbx := regIn_start crc s.data.toList k s[k]
      go_wp2
      clear hbx
      go_loopw [5, 20] (fun r i wr => w = wr ∧ ∃ j : Nat, j ≤ 8 ∧ i = .int .i64 j ∧ r = .int .u32 (regIn crc s.data.toList k s[k] j).toNat) (fun _ i _ => 8 - (intOf i).toNat)
      case atStart => exact ⟨rfl, 0, Nat.zero_le _, rfl, rfl⟩
      case round =>
        obtain ⟨rfl, j, hj, rfl, rfl⟩ := hrel
        by_cases hlt2 : j < 8
        · go_wp2_with (go_at_call 45; refine (step_any _ _).mono ?_; rintro e w' ⟨rfl, rfl⟩)
          go_roundw
          case rel => exact ⟨by trivial, j + 1, by omega, by go_num, by rw [regIn_step]⟩
          case measure => simp [intOf]; omega
        · go_wp2
          go_round
          case rel => exact ⟨k + 1, by omega, by go_num, by obtain rfl : j = 8 := by omega
                                                            rw [regIn_end _ _ _ hlt]⟩
          case measure => simp [intOf]; omega
    · go_wp2
      go_ret
      exact ⟨by rw [regAt_end _ _ _ (by omega)]; rfl, rfl⟩

end Go.Proofs.Ytallfhfgplgfpaa
