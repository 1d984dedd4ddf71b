/-
  The sum of parts: the program's and the reference's, walked. What each comes to is one plain function of the bytes.
-/
import Derived.Test.YtallfhfgplgfpaaBase
namespace Go.Proofs.Ytallfhfgplgfpaa
open Go.RowKit
attribute [local go_sem] u32_signed u32_max bits_not_u32

/-- The sum of parts. -/
def crcOf (ss : List ByteArray) : BitVec 32 := ss.foldl (fun c s => Crc.more c s.data.toList) 0#32

theorem crcOf_take (ss : List ByteArray) (k : Nat) (s : ByteArray) (h : ss[k]? = some s) : Crc.more (crcOf (ss.take k)) s.data.toList = crcOf (ss.take (k + 1)) := by
  unfold crcOf
  rw [List.take_add_one, h]
  simp
theorem crcOf_end (ss : List ByteArray) (k : Nat) (h : ss.length ≤ k) : crcOf (ss.take k) = crcOf ss := by
  rw [List.take_of_length_le h]

set_option maxHeartbeats 400000 in
theorem crc_any (a : Option Addr) (c : Nat) (ss : List ByteArray) (w : World) (hn : ss.length ≤ maxLen) (hs : ∀ s ∈ ss, s.size ≤ maxLen) (hr : Cells w a (ss.map Value.string)) :
    Calls Try.prog 15 #[.slice a ss.length c] w fun e w' => e = .returned (.int .u32 (crcOf ss).toNat) ∧ w = w' := by
  unfold maxLen at hn
  have HS := Lib.hid hs
  have HR := Lib.hid hr
  clear hs hr
  go_enter Try.func15, Try.ntmps15
  go_wp2
  go_loop [3, 8] (fun r i => ∃ k : Nat, k ≤ ss.length ∧ i = .int .i64 k ∧ r = .int .u32 (crcOf (ss.take k)).toNat) (fun _ i => ss.length - (intOf i).toNat)
  case atStart => exact ⟨0, Nat.zero_le _, rfl, rfl⟩
  case round =>
    obtain ⟨k, hk, rfl, rfl⟩ := hrel
    by_cases hlt : k < ss.length
    · obtain ⟨b, off, s, rfl, hsk, hck⟩ := HR.out.at hlt
      have hsz := HS.out s (List.mem_of_getElem? hsk)
      have HK := Lib.hid hsk
      clear hsk
      go_wp2_with (go_at_call 17; refine (more_any _ _ _ hsz).mono ?_; rintro e w' ⟨rfl, rfl⟩)
      go_round
      case rel => exact ⟨k + 1, by omega, by go_num, by rw [crcOf_take ss k s HK.out]⟩
      case measure => simp [intOf]; omega
    · go_wp2
      go_ret
      exact ⟨by rw [crcOf_end _ _ (by omega)]; rfl, rfl⟩

/-- The register when the byte b and k bytes ahead of it are fed as far as j bits. -/
def rIn (crc : BitVec 32) (l : List UInt8) (k : Nat) (b : UInt8) (j : Nat) : BitVec 32 := Crc.bitsIn (regAt crc l k) (Crc.byte b) j
def rBit (b : UInt8) (j : Nat) : BitVec 32 := (Crc.byte b >>> j) &&& 1#32
theorem rIn_start (crc : BitVec 32) (l : List UInt8) (k : Nat) (b : UInt8) : regAt crc l k = rIn crc l k b 0 := rfl
theorem rIn_step (crc : BitVec 32) (l : List UInt8) (k : Nat) (b : UInt8) (j : Nat) : Crc.rst (rIn crc l k b j) (rBit b j) = rIn crc l k b (j + 1) := rfl
theorem rIn_end (crc : BitVec 32) (s : ByteArray) (k : Nat) (h : k < s.size) : rIn crc s.data.toList k s[k] 8 = regAt crc s.data.toList (k + 1) := by
  unfold rIn; rw [Crc.bitsIn_byte]; unfold regAt; rw [take_snoc s k h, Crc.feed_append]; rfl
theorem rBit_walk (b : UInt8) (j : Nat) : bits BinOp.and IntKind.u32 ((b.toNat : Int) / 2 ^ j % 4294967296) 1 = ((rBit b j).toNat : Int) := by
  rw [bits_and_u32]
  unfold rBit
  congr 2
  congr 1
  apply BitVec.eq_of_toNat_eq
  have hb := b.toNat_lt
  have e : ((b.toNat : Int) / 2 ^ j % 4294967296) = ((b.toNat / 2 ^ j % 4294967296 : Nat) : Int) := by simp
  rw [e]
  have h2 : b.toNat / 2 ^ j ≤ b.toNat := Nat.div_le_self _ _
  simp only [BitVec.toNat_ofInt, Crc.byte, BitVec.toNat_ushiftRight, BitVec.toNat_ofNat, Nat.shiftRight_eq_div_pow]
  rw [Nat.mod_eq_of_lt (a := b.toNat) (by omega)]
  generalize b.toNat / 2 ^ j = y at *
  omega

set_option maxHeartbeats 400000 in
theorem rmore_any (crc : BitVec 32) (s : ByteArray) (w : World) (hs : s.size ≤ maxLen) :
    Calls Try.prog 18 #[.int .u32 crc.toNat, .string s] w fun e w' => e = .returned (.int .u32 (Crc.more crc s.data.toList).toNat) ∧ w = w' := by
  unfold maxLen at hs
  go_enter Try.func18, Try.ntmps18
  go_wp2
  go_loop [5, 6] (fun r i => ∃ k : Nat, k ≤ s.size ∧ i = .int .i64 k ∧ r = .int .u32 (regAt crc s.data.toList k).toNat) (fun _ i => s.size - (intOf i).toNat)
  case atStart => exact ⟨0, Nat.zero_le _, rfl, rfl⟩
  case round =>
    obtain ⟨k, hk, rfl, rfl⟩ := hrel
    by_cases hlt : k < s.size
    · go_wp2
      go_loopw [5, 7] (fun r i wr => w = wr ∧ ∃ j : Nat, j ≤ 8 ∧ i = .int .i64 j ∧ r = .int .u32 (rIn crc s.data.toList k s[k] j).toNat) (fun _ i _ => 8 - (intOf i).toNat)
      case atStart => exact ⟨rfl, 0, Nat.zero_le _, rfl, rfl⟩
      case round =>
        obtain ⟨rfl, j, hj, rfl, rfl⟩ := hrel
        by_cases hlt2 : j < 8
        · go_wp2_with (go_at_call 46; rw [rBit_walk]; refine (rstep_any _ _ _).mono ?_; rintro e w' ⟨rfl, rfl⟩)
          go_roundw
          case rel => exact ⟨by trivial, j + 1, by omega, by go_num, by rw [rIn_step]⟩
          case measure => simp [intOf]; omega
        · go_wp2
          go_round
          case rel => exact ⟨k + 1, by omega, by go_num, by obtain rfl : j = 8 := by omega
                                                            rw [rIn_end _ _ _ hlt]⟩
          case measure => simp [intOf]; omega
    · go_wp2
      go_ret
      exact ⟨by rw [regAt_end _ _ _ (by omega)]; rfl, rfl⟩

set_option maxHeartbeats 400000 in
theorem rcrc_any (a : Option Addr) (c : Nat) (ss : List ByteArray) (w : World) (hn : ss.length ≤ maxLen) (hs : ∀ s ∈ ss, s.size ≤ maxLen) (hr : Cells w a (ss.map Value.string)) :
    Calls Try.prog 16 #[.slice a ss.length c] w fun e w' => e = .returned (.int .u32 (crcOf ss).toNat) ∧ w = w' := by
  unfold maxLen at hn
  have HS := Lib.hid hs
  have HR := Lib.hid hr
  clear hs hr
  go_enter Try.func16, Try.ntmps16
  go_wp2
  go_loop [3, 4] (fun r i => ∃ k : Nat, k ≤ ss.length ∧ i = .int .i64 k ∧ r = .int .u32 (crcOf (ss.take k)).toNat) (fun _ i => ss.length - (intOf i).toNat)
  case atStart => exact ⟨0, Nat.zero_le _, rfl, rfl⟩
  case round =>
    obtain ⟨k, hk, rfl, rfl⟩ := hrel
    by_cases hlt : k < ss.length
    · obtain ⟨b, off, s, rfl, hsk, hck⟩ := HR.out.at hlt
      have hsz := HS.out s (List.mem_of_getElem? hsk)
      have HK := Lib.hid hsk
      clear hsk
      go_wp2_with (go_at_call 18; refine (rmore_any _ _ _ hsz).mono ?_; rintro e w' ⟨rfl, rfl⟩)
      go_round
      case rel => exact ⟨k + 1, by omega, by go_num, by rw [crcOf_take ss k s HK.out]⟩
      case measure => simp [intOf]; omega
    · go_wp2
      go_ret
      exact ⟨by rw [crcOf_end _ _ (by omega)]; rfl, rfl⟩

end Go.Proofs.Ytallfhfgplgfpaa
