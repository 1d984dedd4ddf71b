/-
  Numbers out of bytes: plain laws; the reference's Number and Take, walked.
-/
import Derived.Test.YtallfhfgplgfpaaSeals
namespace Go.Proofs.Ytallfhfgplgfpaa
open Go.RowKit

/-- The number of bytes, the lowest first. -/
def numTop : List UInt8 → Nat
  | [] => 0
  | x :: t => numTop t * 256 + x.toNat

theorem numTop_lt (l : List UInt8) : numTop l < 256 ^ l.length := by
  induction l with
  | nil => simp [numTop]
  | cons x t ih =>
    have := x.toNat_lt
    simp only [numTop, List.length_cons, Nat.pow_succ]
    omega

theorem numTop_drop (l : List UInt8) (j : Nat) (h : j < l.length) : numTop (l.drop j) = numTop (l.drop (j + 1)) * 256 + l[j].toNat := by
  rw [List.drop_eq_getElem_cons h]
  rfl

theorem numBytes_cons (n x : Nat) : numBytes (n + 1) x = UInt8.ofNat x :: numBytes n (x / 256) := by
  simp only [numBytes, List.range_succ_eq_map, List.map_cons, List.map_map, Nat.pow_zero, Nat.div_one]
  congr 1
  apply List.map_congr_left
  intro i _
  simp only [Function.comp_apply, Nat.pow_succ]
  rw [Nat.mul_comm, Nat.div_div_eq_div_mul]

theorem numTop_numBytes (n x : Nat) (h : x < 256 ^ n) : numTop (numBytes n x) = x := by
  induction n generalizing x with
  | zero => simp at h; subst h; rfl
  | succ n ih =>
    have : x / 256 < 256 ^ n := by
      rw [Nat.pow_succ] at h
      exact Nat.div_lt_of_lt_mul (by omega)
    rw [numBytes_cons]
    simp only [numTop]
    rw [ih _ this]
    simp only [UInt8.toNat_ofNat']
    omega

theorem numBytes_numTop (l : List UInt8) : numBytes l.length (numTop l) = l := by
  induction l with
  | nil => rfl
  | cons x t ih =>
    have := x.toNat_lt
    rw [List.length_cons, numBytes_cons]
    simp only [numTop]
    rw [show (numTop t * 256 + x.toNat) / 256 = numTop t from by omega, ih]
    congr 1
    apply UInt8.toNat_inj.1
    simp only [UInt8.toNat_ofNat']
    omega

/-- So many bytes from there on. -/
def segAt (s : ByteArray) (p w : Nat) : List UInt8 := (s.data.toList.drop p).take w
theorem segAt_length (s : ByteArray) (p w : Nat) (h : p + w ≤ s.size) : (segAt s p w).length = w := by
  simp [segAt]
  omega
theorem extract_seg (s : ByteArray) (p w : Nat) : (s.extract p (p + w)).data.toList = segAt s p w := by
  simp [segAt, ByteArray.data_extract]

/-- The numbers taken, as far as k. -/
def takesAt (s : ByteArray) (p w k : Nat) : List Nat := (List.range k).map fun i => numTop (segAt s (p + i * w) w)
theorem takesAt_succ (s : ByteArray) (p w k : Nat) : takesAt s p w (k + 1) = takesAt s p w k ++ [numTop (segAt s (p + k * w) w)] := by simp [takesAt, List.range_succ]
theorem takesAt_length (s : ByteArray) (p w k : Nat) : (takesAt s p w k).length = k := by simp [takesAt]

/-- What Take answers. -/
def takeOf (s : ByteArray) (p n : Int) (w : Nat) : List Nat × Int :=
  if p < 0 ∨ n < 0 ∨ (s.size : Int) < p then ([], 2) else if ((s.size : Int) - p) / w < n then ([], 120) else (takesAt s p.toNat w n.toNat, 0)

theorem or_low (x y : Nat) (h : y < 256) : x * 256 ||| y = x * 256 + y := by
  have := Nat.two_pow_add_eq_or_of_lt (i := 8) (b := y) (by simpa using h) x
  rw [show (256 : Nat) = 2 ^ 8 from rfl, Nat.mul_comm x, this]

theorem or_u32 (x y : Nat) (A C : Int) (hA : A = (x : Int) * 256) (hC : C = (y : Int)) (hx : x * 256 < 4294967296) (hy : y < 256) : bits BinOp.or IntKind.u32 A C = ((x * 256 + y : Nat) : Int) := by
  subst hA hC
  rw [bits_or_u32]
  have e1 : BitVec.ofInt 32 ((x : Int) * 256) = BitVec.ofNat 32 (x * 256) := by
    apply BitVec.eq_of_toNat_eq; simp only [BitVec.toNat_ofInt, BitVec.toNat_ofNat]; omega
  have e2 : BitVec.ofInt 32 ((y : Nat) : Int) = BitVec.ofNat 32 y := by
    apply BitVec.eq_of_toNat_eq; simp only [BitVec.toNat_ofInt, BitVec.toNat_ofNat]; omega
  rw [e1, e2, BitVec.toNat_or, BitVec.toNat_ofNat, BitVec.toNat_ofNat, Nat.mod_eq_of_lt (show x * 256 < 2 ^ 32 from hx), Nat.mod_eq_of_lt (Nat.lt_trans hy (by decide)), or_low _ _ hy]
theorem or_u16 (x y : Nat) (A C : Int) (hA : A = (x : Int) * 256) (hC : C = (y : Int)) (hx : x * 256 < 65536) (hy : y < 256) : bits BinOp.or IntKind.u16 A C = ((x * 256 + y : Nat) : Int) := by
  subst hA hC
  show IntKind.u16.wrap ((BitVec.ofInt 16 ((x : Int) * 256) ||| BitVec.ofInt 16 (y : Int)).toNat : Int) = _
  have e1 : BitVec.ofInt 16 ((x : Int) * 256) = BitVec.ofNat 16 (x * 256) := by
    apply BitVec.eq_of_toNat_eq; simp only [BitVec.toNat_ofInt, BitVec.toNat_ofNat]; omega
  have e2 : BitVec.ofInt 16 ((y : Nat) : Int) = BitVec.ofNat 16 y := by
    apply BitVec.eq_of_toNat_eq; simp only [BitVec.toNat_ofInt, BitVec.toNat_ofNat]; omega
  rw [e1, e2, BitVec.toNat_or, BitVec.toNat_ofNat, BitVec.toNat_ofNat, Nat.mod_eq_of_lt (by omega), Nat.mod_eq_of_lt (by omega), or_low _ _ hy]
  simp [IntKind.wrap, IntKind.signed, IntKind.bits]
  omega
theorem or_u8 (x y : Nat) (A C : Int) (hA : A = (x : Int) * 256) (hC : C = (y : Int)) (hx : x * 256 < 256) (hy : y < 256) : bits BinOp.or IntKind.u8 A C = ((x * 256 + y : Nat) : Int) := by
  subst hA hC
  obtain rfl : x = 0 := by omega
  show IntKind.u8.wrap ((BitVec.ofInt 8 ((0 : Nat) * 256 : Int) ||| BitVec.ofInt 8 (y : Int)).toNat : Int) = _
  have e2 : BitVec.ofInt 8 ((y : Nat) : Int) = BitVec.ofNat 8 y := by
    apply BitVec.eq_of_toNat_eq; simp only [BitVec.toNat_ofInt, BitVec.toNat_ofNat]; omega
  have e1 : BitVec.ofInt 8 (((0 : Nat) : Int) * 256) = 0#8 := by decide
  rw [e1, e2, BitVec.zero_or, BitVec.toNat_ofNat, Nat.mod_eq_of_lt (show y < 2 ^ 8 from hy)]
  simp [IntKind.wrap, IntKind.signed, IntKind.bits]
  omega

set_option maxHeartbeats 1000000 in
theorem number_any (s : ByteArray) (w : World) (hs : s.size ≤ 4) :
    Calls Try.prog 68 #[.string s] w fun e w' => e = .returned (.int .u32 (numTop s.data.toList)) ∧ w = w' := by
  go_enter Try.func68, Try.ntmps68
  go_wp2
  go_loop [3, 4] (fun x i => ∃ j : Nat, j ≤ s.size ∧ i = .int .i64 ((j : Int) - 1) ∧ x = .int .u32 (numTop (s.data.toList.drop j))) (fun _ i => (intOf i + 1).toNat)
  case atStart => exact ⟨s.size, Nat.le_refl _, rfl, by rw [List.drop_eq_nil_of_le (by simp)]; rfl⟩
  case round =>
    obtain ⟨j, hj, rfl, rfl⟩ := hrel
    rcases Nat.eq_zero_or_pos j with rfl | hpos
    · go_wp2
      go_ret
      exact ⟨rfl, rfl⟩
    · obtain ⟨i, rfl⟩ : ∃ i, j = i + 1 := ⟨j - 1, by omega⟩
      obtain ⟨x, hx⟩ : ∃ x, x = numTop (s.data.toList.drop (i + 1)) := ⟨_, rfl⟩
      rw [← hx, show (((i + 1 : Nat) : Int) - 1) = (i : Int) from by omega]
      have hlt : i < s.size := by omega
      have hxl : x * 256 < 4294967296 := by
        have := numTop_lt (s.data.toList.drop (i + 1))
        rw [← hx] at this
        have h2 : 256 ^ (s.data.toList.drop (i + 1)).length ≤ 256 ^ 3 := Nat.pow_le_pow_right (by omega) (by simp; omega)
        omega
      have HX := Lib.hid hx
      clear hx
      have h0 : (0 : Int) ≤ (i : Int) := by omega
      have h1 : (i : Int) < (s.size : Int) := by omega
      go_wp2
      go_round
      case rel =>
        refine ⟨i, by omega, rfl, ?_⟩
        rw [numTop_drop _ i (by simpa using hlt), ← HX.out, or_u32 x s[i].toNat _ _ (by omega) (by have := s[i].toNat_lt; omega) hxl s[i].toNat_lt]
        rfl
      case measure => simp [intOf]

end Go.Proofs.Ytallfhfgplgfpaa
