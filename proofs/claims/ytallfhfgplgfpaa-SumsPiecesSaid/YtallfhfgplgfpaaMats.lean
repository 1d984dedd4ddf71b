/-
  A register, by a matrix of 32 rows: the program's 'of' and the reference's 'by', walked: both come to so many steps.
-/
import Derived.Test.YtallfhfgplgfpaaWalks
import Derived.Deep.WholeRow
namespace Go.Proofs.Ytallfhfgplgfpaa
open Go.RowKit

/-- A number's cell. -/
def u32V (x : BitVec 32) : Value := .int .u32 x.toNat
/-- The matrix of so many steps. -/
def mat (n : Nat) : List Value := (List.range 32).map fun j => u32V (Crc.stps n (BitVec.twoPow 32 j))

theorem mat_length (n : Nat) : (mat n).length = 32 := by simp [mat]
theorem mat_at (n j : Nat) (h : j < 32) : (mat n)[j]? = some (u32V (Crc.stps n (BitVec.twoPow 32 j))) := by
  simp [mat, List.getElem?_map, List.getElem?_range h]

/-- What the loop has gathered when k bits are seen. -/
def outOf (n : Nat) (x : BitVec 32) (k : Nat) : BitVec 32 := Crc.stps n (x ^^^ ((x >>> k) <<< k))

theorem high_bit (x : BitVec 32) (k i : Nat) (hi : i < 32) : ((x >>> k) <<< k).getLsbD i = (decide (k ≤ i) && x.getLsbD i) := by
  rw [BitVec.getLsbD_shiftLeft, BitVec.getLsbD_ushiftRight]
  by_cases h : k ≤ i
  · rw [show k + (i - k) = i from by omega]
    have : decide (i < k) = false := by simp; omega
    simp [hi, h, this]
  · have : decide (i < k) = true := by simp; omega
    simp [h, this]

theorem outOf_zero (n : Nat) (x : BitVec 32) : outOf n x 0 = 0#32 := by
  unfold outOf
  simp [Crc.stps_zero]

theorem outOf_end (n : Nat) (x : BitVec 32) (k : Nat) (h : x >>> k = 0#32) : outOf n x k = Crc.stps n x := by
  unfold outOf
  rw [h]
  simp

theorem outOf_skip (n : Nat) (x : BitVec 32) (k : Nat) (h : x.getLsbD k = false) : outOf n x (k + 1) = outOf n x k := by
  unfold outOf
  congr 2
  apply BitVec.eq_of_getLsbD_eq
  intro i hi
  rw [high_bit _ _ _ hi, high_bit _ _ _ hi]
  by_cases e : i = k
  · subst e; simp [h]
  · have : decide (k + 1 ≤ i) = decide (k ≤ i) := by simp only [decide_eq_decide]; omega
    rw [this]

theorem outOf_take (n : Nat) (x : BitVec 32) (k : Nat) (h : x.getLsbD k = true) : outOf n x k ^^^ Crc.stps n (BitVec.twoPow 32 k) = outOf n x (k + 1) := by
  unfold outOf
  rw [← Crc.stps_xor]
  congr 1
  rw [BitVec.xor_assoc]
  congr 1
  apply BitVec.eq_of_getLsbD_eq
  intro i hi
  rw [BitVec.getLsbD_xor, high_bit _ _ _ hi, high_bit _ _ _ hi, BitVec.getLsbD_twoPow]
  by_cases e : i = k
  · subst e; simp [h, hi]
  · have h1 : decide (k + 1 ≤ i) = decide (k ≤ i) := by simp only [decide_eq_decide]; omega
    have h2 : decide (k = i) = false := by simp; omega
    rw [h1, h2]
    simp

theorem low_walk (y : BitVec 32) : bits BinOp.and IntKind.u32 (y.toNat : Int) 1 = (if y.getLsbD 0 then 1 else 0 : Int) := by
  rw [bits_and_u32, ofInt_toNat]
  have e1 : BitVec.ofInt 32 1 = 1#32 := by decide
  rw [e1, BitVec.and_one_eq_setWidth_ofBool_getLsbD]
  cases y.getLsbD 0 <;> rfl

theorem xor_walk (x y : BitVec 32) : bits BinOp.xor IntKind.u32 (x.toNat : Int) (y.toNat : Int) = ((x ^^^ y).toNat : Int) := by
  rw [bits_xor_u32, ofInt_toNat, ofInt_toNat]

theorem mat_cell {w : World} {g n j : Nat} {t : TypeId} (h : w.heap[g]? = some (.cells (mat n).toArray t)) (hj : j < 32) : w.cell? ⟨g, j, none⟩ = some (.int .u32 (Crc.stps n (BitVec.twoPow 32 j)).toNat) := by
  rw [cell_of_row w g j _ t (0, 0) h]
  rw [List.getElem?_toArray]
  exact mat_at n j hj

set_option maxHeartbeats 1000000 in
theorem of_any (g n : Nat) (x : BitVec 32) (w : World) (h : w.heap[g]? = some (.cells (mat n).toArray 92)) :
    Calls Try.prog 62 #[.pointer (some ⟨g, 0, none⟩), .int .u32 x.toNat] w fun e w' => e = .returned (.int .u32 (Crc.stps n x).toNat) ∧ w = w' := by
  have H := Lib.hid h
  clear h
  go_enter Try.func62, Try.ntmps62
  go_wp2
  go_loop [1, 5, 6] (fun r o i => ∃ k : Nat, k ≤ 32 ∧ r = .int .u32 (x >>> k).toNat ∧ o = .int .u32 (outOf n x k).toNat ∧ i = .int .i64 k) (fun _ _ i => 32 - (intOf i).toNat)
  case atStart => exact ⟨0, by omega, by simp, by rw [outOf_zero]; rfl, rfl⟩
  case round =>
    obtain ⟨k, hk, rfl, rfl, rfl⟩ := hrel
    obtain ⟨y, hy⟩ : ∃ y, y = x >>> k := ⟨_, rfl⟩
    rw [← hy]
    have HY := Lib.hid hy
    clear hy
    by_cases hz : y = 0#32
    · have hz2 : ((y.toNat : Int) != 0) = false := by simp [hz]
      have HZ := Lib.hid hz
      clear hz
      go_wp2
      go_ret
      exact ⟨by rw [outOf_end n x k (by rw [← HY.out, HZ.out])]; rfl, rfl⟩
    · have hz2 : ((y.toNat : Int) != 0) = true := by
        rw [bne_iff_ne]
        intro e
        exact hz (BitVec.eq_of_toNat_eq (by simpa using e))
      have hk32 : k < 32 := by
        rcases Nat.lt_or_ge k 32 with h1 | h1
        · exact h1
        · exfalso
          apply hz
          rw [HY.out]
          apply BitVec.eq_of_getLsbD_eq
          intro i hi
          rw [BitVec.getLsbD_ushiftRight, BitVec.getLsbD_of_ge _ _ (by omega)]
          simp
      have hy0 : y.getLsbD 0 = x.getLsbD k := by rw [HY.out, BitVec.getLsbD_ushiftRight, Nat.add_zero]
      have hys : y >>> 1 = x >>> (k + 1) := by rw [HY.out, ← BitVec.shiftRight_add]
      have HZ := Lib.hid hz
      have HYS := Lib.hid hys
      clear hz hys
      have hc := mat_cell H.out hk32
      by_cases hb : x.getLsbD k = true
      · have ht : (bits BinOp.and IntKind.u32 (y.toNat : Int) 1 != 0) = true := by rw [low_walk, hy0, hb]; rfl
        have HBIT := Lib.hid hb
        clear hb hy0
        go_wp2
        go_round
        case rel => exact ⟨k + 1, by omega, congrArg (Value.int .u32) (by rw [← HYS.out]; exact half_walk y), by rw [xor_walk, outOf_take n x k HBIT.out], by go_num⟩
        case measure => simp [intOf]; omega
      · have hb' : x.getLsbD k = false := by simpa using hb
        have ht : (bits BinOp.and IntKind.u32 (y.toNat : Int) 1 != 0) = false := by rw [low_walk, hy0, hb']; rfl
        have HBIT := Lib.hid hb'
        clear hb hb' hy0 hc
        go_wp2
        go_round
        case rel => exact ⟨k + 1, by omega, congrArg (Value.int .u32) (by rw [← HYS.out]; exact half_walk y), by rw [outOf_skip n x k HBIT.out], by go_num⟩
        case measure => simp [intOf]; omega

theorem turn_low (x : BitVec 32) (k : Nat) : bits BinOp.and IntKind.u32 ((x.toNat : Int) / 2 ^ k) 1 = if x.getLsbD k then 1 else 0 := by
  have e : (x.toNat : Int) / 2 ^ k = ((x >>> k).toNat : Int) := by
    rw [BitVec.toNat_ushiftRight, Nat.shiftRight_eq_div_pow]
    simp
  rw [e, low_walk, BitVec.getLsbD_ushiftRight, Nat.add_zero]

set_option maxHeartbeats 1000000 in
theorem by_any (n : Nat) (x : BitVec 32) (w : World) :
    Calls Try.prog 63 #[.agg (mat n).toArray, .int .u32 x.toNat] w fun e w' => e = .returned (.int .u32 (Crc.stps n x).toNat) ∧ Below w.heap.size w w' := by
  have hcell : ∀ k, k < 32 → (w.alloc (.cells (mat n).toArray 91)).cell? ⟨w.heap.size, k, none⟩ = some (.int .u32 (Crc.stps n (BitVec.twoPow 32 k)).toNat) := fun k hk => mat_cell (heap_alloc_last w _) hk
  have H := Lib.hid hcell
  clear hcell
  go_enter Try.func63, Try.ntmps63
  go_wp2
  go_loop [5, 6] (fun o i => ∃ k : Nat, k ≤ 32 ∧ o = .int .u32 (outOf n x k).toNat ∧ i = .int .i64 k) (fun _ i => 32 - (intOf i).toNat)
  case atStart => exact ⟨0, by omega, by rw [outOf_zero]; rfl, rfl⟩
  case round =>
    obtain ⟨k, hk, rfl, rfl⟩ := hrel
    by_cases hk32 : k < 32
    · have hc := H.out k hk32
      by_cases hb : x.getLsbD k = true
      · have ht : (bits BinOp.and IntKind.u32 ((x.toNat : Int) / 2 ^ k) 1 == 1) = true := by rw [turn_low, hb]; rfl
        have HBIT := Lib.hid hb
        clear hb
        go_wp2
        go_round
        case rel => exact ⟨k + 1, by omega, by rw [xor_walk, outOf_take n x k HBIT.out], by go_num⟩
        case measure => simp [intOf]; omega
      · have hb' : x.getLsbD k = false := by simpa using hb
        have ht : (bits BinOp.and IntKind.u32 ((x.toNat : Int) / 2 ^ k) 1 == 1) = false := by rw [turn_low, hb']; rfl
        have HBIT := Lib.hid hb'
        clear hb hb' hc
        go_wp2
        go_round
        case rel => exact ⟨k + 1, by omega, by rw [outOf_skip n x k HBIT.out], by go_num⟩
        case measure => simp [intOf]; omega
    · obtain rfl : k = 32 := by omega
      go_wp2
      go_ret
      exact ⟨by rw [outOf_end n x 32 (BitVec.eq_of_getLsbD_eq fun i hi => by rw [BitVec.getLsbD_ushiftRight, BitVec.getLsbD_of_ge _ _ (by omega)]; simp)]; rfl, (Below.refl _ _).alloc (Nat.le_refl _) _⟩

end Go.Proofs.Ytallfhfgplgfpaa
