/-
  Why a first byte is wrong: need, why; walked.
-/
import Derived.Test.YthkehgmeaedflaaDoorDec
import Derived.Test.YthkehgmeaedflaaDoorShelf
import Derived.BigQuiet
import Derived.Deep.Cut
import Derived.Deep.QuietTactic
namespace Go.Proofs.YthkehgmeaedflaaDoor
open Go.RowKit

theorem ret_int {k : IntKind} {a b : Int} (h : a = b) : Ending.returned (.int k a) = .returned (.int k b) := by rw [h]
theorem ret_bool {a b : Bool} (h : a = b) : Ending.returned (.bool a) = .returned (.bool b) := by rw [h]

/-- How many bytes a sequence has by its first byte. -/
def needOf (b : Nat) : Nat := if b < 128 then 1 else if b < 192 then 0 else if b < 224 then 2 else if b < 240 then 3 else if b < 248 then 4 else 0

set_option maxRecDepth 4000 in
set_option maxHeartbeats 400000 in
theorem need_any (b : Nat) (w : World) (hb : b < 256) : Calls Tryd.prog 77 #[.int .u8 b] w fun e w' => e = .returned (.int .i64 (needOf b)) ∧ w = w' := by
  rcases (show b < 128 ∨ (128 ≤ b ∧ b < 192) ∨ (192 ≤ b ∧ b < 224) ∨ (224 ≤ b ∧ b < 240) ∨ (240 ≤ b ∧ b < 248) ∨ 248 ≤ b from by omega) with h | ⟨h, h'⟩ | ⟨h, h'⟩ | ⟨h, h'⟩ | ⟨h, h'⟩ | h
  all_goals
    go_enter Tryd.func77, Tryd.ntmps77
    go_wp2
    go_ret
    refine ⟨ret_int ?_, rfl⟩
    unfold needOf
    repeat' split
    all_goals first | rfl | omega

/-- The least number that has a sequence of so many bytes. -/
def leastOf (n : Nat) : Nat := if n = 2 then 128 else if n = 3 then 2048 else if n = 4 then 65536 else 0
/-- What is wrong with a sequence whose number is known. -/
def lateOf (n x : Nat) : Nat := if x < leastOf n then 13 else if 55296 ≤ x ∧ x < 57344 then 14 else 15
theorem late_a {n x l : Nat} (hl : leastOf n = l) (h : x < l) : lateOf n x = 13 := by unfold lateOf; rw [hl, if_pos h]
theorem late_b {n x l : Nat} (hl : leastOf n = l) (h : ¬ x < l) (h2 : 55296 ≤ x) (h3 : x < 57344) : lateOf n x = 14 := by unfold lateOf; rw [hl, if_neg h, if_pos ⟨h2, h3⟩]
theorem late_c {n x l : Nat} (hl : leastOf n = l) (h : ¬ x < l) (h2 : ¬ (55296 ≤ x ∧ x < 57344)) : lateOf n x = 15 := by unfold lateOf; rw [hl, if_neg h, if_neg h2]

/-- What is wrong, from a byte on. -/
def whyL (s : ByteArray) (n : Nat) : Nat → Nat → Nat → Nat
  | 0, _, x => lateOf n x
  | k + 1, i, x => if s.size ≤ i then 11 else if (s.get! i).toNat / 64 = 2 then whyL s n k (i + 1) (x * 64 + (s.get! i).toNat % 64) else 12
/-- Why the first byte of a text is wrong. -/
def whyOf (s : ByteArray) : Nat :=
  let b := (s.get! 0).toNat
  if needOf b < 2 then 10 else whyL s (needOf b) (needOf b - 1) 1 (b % (128 / 2 ^ needOf b))

theorem whyL_le (s : ByteArray) (n k i x : Nat) : whyL s n k i x ≤ 15 ∧ 11 ≤ whyL s n k i x := by
  induction k generalizing i x with
  | zero =>
    unfold whyL lateOf
    repeat' split
    all_goals omega
  | succ k ih =>
    unfold whyL
    repeat' split
    · omega
    · exact ih _ _
    · omega
theorem whyOf_le (s : ByteArray) : 10 ≤ whyOf s ∧ whyOf s ≤ 15 := by
  unfold whyOf
  dsimp only
  split
  · omega
  · have := whyL_le s (needOf (s.get! 0).toNat) (needOf (s.get! 0).toNat - 1) 1 ((s.get! 0).toNat % (128 / 2 ^ needOf (s.get! 0).toNat))
    omega

set_option maxRecDepth 100000 in
theorem and_192 : ∀ x : Fin 256, bits .and .u8 ((x.val : Nat) : Int) 192 = ((x.val / 64 * 64 : Nat) : Int) := by decide
set_option maxRecDepth 100000 in
theorem and_63 : ∀ x : Fin 256, bits .and .u8 ((x.val : Nat) : Int) 63 = ((x.val % 64 : Nat) : Int) := by decide
set_option maxRecDepth 100000 in
theorem and_31 : ∀ x : Fin 256, bits .and .i64 ((x.val : Nat) : Int) 31 = ((x.val % 32 : Nat) : Int) := by decide
set_option maxRecDepth 100000 in
theorem and_15 : ∀ x : Fin 256, bits .and .i64 ((x.val : Nat) : Int) 15 = ((x.val % 16 : Nat) : Int) := by decide
set_option maxRecDepth 100000 in
theorem and_7 : ∀ x : Fin 256, bits .and .i64 ((x.val : Nat) : Int) 7 = ((x.val % 8 : Nat) : Int) := by decide

theorem or_six (x y : Nat) (hx : x < 4294967296) (hy : y < 64) : bits BinOp.or IntKind.i64 ((x : Int) * 64) (y : Int) = ((x * 64 + y : Nat) : Int) := by
  show IntKind.i64.wrap ((BitVec.ofInt 64 ((x : Int) * 64) ||| BitVec.ofInt 64 (y : Int)).toNat : Int) = _
  have e1 : (BitVec.ofInt 64 ((x : Int) * 64)).toNat = x * 64 := by simp only [BitVec.toNat_ofInt]; omega
  have e2 : (BitVec.ofInt 64 (y : Int)).toNat = y := by simp only [BitVec.toNat_ofInt]; omega
  rw [BitVec.toNat_or, e1, e2]
  have e3 : x * 64 ||| y = x * 64 + y := by
    have := Nat.two_pow_add_eq_or_of_lt (i := 6) (b := y) (by omega) x
    rw [show (2 : Nat) ^ 6 = 64 from rfl] at this
    rw [Nat.mul_comm, ← this]
  rw [e3]
  simp [IntKind.wrap, IntKind.signed, IntKind.bits]
  omega

set_option maxRecDepth 20000 in
set_option maxHeartbeats 2000000 in
theorem why_lead (s : ByteArray) (w : World) (h0 : 0 < s.size) (b0 : Nat) (hb0 : s[0].toNat = b0) (hn : needOf b0 < 2) : Calls Tryd.prog 73 #[.string s] w fun e w' => e = .returned (.int .i64 10) ∧ Below w.heap.size w w' := by
  have hbb : b0 < 256 := by rw [← hb0]; exact s[0].toNat_lt
  have hz0 : (0 : Int) < (s.size : Int) := by omega
  have hn2 : (needOf b0 : Int) < 2 := by omega
  go_enter Tryd.func73, Tryd.ntmps73
  go_wp2_with (go_at_call 77; refine (need_any b0 _ hbb).mono ?_; rintro e w' ⟨rfl, rfl⟩)
  go_ret
  exact ⟨rfl, Below.refl _ _⟩

theorem get_zero (s : ByteArray) (i : Nat) (h : i < s.size) (b : Nat) (hb : s[i].toNat = b) : (s.get! i).toNat = b := by rw [get_at2 s i h, hb]

set_option maxRecDepth 20000 in
set_option maxHeartbeats 4000000 in
theorem why_2 (s : ByteArray) (w : World) (hs : s.size ≤ 140737488355328) (h0 : 0 < s.size) (b0 : Nat) (hb0 : s[0].toNat = b0) (hn : needOf b0 = 2) :
    Calls Tryd.prog 73 #[.string s] w fun e w' => e = .returned (.int .i64 (whyL s 2 (2 - 1) 1 (b0 % 32))) ∧ Below w.heap.size w w' := by
  have hbb : b0 < 256 := by rw [← hb0]; exact s[0].toNat_lt
  have hz0 : (0 : Int) < (s.size : Int) := by omega
  have cM := and_31 ⟨b0, hbb⟩
  simp only at cM
  obtain ⟨R, hR⟩ : ∃ R, whyL s 2 (2 - 1) 1 (b0 % 32) = R := ⟨_, rfl⟩
  have HR := Lib.hid hR
  rw [hR]
  clear hR
  go_enter Tryd.func73, Tryd.ntmps73
  go_wp2_with (go_at_call 77; refine (need_any b0 _ hbb).mono ?_; rw [hn]; rintro e w' ⟨rfl, rfl⟩)
  go_quiet (fail)
  have hbq := below_drewN (Below.refl w.heap.size w) nq
  generalize w.drewN nq = W at *
  have HBQ := Lib.hid hbq
  clear cM hb0 hn hbq
  go_wp2_with fail
  go_loopw [4, 5] (fun x i wr => W = wr ∧ ∃ (k j y : Nat), j + k = 2 ∧ ((j = 1 ∧ y < 64) ∨ (j = 2 ∧ y < 4096) ∨ (j = 3 ∧ y < 262144) ∨ (j = 4 ∧ y < 16777216)) ∧ i = .int .i64 j ∧ x = .int .i64 y ∧ Hid (whyL s 2 k j y = R)) (fun _ i _ => 2 - (intOf i).toNat)
  case atStart => exact ⟨rfl, 2 - 1, 1, b0 % 32, by omega, by omega, rfl, rfl, HR⟩
  case round =>
    obtain ⟨rfl, k, j, y, hk, hy, rfl, rfl, HQ⟩ := hrel
    have hj1 : 1 ≤ j := by omega
    have hyb : y < 16777216 := by omega
    by_cases hlt : j < 2
    · obtain ⟨k, rfl⟩ : ∃ k', k = k' + 1 := ⟨k - 1, by omega⟩
      have hji : (j : Int) < 2 := by omega
      by_cases hsz : s.size ≤ j
      · have hszi : (s.size : Int) ≤ (j : Int) := by omega
        obtain rfl : 11 = R := by
          have := HQ.out
          unfold whyL at this
          rw [if_pos hsz] at this
          exact this
        go_wp2
        go_ret
        exact ⟨rfl, HBQ.out⟩
      · have hjl : j < s.size := by omega
        have hszi : (j : Int) < (s.size : Int) := by omega
        have hj0 : (0 : Int) ≤ (j : Int) := by omega
        obtain ⟨b, hb⟩ : ∃ b, s[j].toNat = b := ⟨_, rfl⟩
        have hbl : b < 256 := by rw [← hb]; exact s[j].toNat_lt
        have hg := get_zero s j hjl b hb
        have c1 := and_192 ⟨b, hbl⟩
        have c2 := and_63 ⟨b, hbl⟩
        simp only at c1 c2
        by_cases hq : b / 64 = 2
        · rw [hq] at c1
          have HQ2 : Hid (whyL s 2 k (j + 1) (y * 64 + b % 64) = R) := by
            have := HQ.out
            unfold whyL at this
            rw [if_neg hsz, hg, if_pos hq] at this
            exact this
          have c3 := or_six y (b % 64) (by omega) (Nat.mod_lt _ (by decide))
          rw [show ((b % 64 : Nat) : Int) = (b : Int) % 64 from by omega] at c3
          clear hg hq hsz
          go_wp2
          go_roundw
          case rel => exact ⟨by trivial, k, j + 1, y * 64 + b % 64, by omega, by omega, by go_num, by first | rfl | go_num | (rw [c3]), HQ2⟩
          case measure => simp [intOf]; omega
        · have c4 : (bits BinOp.and IntKind.u8 (b : Int) 192 != 128) = true := by
            rw [c1, bne_iff_ne]
            omega
          obtain rfl : 12 = R := by
            have := HQ.out
            unfold whyL at this
            rw [if_neg hsz, hg, if_neg hq] at this
            exact this
          clear hg hq hsz c1
          go_wp2
          go_ret
          exact ⟨rfl, HBQ.out⟩
    · obtain rfl : j = 2 := by omega
      obtain rfl : k = 0 := by omega
      clear hyb hy hlt hk hj1
      have hR2 : lateOf 2 y = R := HQ.out
      clear HQ
      by_cases h1 : y < 128
      · obtain rfl : 13 = R := (late_a rfl h1).symm.trans hR2
        have h1i : (y : Int) < 128 := by omega
        clear hR2
        go_wp2
        go_ret
        exact ⟨rfl, HBQ.out.alloc HBQ.out.size _⟩
      · have h1i : decide ((y : Int) < 128) = false := by simp; omega
        by_cases h2 : 55296 ≤ y
        · have h2i : decide ((55296 : Int) ≤ y) = true := by simp; omega
          by_cases h3 : y < 57344
          · obtain rfl : 14 = R := (late_b rfl h1 h2 h3).symm.trans hR2
            have h3i : decide ((y : Int) < 57344) = true := by simp; omega
            clear hR2 h1 h2 h3
            go_wp2
            go_ret
            exact ⟨rfl, HBQ.out.alloc HBQ.out.size _⟩
          · obtain rfl : 15 = R := (late_c rfl h1 (fun h => h3 h.2)).symm.trans hR2
            have h3i : decide ((y : Int) < 57344) = false := by simp; omega
            clear hR2 h1 h2 h3
            go_wp2
            go_ret
            exact ⟨rfl, HBQ.out.alloc HBQ.out.size _⟩
        · obtain rfl : 15 = R := (late_c rfl h1 (fun h => h2 h.1)).symm.trans hR2
          have h2i : decide ((55296 : Int) ≤ y) = false := by simp; omega
          clear hR2 h1 h2
          go_wp2
          go_ret
          exact ⟨rfl, HBQ.out.alloc HBQ.out.size _⟩

set_option maxRecDepth 20000 in
set_option maxHeartbeats 4000000 in
theorem why_3 (s : ByteArray) (w : World) (hs : s.size ≤ 140737488355328) (h0 : 0 < s.size) (b0 : Nat) (hb0 : s[0].toNat = b0) (hn : needOf b0 = 3) :
    Calls Tryd.prog 73 #[.string s] w fun e w' => e = .returned (.int .i64 (whyL s 3 (3 - 1) 1 (b0 % 16))) ∧ Below w.heap.size w w' := by
  have hbb : b0 < 256 := by rw [← hb0]; exact s[0].toNat_lt
  have hz0 : (0 : Int) < (s.size : Int) := by omega
  have cM := and_15 ⟨b0, hbb⟩
  simp only at cM
  obtain ⟨R, hR⟩ : ∃ R, whyL s 3 (3 - 1) 1 (b0 % 16) = R := ⟨_, rfl⟩
  have HR := Lib.hid hR
  rw [hR]
  clear hR
  go_enter Tryd.func73, Tryd.ntmps73
  go_wp2_with (go_at_call 77; refine (need_any b0 _ hbb).mono ?_; rw [hn]; rintro e w' ⟨rfl, rfl⟩)
  go_quiet (fail)
  have hbq := below_drewN (Below.refl w.heap.size w) nq
  generalize w.drewN nq = W at *
  have HBQ := Lib.hid hbq
  clear cM hb0 hn hbq
  go_wp2_with fail
  go_loopw [4, 5] (fun x i wr => W = wr ∧ ∃ (k j y : Nat), j + k = 3 ∧ ((j = 1 ∧ y < 64) ∨ (j = 2 ∧ y < 4096) ∨ (j = 3 ∧ y < 262144) ∨ (j = 4 ∧ y < 16777216)) ∧ i = .int .i64 j ∧ x = .int .i64 y ∧ Hid (whyL s 3 k j y = R)) (fun _ i _ => 3 - (intOf i).toNat)
  case atStart => exact ⟨rfl, 3 - 1, 1, b0 % 16, by omega, by omega, rfl, rfl, HR⟩
  case round =>
    obtain ⟨rfl, k, j, y, hk, hy, rfl, rfl, HQ⟩ := hrel
    have hj1 : 1 ≤ j := by omega
    have hyb : y < 16777216 := by omega
    by_cases hlt : j < 3
    · obtain ⟨k, rfl⟩ : ∃ k', k = k' + 1 := ⟨k - 1, by omega⟩
      have hji : (j : Int) < 3 := by omega
      by_cases hsz : s.size ≤ j
      · have hszi : (s.size : Int) ≤ (j : Int) := by omega
        obtain rfl : 11 = R := by
          have := HQ.out
          unfold whyL at this
          rw [if_pos hsz] at this
          exact this
        go_wp2
        go_ret
        exact ⟨rfl, HBQ.out⟩
      · have hjl : j < s.size := by omega
        have hszi : (j : Int) < (s.size : Int) := by omega
        have hj0 : (0 : Int) ≤ (j : Int) := by omega
        obtain ⟨b, hb⟩ : ∃ b, s[j].toNat = b := ⟨_, rfl⟩
        have hbl : b < 256 := by rw [← hb]; exact s[j].toNat_lt
        have hg := get_zero s j hjl b hb
        have c1 := and_192 ⟨b, hbl⟩
        have c2 := and_63 ⟨b, hbl⟩
        simp only at c1 c2
        by_cases hq : b / 64 = 2
        · rw [hq] at c1
          have HQ2 : Hid (whyL s 3 k (j + 1) (y * 64 + b % 64) = R) := by
            have := HQ.out
            unfold whyL at this
            rw [if_neg hsz, hg, if_pos hq] at this
            exact this
          have c3 := or_six y (b % 64) (by omega) (Nat.mod_lt _ (by decide))
          rw [show ((b % 64 : Nat) : Int) = (b : Int) % 64 from by omega] at c3
          clear hg hq hsz
          go_wp2
          go_roundw
          case rel => exact ⟨by trivial, k, j + 1, y * 64 + b % 64, by omega, by omega, by go_num, by first | rfl | go_num | (rw [c3]), HQ2⟩
          case measure => simp [intOf]; omega
        · have c4 : (bits BinOp.and IntKind.u8 (b : Int) 192 != 128) = true := by
            rw [c1, bne_iff_ne]
            omega
          obtain rfl : 12 = R := by
            have := HQ.out
            unfold whyL at this
            rw [if_neg hsz, hg, if_neg hq] at this
            exact this
          clear hg hq hsz c1
          go_wp2
          go_ret
          exact ⟨rfl, HBQ.out⟩
    · obtain rfl : j = 3 := by omega
      obtain rfl : k = 0 := by omega
      clear hyb hy hlt hk hj1
      have hR2 : lateOf 3 y = R := HQ.out
      clear HQ
      by_cases h1 : y < 2048
      · obtain rfl : 13 = R := (late_a rfl h1).symm.trans hR2
        have h1i : (y : Int) < 2048 := by omega
        clear hR2
        go_wp2
        go_ret
        exact ⟨rfl, HBQ.out.alloc HBQ.out.size _⟩
      · have h1i : decide ((y : Int) < 2048) = false := by simp; omega
        by_cases h2 : 55296 ≤ y
        · have h2i : decide ((55296 : Int) ≤ y) = true := by simp; omega
          by_cases h3 : y < 57344
          · obtain rfl : 14 = R := (late_b rfl h1 h2 h3).symm.trans hR2
            have h3i : decide ((y : Int) < 57344) = true := by simp; omega
            clear hR2 h1 h2 h3
            go_wp2
            go_ret
            exact ⟨rfl, HBQ.out.alloc HBQ.out.size _⟩
          · obtain rfl : 15 = R := (late_c rfl h1 (fun h => h3 h.2)).symm.trans hR2
            have h3i : decide ((y : Int) < 57344) = false := by simp; omega
            clear hR2 h1 h2 h3
            go_wp2
            go_ret
            exact ⟨rfl, HBQ.out.alloc HBQ.out.size _⟩
        · obtain rfl : 15 = R := (late_c rfl h1 (fun h => h2 h.1)).symm.trans hR2
          have h2i : decide ((55296 : Int) ≤ y) = false := by simp; omega
          clear hR2 h1 h2
          go_wp2
          go_ret
          exact ⟨rfl, HBQ.out.alloc HBQ.out.size _⟩

set_option maxRecDepth 20000 in
set_option maxHeartbeats 4000000 in
theorem why_4 (s : ByteArray) (w : World) (hs : s.size ≤ 140737488355328) (h0 : 0 < s.size) (b0 : Nat) (hb0 : s[0].toNat = b0) (hn : needOf b0 = 4) :
    Calls Tryd.prog 73 #[.string s] w fun e w' => e = .returned (.int .i64 (whyL s 4 (4 - 1) 1 (b0 % 8))) ∧ Below w.heap.size w w' := by
  have hbb : b0 < 256 := by rw [← hb0]; exact s[0].toNat_lt
  have hz0 : (0 : Int) < (s.size : Int) := by omega
  have cM := and_7 ⟨b0, hbb⟩
  simp only at cM
  obtain ⟨R, hR⟩ : ∃ R, whyL s 4 (4 - 1) 1 (b0 % 8) = R := ⟨_, rfl⟩
  have HR := Lib.hid hR
  rw [hR]
  clear hR
  go_enter Tryd.func73, Tryd.ntmps73
  go_wp2_with (go_at_call 77; refine (need_any b0 _ hbb).mono ?_; rw [hn]; rintro e w' ⟨rfl, rfl⟩)
  go_quiet (fail)
  have hbq := below_drewN (Below.refl w.heap.size w) nq
  generalize w.drewN nq = W at *
  have HBQ := Lib.hid hbq
  clear cM hb0 hn hbq
  go_wp2_with fail
  go_loopw [4, 5] (fun x i wr => W = wr ∧ ∃ (k j y : Nat), j + k = 4 ∧ ((j = 1 ∧ y < 64) ∨ (j = 2 ∧ y < 4096) ∨ (j = 3 ∧ y < 262144) ∨ (j = 4 ∧ y < 16777216)) ∧ i = .int .i64 j ∧ x = .int .i64 y ∧ Hid (whyL s 4 k j y = R)) (fun _ i _ => 4 - (intOf i).toNat)
  case atStart => exact ⟨rfl, 4 - 1, 1, b0 % 8, by omega, by omega, rfl, rfl, HR⟩
  case round =>
    obtain ⟨rfl, k, j, y, hk, hy, rfl, rfl, HQ⟩ := hrel
    have hj1 : 1 ≤ j := by omega
    have hyb : y < 16777216 := by omega
    by_cases hlt : j < 4
    · obtain ⟨k, rfl⟩ : ∃ k', k = k' + 1 := ⟨k - 1, by omega⟩
      have hji : (j : Int) < 4 := by omega
      by_cases hsz : s.size ≤ j
      · have hszi : (s.size : Int) ≤ (j : Int) := by omega
        obtain rfl : 11 = R := by
          have := HQ.out
          unfold whyL at this
          rw [if_pos hsz] at this
          exact this
        go_wp2
        go_ret
        exact ⟨rfl, HBQ.out⟩
      · have hjl : j < s.size := by omega
        have hszi : (j : Int) < (s.size : Int) := by omega
        have hj0 : (0 : Int) ≤ (j : Int) := by omega
        obtain ⟨b, hb⟩ : ∃ b, s[j].toNat = b := ⟨_, rfl⟩
        have hbl : b < 256 := by rw [← hb]; exact s[j].toNat_lt
        have hg := get_zero s j hjl b hb
        have c1 := and_192 ⟨b, hbl⟩
        have c2 := and_63 ⟨b, hbl⟩
        simp only at c1 c2
        by_cases hq : b / 64 = 2
        · rw [hq] at c1
          have HQ2 : Hid (whyL s 4 k (j + 1) (y * 64 + b % 64) = R) := by
            have := HQ.out
            unfold whyL at this
            rw [if_neg hsz, hg, if_pos hq] at this
            exact this
          have c3 := or_six y (b % 64) (by omega) (Nat.mod_lt _ (by decide))
          rw [show ((b % 64 : Nat) : Int) = (b : Int) % 64 from by omega] at c3
          clear hg hq hsz
          go_wp2
          go_roundw
          case rel => exact ⟨by trivial, k, j + 1, y * 64 + b % 64, by omega, by omega, by go_num, by first | rfl | go_num | (rw [c3]), HQ2⟩
          case measure => simp [intOf]; omega
        · have c4 : (bits BinOp.and IntKind.u8 (b : Int) 192 != 128) = true := by
            rw [c1, bne_iff_ne]
            omega
          obtain rfl : 12 = R := by
            have := HQ.out
            unfold whyL at this
            rw [if_neg hsz, hg, if_neg hq] at this
            exact this
          clear hg hq hsz c1
          go_wp2
          go_ret
          exact ⟨rfl, HBQ.out⟩
    · obtain rfl : j = 4 := by omega
      obtain rfl : k = 0 := by omega
      clear hyb hy hlt hk hj1
      have hR2 : lateOf 4 y = R := HQ.out
      clear HQ
      by_cases h1 : y < 65536
      · obtain rfl : 13 = R := (late_a rfl h1).symm.trans hR2
        have h1i : (y : Int) < 65536 := by omega
        clear hR2
        go_wp2
        go_ret
        exact ⟨rfl, HBQ.out.alloc HBQ.out.size _⟩
      · have h1i : decide ((y : Int) < 65536) = false := by simp; omega
        by_cases h2 : 55296 ≤ y
        · have h2i : decide ((55296 : Int) ≤ y) = true := by simp; omega
          by_cases h3 : y < 57344
          · obtain rfl : 14 = R := (late_b rfl h1 h2 h3).symm.trans hR2
            have h3i : decide ((y : Int) < 57344) = true := by simp; omega
            clear hR2 h1 h2 h3
            go_wp2
            go_ret
            exact ⟨rfl, HBQ.out.alloc HBQ.out.size _⟩
          · obtain rfl : 15 = R := (late_c rfl h1 (fun h => h3 h.2)).symm.trans hR2
            have h3i : decide ((y : Int) < 57344) = false := by simp; omega
            clear hR2 h1 h2 h3
            go_wp2
            go_ret
            exact ⟨rfl, HBQ.out.alloc HBQ.out.size _⟩
        · obtain rfl : 15 = R := (late_c rfl h1 (fun h => h2 h.1)).symm.trans hR2
          have h2i : decide ((55296 : Int) ≤ y) = false := by simp; omega
          clear hR2 h1 h2
          go_wp2
          go_ret
          exact ⟨rfl, HBQ.out.alloc HBQ.out.size _⟩

theorem why_any (s : ByteArray) (w : World) (hs : s.size ≤ 140737488355328) (h0 : 0 < s.size) : Calls Tryd.prog 73 #[.string s] w fun e w' => e = .returned (.int .i64 (whyOf s)) ∧ Below w.heap.size w w' := by
  obtain ⟨b0, hb0⟩ : ∃ b0, s[0].toNat = b0 := ⟨_, rfl⟩
  have hbb : b0 < 256 := by rw [← hb0]; exact s[0].toNat_lt
  have hg := get_zero s 0 h0 b0 hb0
  rcases (show needOf b0 < 2 ∨ needOf b0 = 2 ∨ needOf b0 = 3 ∨ needOf b0 = 4 from by unfold needOf; (repeat' split) <;> omega) with h | h | h | h
  · have : whyOf s = 10 := by unfold whyOf; simp only [hg]; rw [if_pos h]
    rw [this]
    exact why_lead s w h0 b0 hb0 h
  all_goals
    have hw : whyOf s = whyL s (needOf b0) (needOf b0 - 1) 1 (b0 % (128 / 2 ^ needOf b0)) := by unfold whyOf; simp only [hg]; rw [if_neg (by omega)]
    rw [hw, h]
  · exact why_2 s w hs h0 b0 hb0 h
  · exact why_3 s w hs h0 b0 hb0 h
  · exact why_4 s w hs h0 b0 hb0 h

end Go.Proofs.YthkehgmeaedflaaDoor
