/-
  What a sequence's bits make: the reference's number, walked at two, three and four bytes. Printed by a program of ours (gennum.py).
-/
import Derived.Test.YthkehgmeaedflaaDoorRPartM
import Derived.Test.YthkehgmeaedflaaDoorREnc
namespace Go.Proofs.YthkehgmeaedflaaDoor
open Go.RowKit


set_option maxRecDepth 20000 in
set_option maxHeartbeats 4000000 in
theorem number_2 (t : ByteArray) (w : World) (hz : t.size = 2) :
    Calls Tryd.prog 82 #[.string t] w fun e w' => e = .returned (.int .i64 (numOf t)) ∧ Below w.heap.size w w' := by
  have h0 : 0 < t.size := by omega
  obtain ⟨b0, hb0⟩ : ∃ b, t[0].toNat = b := ⟨_, rfl⟩
  have hbb : b0 < 256 := by rw [← hb0]; exact t[0].toNat_lt
  have hg0 := get_zero t 0 h0 b0 hb0
  obtain ⟨R, hR⟩ : ∃ R, R = numOf t := ⟨_, rfl⟩
  rw [← hR]
  unfold numOf at hR
  rw [hg0] at hR
  rw [if_pos hz] at hR
  have hm := and_mask b0 5 hbb 31 (by decide)
  rw [show (2 : Nat) ^ 5 = 32 from rfl] at hm
  obtain ⟨m, hmm⟩ : ∃ m, m = b0 % 32 := ⟨_, rfl⟩
  rw [← hmm] at hm hR
  have hmb : m < 32 := by omega
  have hzi : (t.size : Int) = 2 := by omega
  have HR := Lib.hid hR
  have HZ := Lib.hid hz
  clear hmm hg0 hR hz
  go_enter Tryd.func82, Tryd.ntmps82
  go_wp2_with fail
  go_quiet (fail)
  have hbq : Below w.heap.size w ((w.alloc (.cells #[.int .i64 0, .int .i64 127, .int .i64 31, .int .i64 15, .int .i64 7] 3)).drewN nq) := below_drewN ((Below.refl w.heap.size w).alloc (Nat.le_refl _) _) nq
  generalize (w.alloc (.cells #[.int .i64 0, .int .i64 127, .int .i64 31, .int .i64 15, .int .i64 7] 3)).drewN nq = W at *
  have HBQ := Lib.hid hbq
  clear hb0 hm hbq
  go_wp2_with fail
  go_loopw [4, 5] (fun x i wr => W = wr ∧ ∃ (k y : Nat), ((k = 1 ∧ y < 32) ∨ (k = 2 ∧ y < 2048) ∨ (k = 3 ∧ y < 131072) ∨ (k = 4 ∧ y < 8388608)) ∧ k ≤ 2 ∧ i = .int .i64 k ∧ x = .int .i64 y ∧ Hid (numT (t.data.toList.drop k) y = R)) (fun _ i _ => 2 - (intOf i).toNat)
  case atStart => exact ⟨rfl, 1, m, by omega, by omega, rfl, rfl, Lib.hid HR.out.symm⟩
  case round =>
    obtain ⟨rfl, k, y, hy, hk, rfl, rfl, HQ⟩ := hrel
    have hk1 : 1 ≤ k := by omega
    have hyb : y < 8388608 := by omega
    by_cases hlt : k < 2
    · have hki : (k : Int) < 2 := by omega
      have hk0 : (0 : Int) ≤ (k : Int) := by omega
      have hkl : k < t.size := by rw [HZ.out]; exact hlt
      obtain ⟨b, hb⟩ : ∃ b, t[k].toNat = b := ⟨_, rfl⟩
      have hbl : b < 256 := by rw [← hb]; exact t[k].toNat_lt
      have hg := get_zero t k hkl b hb
      have HD : Hid (numT (t.get! k :: t.data.toList.drop (k + 1)) y = R) := Lib.hid (by rw [← drop_one t k hkl]; exact HQ.out)
      by_cases h1 : b < 128
      · obtain rfl : -1 = R := (numT_bad _ _ (.inl (by rw [hg]; exact h1))).symm.trans HD.out
        clear hg HR hy
        go_wp2
        go_ret
        exact ⟨rfl, HBQ.out⟩
      · by_cases h2 : 191 < b
        · obtain rfl : -1 = R := (numT_bad _ _ (.inr (by rw [hg]; exact h2))).symm.trans HD.out
          have h1 : 128 ≤ b := by omega
          clear hg HR hy
          go_wp2
          go_ret
          exact ⟨rfl, HBQ.out⟩
        · have h1 : 128 ≤ b := by omega
          have h2 : b ≤ 191 := by omega
          obtain ⟨z, hz⟩ : ∃ z, z + 128 = y * 64 + b := ⟨y * 64 + (b - 128), by omega⟩
          have HN := Lib.hid (show numT (t.data.toList.drop (k + 1)) z = R from (numT_good _ _ z (by rw [hg]; exact h1) (by rw [hg]; exact h2) (by rw [hg]; exact hz)).symm.trans HD.out)
          have hzz : ((z : Nat) : Int) = (y : Int) * 64 + (b : Int) - 128 := by omega
          have hzb : ((k + 1 = 1 ∧ z < 32) ∨ (k + 1 = 2 ∧ z < 2048) ∨ (k + 1 = 3 ∧ z < 131072) ∨ (k + 1 = 4 ∧ z < 8388608)) := by omega
          have HZZ := Lib.hid hzz
          have HZB := Lib.hid hzb
          clear hg hy hz hzz hzb
          go_wp2
          go_roundw
          case rel => exact ⟨trivial, k + 1, z, HZB.out, by omega, by go_num, by rw [HZZ.out], HN⟩
          case measure => simp [intOf]; omega
    · obtain rfl : k = 2 := by omega
      have hd : t.data.toList.drop 2 = [] := List.drop_eq_nil_of_le (by rw [size_list, HZ.out]; exact Nat.le_refl _)
      obtain rfl : (y : Int) = R := by have := HQ.out; rw [hd] at this; exact this
      clear hy HQ hd
      go_wp2
      go_ret
      exact ⟨rfl, HBQ.out⟩


set_option maxRecDepth 20000 in
set_option maxHeartbeats 4000000 in
theorem number_3 (t : ByteArray) (w : World) (hz : t.size = 3) :
    Calls Tryd.prog 82 #[.string t] w fun e w' => e = .returned (.int .i64 (numOf t)) ∧ Below w.heap.size w w' := by
  have h0 : 0 < t.size := by omega
  obtain ⟨b0, hb0⟩ : ∃ b, t[0].toNat = b := ⟨_, rfl⟩
  have hbb : b0 < 256 := by rw [← hb0]; exact t[0].toNat_lt
  have hg0 := get_zero t 0 h0 b0 hb0
  obtain ⟨R, hR⟩ : ∃ R, R = numOf t := ⟨_, rfl⟩
  rw [← hR]
  unfold numOf at hR
  rw [hg0] at hR
  rw [if_neg (by omega), if_pos hz] at hR
  have hm := and_mask b0 4 hbb 15 (by decide)
  rw [show (2 : Nat) ^ 4 = 16 from rfl] at hm
  obtain ⟨m, hmm⟩ : ∃ m, m = b0 % 16 := ⟨_, rfl⟩
  rw [← hmm] at hm hR
  have hmb : m < 32 := by omega
  have hzi : (t.size : Int) = 3 := by omega
  have HR := Lib.hid hR
  have HZ := Lib.hid hz
  clear hmm hg0 hR hz
  go_enter Tryd.func82, Tryd.ntmps82
  go_wp2_with fail
  go_quiet (fail)
  have hbq : Below w.heap.size w ((w.alloc (.cells #[.int .i64 0, .int .i64 127, .int .i64 31, .int .i64 15, .int .i64 7] 3)).drewN nq) := below_drewN ((Below.refl w.heap.size w).alloc (Nat.le_refl _) _) nq
  generalize (w.alloc (.cells #[.int .i64 0, .int .i64 127, .int .i64 31, .int .i64 15, .int .i64 7] 3)).drewN nq = W at *
  have HBQ := Lib.hid hbq
  clear hb0 hm hbq
  go_wp2_with fail
  go_loopw [4, 5] (fun x i wr => W = wr ∧ ∃ (k y : Nat), ((k = 1 ∧ y < 32) ∨ (k = 2 ∧ y < 2048) ∨ (k = 3 ∧ y < 131072) ∨ (k = 4 ∧ y < 8388608)) ∧ k ≤ 3 ∧ i = .int .i64 k ∧ x = .int .i64 y ∧ Hid (numT (t.data.toList.drop k) y = R)) (fun _ i _ => 3 - (intOf i).toNat)
  case atStart => exact ⟨rfl, 1, m, by omega, by omega, rfl, rfl, Lib.hid HR.out.symm⟩
  case round =>
    obtain ⟨rfl, k, y, hy, hk, rfl, rfl, HQ⟩ := hrel
    have hk1 : 1 ≤ k := by omega
    have hyb : y < 8388608 := by omega
    by_cases hlt : k < 3
    · have hki : (k : Int) < 3 := by omega
      have hk0 : (0 : Int) ≤ (k : Int) := by omega
      have hkl : k < t.size := by rw [HZ.out]; exact hlt
      obtain ⟨b, hb⟩ : ∃ b, t[k].toNat = b := ⟨_, rfl⟩
      have hbl : b < 256 := by rw [← hb]; exact t[k].toNat_lt
      have hg := get_zero t k hkl b hb
      have HD : Hid (numT (t.get! k :: t.data.toList.drop (k + 1)) y = R) := Lib.hid (by rw [← drop_one t k hkl]; exact HQ.out)
      by_cases h1 : b < 128
      · obtain rfl : -1 = R := (numT_bad _ _ (.inl (by rw [hg]; exact h1))).symm.trans HD.out
        clear hg HR hy
        go_wp2
        go_ret
        exact ⟨rfl, HBQ.out⟩
      · by_cases h2 : 191 < b
        · obtain rfl : -1 = R := (numT_bad _ _ (.inr (by rw [hg]; exact h2))).symm.trans HD.out
          have h1 : 128 ≤ b := by omega
          clear hg HR hy
          go_wp2
          go_ret
          exact ⟨rfl, HBQ.out⟩
        · have h1 : 128 ≤ b := by omega
          have h2 : b ≤ 191 := by omega
          obtain ⟨z, hz⟩ : ∃ z, z + 128 = y * 64 + b := ⟨y * 64 + (b - 128), by omega⟩
          have HN := Lib.hid (show numT (t.data.toList.drop (k + 1)) z = R from (numT_good _ _ z (by rw [hg]; exact h1) (by rw [hg]; exact h2) (by rw [hg]; exact hz)).symm.trans HD.out)
          have hzz : ((z : Nat) : Int) = (y : Int) * 64 + (b : Int) - 128 := by omega
          have hzb : ((k + 1 = 1 ∧ z < 32) ∨ (k + 1 = 2 ∧ z < 2048) ∨ (k + 1 = 3 ∧ z < 131072) ∨ (k + 1 = 4 ∧ z < 8388608)) := by omega
          have HZZ := Lib.hid hzz
          have HZB := Lib.hid hzb
          clear hg hy hz hzz hzb
          go_wp2
          go_roundw
          case rel => exact ⟨trivial, k + 1, z, HZB.out, by omega, by go_num, by rw [HZZ.out], HN⟩
          case measure => simp [intOf]; omega
    · obtain rfl : k = 3 := by omega
      have hd : t.data.toList.drop 3 = [] := List.drop_eq_nil_of_le (by rw [size_list, HZ.out]; exact Nat.le_refl _)
      obtain rfl : (y : Int) = R := by have := HQ.out; rw [hd] at this; exact this
      clear hy HQ hd
      go_wp2
      go_ret
      exact ⟨rfl, HBQ.out⟩


set_option maxRecDepth 20000 in
set_option maxHeartbeats 4000000 in
theorem number_4 (t : ByteArray) (w : World) (hz : t.size = 4) :
    Calls Tryd.prog 82 #[.string t] w fun e w' => e = .returned (.int .i64 (numOf t)) ∧ Below w.heap.size w w' := by
  have h0 : 0 < t.size := by omega
  obtain ⟨b0, hb0⟩ : ∃ b, t[0].toNat = b := ⟨_, rfl⟩
  have hbb : b0 < 256 := by rw [← hb0]; exact t[0].toNat_lt
  have hg0 := get_zero t 0 h0 b0 hb0
  obtain ⟨R, hR⟩ : ∃ R, R = numOf t := ⟨_, rfl⟩
  rw [← hR]
  unfold numOf at hR
  rw [hg0] at hR
  rw [if_neg (by omega), if_neg (by omega)] at hR
  have hm := and_mask b0 3 hbb 7 (by decide)
  rw [show (2 : Nat) ^ 3 = 8 from rfl] at hm
  obtain ⟨m, hmm⟩ : ∃ m, m = b0 % 8 := ⟨_, rfl⟩
  rw [← hmm] at hm hR
  have hmb : m < 32 := by omega
  have hzi : (t.size : Int) = 4 := by omega
  have HR := Lib.hid hR
  have HZ := Lib.hid hz
  clear hmm hg0 hR hz
  go_enter Tryd.func82, Tryd.ntmps82
  go_wp2_with fail
  go_quiet (fail)
  have hbq : Below w.heap.size w ((w.alloc (.cells #[.int .i64 0, .int .i64 127, .int .i64 31, .int .i64 15, .int .i64 7] 3)).drewN nq) := below_drewN ((Below.refl w.heap.size w).alloc (Nat.le_refl _) _) nq
  generalize (w.alloc (.cells #[.int .i64 0, .int .i64 127, .int .i64 31, .int .i64 15, .int .i64 7] 3)).drewN nq = W at *
  have HBQ := Lib.hid hbq
  clear hb0 hm hbq
  go_wp2_with fail
  go_loopw [4, 5] (fun x i wr => W = wr ∧ ∃ (k y : Nat), ((k = 1 ∧ y < 32) ∨ (k = 2 ∧ y < 2048) ∨ (k = 3 ∧ y < 131072) ∨ (k = 4 ∧ y < 8388608)) ∧ k ≤ 4 ∧ i = .int .i64 k ∧ x = .int .i64 y ∧ Hid (numT (t.data.toList.drop k) y = R)) (fun _ i _ => 4 - (intOf i).toNat)
  case atStart => exact ⟨rfl, 1, m, by omega, by omega, rfl, rfl, Lib.hid HR.out.symm⟩
  case round =>
    obtain ⟨rfl, k, y, hy, hk, rfl, rfl, HQ⟩ := hrel
    have hk1 : 1 ≤ k := by omega
    have hyb : y < 8388608 := by omega
    by_cases hlt : k < 4
    · have hki : (k : Int) < 4 := by omega
      have hk0 : (0 : Int) ≤ (k : Int) := by omega
      have hkl : k < t.size := by rw [HZ.out]; exact hlt
      obtain ⟨b, hb⟩ : ∃ b, t[k].toNat = b := ⟨_, rfl⟩
      have hbl : b < 256 := by rw [← hb]; exact t[k].toNat_lt
      have hg := get_zero t k hkl b hb
      have HD : Hid (numT (t.get! k :: t.data.toList.drop (k + 1)) y = R) := Lib.hid (by rw [← drop_one t k hkl]; exact HQ.out)
      by_cases h1 : b < 128
      · obtain rfl : -1 = R := (numT_bad _ _ (.inl (by rw [hg]; exact h1))).symm.trans HD.out
        clear hg HR hy
        go_wp2
        go_ret
        exact ⟨rfl, HBQ.out⟩
      · by_cases h2 : 191 < b
        · obtain rfl : -1 = R := (numT_bad _ _ (.inr (by rw [hg]; exact h2))).symm.trans HD.out
          have h1 : 128 ≤ b := by omega
          clear hg HR hy
          go_wp2
          go_ret
          exact ⟨rfl, HBQ.out⟩
        · have h1 : 128 ≤ b := by omega
          have h2 : b ≤ 191 := by omega
          obtain ⟨z, hz⟩ : ∃ z, z + 128 = y * 64 + b := ⟨y * 64 + (b - 128), by omega⟩
          have HN := Lib.hid (show numT (t.data.toList.drop (k + 1)) z = R from (numT_good _ _ z (by rw [hg]; exact h1) (by rw [hg]; exact h2) (by rw [hg]; exact hz)).symm.trans HD.out)
          have hzz : ((z : Nat) : Int) = (y : Int) * 64 + (b : Int) - 128 := by omega
          have hzb : ((k + 1 = 1 ∧ z < 32) ∨ (k + 1 = 2 ∧ z < 2048) ∨ (k + 1 = 3 ∧ z < 131072) ∨ (k + 1 = 4 ∧ z < 8388608)) := by omega
          have HZZ := Lib.hid hzz
          have HZB := Lib.hid hzb
          clear hg hy hz hzz hzb
          go_wp2
          go_roundw
          case rel => exact ⟨trivial, k + 1, z, HZB.out, by omega, by go_num, by rw [HZZ.out], HN⟩
          case measure => simp [intOf]; omega
    · obtain rfl : k = 4 := by omega
      have hd : t.data.toList.drop 4 = [] := List.drop_eq_nil_of_le (by rw [size_list, HZ.out]; exact Nat.le_refl _)
      obtain rfl : (y : Int) = R := by have := HQ.out; rw [hd] at this; exact this
      clear hy HQ hd
      go_wp2
      go_ret
      exact ⟨rfl, HBQ.out⟩


theorem number_any (t : ByteArray) (w : World) (h2 : 2 ≤ t.size) (h4 : t.size ≤ 4) :
    Calls Tryd.prog 82 #[.string t] w fun e w' => e = .returned (.int .i64 (numOf t)) ∧ Below w.heap.size w w' := by
  rcases (show t.size = 2 ∨ t.size = 3 ∨ t.size = 4 by omega) with hz | hz | hz
  · exact number_2 t w hz
  · exact number_3 t w hz
  · exact number_4 t w hz

end Go.Proofs.YthkehgmeaedflaaDoor
