/-
  The reference's reading of one character, walked: four bytes. Printed by a program of ours (genat.py).
-/
import Derived.Test.YthkehgmeaedflaaDoorRAtH
namespace Go.Proofs.YthkehgmeaedflaaDoor
open Go.RowKit

set_option maxRecDepth 20000 in
set_option maxHeartbeats 2000000 in
theorem at_cut41 (s : ByteArray) (i : Nat) (w : World) (h : i < s.size) (hs : s.size ≤ 70368744177664) (b0 : Nat) (hb0 : s[i].toNat = b0)  (f0 : 240 ≤ b0) (f1 : b0 ≤ 247) (e0 : s.size ≤ i + 1) :
    Calls Tryd.prog 39 #[.string s, .int .i64 i] w fun e w' => e = .returned (.agg (spotV i 1 65533 11)) ∧ Below w.heap.size w w' := by
  have hi0 : (0 : Int) ≤ (i : Int) := by omega
  have hi1 : (i : Int) < (s.size : Int) := by omega
  have hbb : b0 < 256 := by rw [← hb0]; exact s[i].toNat_lt
  have hl : longOf b0 = 4 := longOf_4 (by omega) (by omega)
  have hm := and_mask b0 3 hbb 7 (by decide)
  rw [show (2 : Nat) ^ 3 = 8 from rfl] at hm
  obtain ⟨m, hmm⟩ : ∃ m, m = b0 % 8 := ⟨_, rfl⟩
  have hm8 : m < 8 := by omega
  rw [← hmm] at hm
  have HMM := Lib.hid hmm
  clear hmm
  go_enter Tryd.func39, Tryd.ntmps39
  go_wp2_with (go_at_call 63; refine (long_any b0 _ hbb).mono ?_; rw [hl]; rintro e w' ⟨rfl, rfl⟩)
  go_quiet (fail)
  go_wp2
  refine wp_loop_rounds 4 ?_
  rw [rounds_succ]
  go_wp2_with fail
  exact spot_ret w _ _ i 1 65533 11 _ _ _ _ (fin_tail w _ _ _ _ _ _ _ _ _ _ _ _ _ rfl) rfl rfl rfl

set_option maxRecDepth 20000 in
set_option maxHeartbeats 2000000 in
theorem at_low41 (s : ByteArray) (i : Nat) (w : World) (h : i < s.size) (hs : s.size ≤ 70368744177664) (b0 b1 : Nat) (hb0 : s[i].toNat = b0) (l1 : i + 1 < s.size) (hb1 : s[i + 1].toNat = b1)  (f0 : 240 ≤ b0) (f1 : b0 ≤ 247) (e0 : b1 < 128) :
    Calls Tryd.prog 39 #[.string s, .int .i64 i] w fun e w' => e = .returned (.agg (spotV i 1 65533 12)) ∧ Below w.heap.size w w' := by
  have hi0 : (0 : Int) ≤ (i : Int) := by omega
  have hi1 : (i : Int) < (s.size : Int) := by omega
  have hbb : b0 < 256 := by rw [← hb0]; exact s[i].toNat_lt
  have hl : longOf b0 = 4 := longOf_4 (by omega) (by omega)
  have hi1a : (0 : Int) ≤ (i : Int) + 1 := by omega
  have hi1b : (i : Int) + 1 < (s.size : Int) := by omega
  have hbb1 : b1 < 256 := by rw [← hb1]; exact s[i + 1].toNat_lt
  have hm := and_mask b0 3 hbb 7 (by decide)
  rw [show (2 : Nat) ^ 3 = 8 from rfl] at hm
  obtain ⟨m, hmm⟩ : ∃ m, m = b0 % 8 := ⟨_, rfl⟩
  have hm8 : m < 8 := by omega
  rw [← hmm] at hm
  have HMM := Lib.hid hmm
  clear hmm
  go_enter Tryd.func39, Tryd.ntmps39
  go_wp2_with (go_at_call 63; refine (long_any b0 _ hbb).mono ?_; rw [hl]; rintro e w' ⟨rfl, rfl⟩)
  go_quiet (fail)
  go_wp2
  refine wp_loop_rounds 4 ?_
  rw [rounds_succ]
  go_wp2_with fail
  exact spot_ret w _ _ i 1 65533 12 _ _ _ _ (fin_tail w _ _ _ _ _ _ _ _ _ _ _ _ _ rfl) rfl rfl rfl

set_option maxRecDepth 20000 in
set_option maxHeartbeats 2000000 in
theorem at_top41 (s : ByteArray) (i : Nat) (w : World) (h : i < s.size) (hs : s.size ≤ 70368744177664) (b0 b1 : Nat) (hb0 : s[i].toNat = b0) (l1 : i + 1 < s.size) (hb1 : s[i + 1].toNat = b1)  (f0 : 240 ≤ b0) (f1 : b0 ≤ 247) (e0 : 191 < b1) :
    Calls Tryd.prog 39 #[.string s, .int .i64 i] w fun e w' => e = .returned (.agg (spotV i 1 65533 12)) ∧ Below w.heap.size w w' := by
  have hi0 : (0 : Int) ≤ (i : Int) := by omega
  have hi1 : (i : Int) < (s.size : Int) := by omega
  have hbb : b0 < 256 := by rw [← hb0]; exact s[i].toNat_lt
  have hl : longOf b0 = 4 := longOf_4 (by omega) (by omega)
  have hi1a : (0 : Int) ≤ (i : Int) + 1 := by omega
  have hi1b : (i : Int) + 1 < (s.size : Int) := by omega
  have hbb1 : b1 < 256 := by rw [← hb1]; exact s[i + 1].toNat_lt
  have hm := and_mask b0 3 hbb 7 (by decide)
  rw [show (2 : Nat) ^ 3 = 8 from rfl] at hm
  obtain ⟨m, hmm⟩ : ∃ m, m = b0 % 8 := ⟨_, rfl⟩
  have hm8 : m < 8 := by omega
  rw [← hmm] at hm
  have HMM := Lib.hid hmm
  clear hmm
  go_enter Tryd.func39, Tryd.ntmps39
  go_wp2_with (go_at_call 63; refine (long_any b0 _ hbb).mono ?_; rw [hl]; rintro e w' ⟨rfl, rfl⟩)
  go_quiet (fail)
  go_wp2
  refine wp_loop_rounds 4 ?_
  rw [rounds_succ]
  go_wp2_with fail
  exact spot_ret w _ _ i 1 65533 12 _ _ _ _ (fin_tail w _ _ _ _ _ _ _ _ _ _ _ _ _ rfl) rfl rfl rfl

set_option maxRecDepth 20000 in
set_option maxHeartbeats 2000000 in
theorem at_cut42 (s : ByteArray) (i : Nat) (w : World) (h : i < s.size) (hs : s.size ≤ 70368744177664) (b0 b1 : Nat) (hb0 : s[i].toNat = b0) (l1 : i + 1 < s.size) (hb1 : s[i + 1].toNat = b1) (p1 : 128 ≤ b1) (q1 : b1 ≤ 191) (X1 : Nat) (hX1 : X1 + 128 = (b0 % 8) * 64 + b1) (f0 : 240 ≤ b0) (f1 : b0 ≤ 247) (e0 : s.size ≤ i + 2) :
    Calls Tryd.prog 39 #[.string s, .int .i64 i] w fun e w' => e = .returned (.agg (spotV i 1 65533 11)) ∧ Below w.heap.size w w' := by
  have hi0 : (0 : Int) ≤ (i : Int) := by omega
  have hi1 : (i : Int) < (s.size : Int) := by omega
  have hbb : b0 < 256 := by rw [← hb0]; exact s[i].toNat_lt
  have hl : longOf b0 = 4 := longOf_4 (by omega) (by omega)
  have hi1a : (0 : Int) ≤ (i : Int) + 1 := by omega
  have hi1b : (i : Int) + 1 < (s.size : Int) := by omega
  have hbb1 : b1 < 256 := by rw [← hb1]; exact s[i + 1].toNat_lt
  have hm := and_mask b0 3 hbb 7 (by decide)
  rw [show (2 : Nat) ^ 3 = 8 from rfl] at hm
  obtain ⟨m, hmm⟩ : ∃ m, m = b0 % 8 := ⟨_, rfl⟩
  have hm8 : m < 8 := by omega
  rw [← hmm] at hm hX1
  have HMM := Lib.hid hmm
  clear hmm
  have hx1 : (m : Int) * 64 + (b1 : Int) - 128 = (X1 : Int) := by omega
  have hxb1 : X1 < 512 := by omega
  clear hX1
  go_enter Tryd.func39, Tryd.ntmps39
  go_wp2_with (go_at_call 63; refine (long_any b0 _ hbb).mono ?_; rw [hl]; rintro e w' ⟨rfl, rfl⟩)
  go_quiet (fail)
  go_wp2
  refine wp_loop_rounds 4 ?_
  rw [rounds_succ]
  go_wp2_with fail
  rw [rounds_succ]
  go_wp2_with fail
  exact spot_ret w _ _ i 1 65533 11 _ _ _ _ (fin_tail w _ _ _ _ _ _ _ _ _ _ _ _ _ rfl) rfl rfl rfl

set_option maxRecDepth 20000 in
set_option maxHeartbeats 2000000 in
theorem at_low42 (s : ByteArray) (i : Nat) (w : World) (h : i < s.size) (hs : s.size ≤ 70368744177664) (b0 b1 b2 : Nat) (hb0 : s[i].toNat = b0) (l1 : i + 1 < s.size) (hb1 : s[i + 1].toNat = b1) (p1 : 128 ≤ b1) (q1 : b1 ≤ 191) (l2 : i + 2 < s.size) (hb2 : s[i + 2].toNat = b2) (X1 : Nat) (hX1 : X1 + 128 = (b0 % 8) * 64 + b1) (f0 : 240 ≤ b0) (f1 : b0 ≤ 247) (e0 : b2 < 128) :
    Calls Tryd.prog 39 #[.string s, .int .i64 i] w fun e w' => e = .returned (.agg (spotV i 1 65533 12)) ∧ Below w.heap.size w w' := by
  have hi0 : (0 : Int) ≤ (i : Int) := by omega
  have hi1 : (i : Int) < (s.size : Int) := by omega
  have hbb : b0 < 256 := by rw [← hb0]; exact s[i].toNat_lt
  have hl : longOf b0 = 4 := longOf_4 (by omega) (by omega)
  have hi1a : (0 : Int) ≤ (i : Int) + 1 := by omega
  have hi1b : (i : Int) + 1 < (s.size : Int) := by omega
  have hbb1 : b1 < 256 := by rw [← hb1]; exact s[i + 1].toNat_lt
  have hi2a : (0 : Int) ≤ (i : Int) + 2 := by omega
  have hi2b : (i : Int) + 2 < (s.size : Int) := by omega
  have hbb2 : b2 < 256 := by rw [← hb2]; exact s[i + 2].toNat_lt
  have hm := and_mask b0 3 hbb 7 (by decide)
  rw [show (2 : Nat) ^ 3 = 8 from rfl] at hm
  obtain ⟨m, hmm⟩ : ∃ m, m = b0 % 8 := ⟨_, rfl⟩
  have hm8 : m < 8 := by omega
  rw [← hmm] at hm hX1
  have HMM := Lib.hid hmm
  clear hmm
  have hx1 : (m : Int) * 64 + (b1 : Int) - 128 = (X1 : Int) := by omega
  have hxb1 : X1 < 512 := by omega
  clear hX1
  go_enter Tryd.func39, Tryd.ntmps39
  go_wp2_with (go_at_call 63; refine (long_any b0 _ hbb).mono ?_; rw [hl]; rintro e w' ⟨rfl, rfl⟩)
  go_quiet (fail)
  go_wp2
  refine wp_loop_rounds 4 ?_
  rw [rounds_succ]
  go_wp2_with fail
  rw [rounds_succ]
  go_wp2_with fail
  exact spot_ret w _ _ i 1 65533 12 _ _ _ _ (fin_tail w _ _ _ _ _ _ _ _ _ _ _ _ _ rfl) rfl rfl rfl

set_option maxRecDepth 20000 in
set_option maxHeartbeats 2000000 in
theorem at_top42 (s : ByteArray) (i : Nat) (w : World) (h : i < s.size) (hs : s.size ≤ 70368744177664) (b0 b1 b2 : Nat) (hb0 : s[i].toNat = b0) (l1 : i + 1 < s.size) (hb1 : s[i + 1].toNat = b1) (p1 : 128 ≤ b1) (q1 : b1 ≤ 191) (l2 : i + 2 < s.size) (hb2 : s[i + 2].toNat = b2) (X1 : Nat) (hX1 : X1 + 128 = (b0 % 8) * 64 + b1) (f0 : 240 ≤ b0) (f1 : b0 ≤ 247) (e0 : 191 < b2) :
    Calls Tryd.prog 39 #[.string s, .int .i64 i] w fun e w' => e = .returned (.agg (spotV i 1 65533 12)) ∧ Below w.heap.size w w' := by
  have hi0 : (0 : Int) ≤ (i : Int) := by omega
  have hi1 : (i : Int) < (s.size : Int) := by omega
  have hbb : b0 < 256 := by rw [← hb0]; exact s[i].toNat_lt
  have hl : longOf b0 = 4 := longOf_4 (by omega) (by omega)
  have hi1a : (0 : Int) ≤ (i : Int) + 1 := by omega
  have hi1b : (i : Int) + 1 < (s.size : Int) := by omega
  have hbb1 : b1 < 256 := by rw [← hb1]; exact s[i + 1].toNat_lt
  have hi2a : (0 : Int) ≤ (i : Int) + 2 := by omega
  have hi2b : (i : Int) + 2 < (s.size : Int) := by omega
  have hbb2 : b2 < 256 := by rw [← hb2]; exact s[i + 2].toNat_lt
  have hm := and_mask b0 3 hbb 7 (by decide)
  rw [show (2 : Nat) ^ 3 = 8 from rfl] at hm
  obtain ⟨m, hmm⟩ : ∃ m, m = b0 % 8 := ⟨_, rfl⟩
  have hm8 : m < 8 := by omega
  rw [← hmm] at hm hX1
  have HMM := Lib.hid hmm
  clear hmm
  have hx1 : (m : Int) * 64 + (b1 : Int) - 128 = (X1 : Int) := by omega
  have hxb1 : X1 < 512 := by omega
  clear hX1
  go_enter Tryd.func39, Tryd.ntmps39
  go_wp2_with (go_at_call 63; refine (long_any b0 _ hbb).mono ?_; rw [hl]; rintro e w' ⟨rfl, rfl⟩)
  go_quiet (fail)
  go_wp2
  refine wp_loop_rounds 4 ?_
  rw [rounds_succ]
  go_wp2_with fail
  rw [rounds_succ]
  go_wp2_with fail
  exact spot_ret w _ _ i 1 65533 12 _ _ _ _ (fin_tail w _ _ _ _ _ _ _ _ _ _ _ _ _ rfl) rfl rfl rfl

set_option maxRecDepth 20000 in
set_option maxHeartbeats 2000000 in
theorem at_cut43 (s : ByteArray) (i : Nat) (w : World) (h : i < s.size) (hs : s.size ≤ 70368744177664) (b0 b1 b2 : Nat) (hb0 : s[i].toNat = b0) (l1 : i + 1 < s.size) (hb1 : s[i + 1].toNat = b1) (p1 : 128 ≤ b1) (q1 : b1 ≤ 191) (l2 : i + 2 < s.size) (hb2 : s[i + 2].toNat = b2) (p2 : 128 ≤ b2) (q2 : b2 ≤ 191) (X1 : Nat) (hX1 : X1 + 128 = (b0 % 8) * 64 + b1) (X2 : Nat) (hX2 : X2 + 128 = (X1) * 64 + b2) (f0 : 240 ≤ b0) (f1 : b0 ≤ 247) (e0 : s.size ≤ i + 3) :
    Calls Tryd.prog 39 #[.string s, .int .i64 i] w fun e w' => e = .returned (.agg (spotV i 1 65533 11)) ∧ Below w.heap.size w w' := by
  have hi0 : (0 : Int) ≤ (i : Int) := by omega
  have hi1 : (i : Int) < (s.size : Int) := by omega
  have hbb : b0 < 256 := by rw [← hb0]; exact s[i].toNat_lt
  have hl : longOf b0 = 4 := longOf_4 (by omega) (by omega)
  have hi1a : (0 : Int) ≤ (i : Int) + 1 := by omega
  have hi1b : (i : Int) + 1 < (s.size : Int) := by omega
  have hbb1 : b1 < 256 := by rw [← hb1]; exact s[i + 1].toNat_lt
  have hi2a : (0 : Int) ≤ (i : Int) + 2 := by omega
  have hi2b : (i : Int) + 2 < (s.size : Int) := by omega
  have hbb2 : b2 < 256 := by rw [← hb2]; exact s[i + 2].toNat_lt
  have hm := and_mask b0 3 hbb 7 (by decide)
  rw [show (2 : Nat) ^ 3 = 8 from rfl] at hm
  obtain ⟨m, hmm⟩ : ∃ m, m = b0 % 8 := ⟨_, rfl⟩
  have hm8 : m < 8 := by omega
  rw [← hmm] at hm hX1
  have HMM := Lib.hid hmm
  clear hmm
  have hx1 : (m : Int) * 64 + (b1 : Int) - 128 = (X1 : Int) := by omega
  have hxb1 : X1 < 512 := by omega
  have hx2 : (X1 : Int) * 64 + (b2 : Int) - 128 = (X2 : Int) := by omega
  have hxb2 : X2 < 32768 := by omega
  clear hX1
  clear hX2
  go_enter Tryd.func39, Tryd.ntmps39
  go_wp2_with (go_at_call 63; refine (long_any b0 _ hbb).mono ?_; rw [hl]; rintro e w' ⟨rfl, rfl⟩)
  go_quiet (fail)
  go_wp2
  refine wp_loop_rounds 4 ?_
  rw [rounds_succ]
  go_wp2_with fail
  rw [rounds_succ]
  go_wp2_with fail
  rw [rounds_succ]
  go_wp2_with fail
  exact spot_ret w _ _ i 1 65533 11 _ _ _ _ (fin_tail w _ _ _ _ _ _ _ _ _ _ _ _ _ rfl) rfl rfl rfl

set_option maxRecDepth 20000 in
set_option maxHeartbeats 2000000 in
theorem at_low43 (s : ByteArray) (i : Nat) (w : World) (h : i < s.size) (hs : s.size ≤ 70368744177664) (b0 b1 b2 b3 : Nat) (hb0 : s[i].toNat = b0) (l1 : i + 1 < s.size) (hb1 : s[i + 1].toNat = b1) (p1 : 128 ≤ b1) (q1 : b1 ≤ 191) (l2 : i + 2 < s.size) (hb2 : s[i + 2].toNat = b2) (p2 : 128 ≤ b2) (q2 : b2 ≤ 191) (l3 : i + 3 < s.size) (hb3 : s[i + 3].toNat = b3) (X1 : Nat) (hX1 : X1 + 128 = (b0 % 8) * 64 + b1) (X2 : Nat) (hX2 : X2 + 128 = (X1) * 64 + b2) (f0 : 240 ≤ b0) (f1 : b0 ≤ 247) (e0 : b3 < 128) :
    Calls Tryd.prog 39 #[.string s, .int .i64 i] w fun e w' => e = .returned (.agg (spotV i 1 65533 12)) ∧ Below w.heap.size w w' := by
  have hi0 : (0 : Int) ≤ (i : Int) := by omega
  have hi1 : (i : Int) < (s.size : Int) := by omega
  have hbb : b0 < 256 := by rw [← hb0]; exact s[i].toNat_lt
  have hl : longOf b0 = 4 := longOf_4 (by omega) (by omega)
  have hi1a : (0 : Int) ≤ (i : Int) + 1 := by omega
  have hi1b : (i : Int) + 1 < (s.size : Int) := by omega
  have hbb1 : b1 < 256 := by rw [← hb1]; exact s[i + 1].toNat_lt
  have hi2a : (0 : Int) ≤ (i : Int) + 2 := by omega
  have hi2b : (i : Int) + 2 < (s.size : Int) := by omega
  have hbb2 : b2 < 256 := by rw [← hb2]; exact s[i + 2].toNat_lt
  have hi3a : (0 : Int) ≤ (i : Int) + 3 := by omega
  have hi3b : (i : Int) + 3 < (s.size : Int) := by omega
  have hbb3 : b3 < 256 := by rw [← hb3]; exact s[i + 3].toNat_lt
  have hm := and_mask b0 3 hbb 7 (by decide)
  rw [show (2 : Nat) ^ 3 = 8 from rfl] at hm
  obtain ⟨m, hmm⟩ : ∃ m, m = b0 % 8 := ⟨_, rfl⟩
  have hm8 : m < 8 := by omega
  rw [← hmm] at hm hX1
  have HMM := Lib.hid hmm
  clear hmm
  have hx1 : (m : Int) * 64 + (b1 : Int) - 128 = (X1 : Int) := by omega
  have hxb1 : X1 < 512 := by omega
  have hx2 : (X1 : Int) * 64 + (b2 : Int) - 128 = (X2 : Int) := by omega
  have hxb2 : X2 < 32768 := by omega
  clear hX1
  clear hX2
  go_enter Tryd.func39, Tryd.ntmps39
  go_wp2_with (go_at_call 63; refine (long_any b0 _ hbb).mono ?_; rw [hl]; rintro e w' ⟨rfl, rfl⟩)
  go_quiet (fail)
  go_wp2
  refine wp_loop_rounds 4 ?_
  rw [rounds_succ]
  go_wp2_with fail
  rw [rounds_succ]
  go_wp2_with fail
  rw [rounds_succ]
  go_wp2_with fail
  exact spot_ret w _ _ i 1 65533 12 _ _ _ _ (fin_tail w _ _ _ _ _ _ _ _ _ _ _ _ _ rfl) rfl rfl rfl

set_option maxRecDepth 20000 in
set_option maxHeartbeats 2000000 in
theorem at_top43 (s : ByteArray) (i : Nat) (w : World) (h : i < s.size) (hs : s.size ≤ 70368744177664) (b0 b1 b2 b3 : Nat) (hb0 : s[i].toNat = b0) (l1 : i + 1 < s.size) (hb1 : s[i + 1].toNat = b1) (p1 : 128 ≤ b1) (q1 : b1 ≤ 191) (l2 : i + 2 < s.size) (hb2 : s[i + 2].toNat = b2) (p2 : 128 ≤ b2) (q2 : b2 ≤ 191) (l3 : i + 3 < s.size) (hb3 : s[i + 3].toNat = b3) (X1 : Nat) (hX1 : X1 + 128 = (b0 % 8) * 64 + b1) (X2 : Nat) (hX2 : X2 + 128 = (X1) * 64 + b2) (f0 : 240 ≤ b0) (f1 : b0 ≤ 247) (e0 : 191 < b3) :
    Calls Tryd.prog 39 #[.string s, .int .i64 i] w fun e w' => e = .returned (.agg (spotV i 1 65533 12)) ∧ Below w.heap.size w w' := by
  have hi0 : (0 : Int) ≤ (i : Int) := by omega
  have hi1 : (i : Int) < (s.size : Int) := by omega
  have hbb : b0 < 256 := by rw [← hb0]; exact s[i].toNat_lt
  have hl : longOf b0 = 4 := longOf_4 (by omega) (by omega)
  have hi1a : (0 : Int) ≤ (i : Int) + 1 := by omega
  have hi1b : (i : Int) + 1 < (s.size : Int) := by omega
  have hbb1 : b1 < 256 := by rw [← hb1]; exact s[i + 1].toNat_lt
  have hi2a : (0 : Int) ≤ (i : Int) + 2 := by omega
  have hi2b : (i : Int) + 2 < (s.size : Int) := by omega
  have hbb2 : b2 < 256 := by rw [← hb2]; exact s[i + 2].toNat_lt
  have hi3a : (0 : Int) ≤ (i : Int) + 3 := by omega
  have hi3b : (i : Int) + 3 < (s.size : Int) := by omega
  have hbb3 : b3 < 256 := by rw [← hb3]; exact s[i + 3].toNat_lt
  have hm := and_mask b0 3 hbb 7 (by decide)
  rw [show (2 : Nat) ^ 3 = 8 from rfl] at hm
  obtain ⟨m, hmm⟩ : ∃ m, m = b0 % 8 := ⟨_, rfl⟩
  have hm8 : m < 8 := by omega
  rw [← hmm] at hm hX1
  have HMM := Lib.hid hmm
  clear hmm
  have hx1 : (m : Int) * 64 + (b1 : Int) - 128 = (X1 : Int) := by omega
  have hxb1 : X1 < 512 := by omega
  have hx2 : (X1 : Int) * 64 + (b2 : Int) - 128 = (X2 : Int) := by omega
  have hxb2 : X2 < 32768 := by omega
  clear hX1
  clear hX2
  go_enter Tryd.func39, Tryd.ntmps39
  go_wp2_with (go_at_call 63; refine (long_any b0 _ hbb).mono ?_; rw [hl]; rintro e w' ⟨rfl, rfl⟩)
  go_quiet (fail)
  go_wp2
  refine wp_loop_rounds 4 ?_
  rw [rounds_succ]
  go_wp2_with fail
  rw [rounds_succ]
  go_wp2_with fail
  rw [rounds_succ]
  go_wp2_with fail
  exact spot_ret w _ _ i 1 65533 12 _ _ _ _ (fin_tail w _ _ _ _ _ _ _ _ _ _ _ _ _ rfl) rfl rfl rfl

set_option maxRecDepth 20000 in
set_option maxHeartbeats 2000000 in
theorem at_over4 (s : ByteArray) (i : Nat) (w : World) (h : i < s.size) (hs : s.size ≤ 70368744177664) (b0 b1 b2 b3 : Nat) (hb0 : s[i].toNat = b0) (l1 : i + 1 < s.size) (hb1 : s[i + 1].toNat = b1) (p1 : 128 ≤ b1) (q1 : b1 ≤ 191) (l2 : i + 2 < s.size) (hb2 : s[i + 2].toNat = b2) (p2 : 128 ≤ b2) (q2 : b2 ≤ 191) (l3 : i + 3 < s.size) (hb3 : s[i + 3].toNat = b3) (p3 : 128 ≤ b3) (q3 : b3 ≤ 191) (X1 : Nat) (hX1 : X1 + 128 = (b0 % 8) * 64 + b1) (X2 : Nat) (hX2 : X2 + 128 = (X1) * 64 + b2) (X3 : Nat) (hX3 : X3 + 128 = (X2) * 64 + b3) (f0 : 240 ≤ b0) (f1 : b0 ≤ 247) (e0 : X3 < 65536) :
    Calls Tryd.prog 39 #[.string s, .int .i64 i] w fun e w' => e = .returned (.agg (spotV i 1 65533 13)) ∧ Below w.heap.size w w' := by
  have hi0 : (0 : Int) ≤ (i : Int) := by omega
  have hi1 : (i : Int) < (s.size : Int) := by omega
  have hbb : b0 < 256 := by rw [← hb0]; exact s[i].toNat_lt
  have hl : longOf b0 = 4 := longOf_4 (by omega) (by omega)
  have hi1a : (0 : Int) ≤ (i : Int) + 1 := by omega
  have hi1b : (i : Int) + 1 < (s.size : Int) := by omega
  have hbb1 : b1 < 256 := by rw [← hb1]; exact s[i + 1].toNat_lt
  have hi2a : (0 : Int) ≤ (i : Int) + 2 := by omega
  have hi2b : (i : Int) + 2 < (s.size : Int) := by omega
  have hbb2 : b2 < 256 := by rw [← hb2]; exact s[i + 2].toNat_lt
  have hi3a : (0 : Int) ≤ (i : Int) + 3 := by omega
  have hi3b : (i : Int) + 3 < (s.size : Int) := by omega
  have hbb3 : b3 < 256 := by rw [← hb3]; exact s[i + 3].toNat_lt
  have hm := and_mask b0 3 hbb 7 (by decide)
  rw [show (2 : Nat) ^ 3 = 8 from rfl] at hm
  obtain ⟨m, hmm⟩ : ∃ m, m = b0 % 8 := ⟨_, rfl⟩
  have hm8 : m < 8 := by omega
  rw [← hmm] at hm hX1
  have HMM := Lib.hid hmm
  clear hmm
  have hx1 : (m : Int) * 64 + (b1 : Int) - 128 = (X1 : Int) := by omega
  have hxb1 : X1 < 512 := by omega
  have hx2 : (X1 : Int) * 64 + (b2 : Int) - 128 = (X2 : Int) := by omega
  have hxb2 : X2 < 32768 := by omega
  have hx3 : (X2 : Int) * 64 + (b3 : Int) - 128 = (X3 : Int) := by omega
  have hxb3 : X3 < 2097152 := by omega
  clear hX1
  clear hX2
  clear hX3
  obtain ⟨x3, hx3i⟩ : ∃ x3 : Int, x3 = (X3 : Int) := ⟨_, rfl⟩
  rw [← hx3i] at hx3
  have hxj : 0 ≤ x3 := by omega
  have ei0 : x3 < 65536 := by omega
  clear hxb3 e0
  have HXI := Lib.hid hx3i
  clear hx3i
  go_enter Tryd.func39, Tryd.ntmps39
  go_wp2_with (go_at_call 63; refine (long_any b0 _ hbb).mono ?_; rw [hl]; rintro e w' ⟨rfl, rfl⟩)
  go_quiet (fail)
  go_wp2
  refine wp_loop_rounds 4 ?_
  rw [rounds_succ]
  go_wp2_with fail
  rw [rounds_succ]
  go_wp2_with fail
  rw [rounds_succ]
  go_wp2_with fail
  rw [rounds_succ]
  go_wp2_with fail
  exact spot_ret w _ _ i 1 65533 13 _ _ _ _ (fin_over w _ _ _ _ _ _ _ _ _ _ _ _ _ _ rfl) rfl rfl rfl

set_option maxRecDepth 20000 in
set_option maxHeartbeats 2000000 in
theorem at_past4 (s : ByteArray) (i : Nat) (w : World) (h : i < s.size) (hs : s.size ≤ 70368744177664) (b0 b1 b2 b3 : Nat) (hb0 : s[i].toNat = b0) (l1 : i + 1 < s.size) (hb1 : s[i + 1].toNat = b1) (p1 : 128 ≤ b1) (q1 : b1 ≤ 191) (l2 : i + 2 < s.size) (hb2 : s[i + 2].toNat = b2) (p2 : 128 ≤ b2) (q2 : b2 ≤ 191) (l3 : i + 3 < s.size) (hb3 : s[i + 3].toNat = b3) (p3 : 128 ≤ b3) (q3 : b3 ≤ 191) (X1 : Nat) (hX1 : X1 + 128 = (b0 % 8) * 64 + b1) (X2 : Nat) (hX2 : X2 + 128 = (X1) * 64 + b2) (X3 : Nat) (hX3 : X3 + 128 = (X2) * 64 + b3) (f0 : 240 ≤ b0) (f1 : b0 ≤ 247) (e0 : 1114111 < X3) :
    Calls Tryd.prog 39 #[.string s, .int .i64 i] w fun e w' => e = .returned (.agg (spotV i 1 65533 15)) ∧ Below w.heap.size w w' := by
  have hi0 : (0 : Int) ≤ (i : Int) := by omega
  have hi1 : (i : Int) < (s.size : Int) := by omega
  have hbb : b0 < 256 := by rw [← hb0]; exact s[i].toNat_lt
  have hl : longOf b0 = 4 := longOf_4 (by omega) (by omega)
  have hi1a : (0 : Int) ≤ (i : Int) + 1 := by omega
  have hi1b : (i : Int) + 1 < (s.size : Int) := by omega
  have hbb1 : b1 < 256 := by rw [← hb1]; exact s[i + 1].toNat_lt
  have hi2a : (0 : Int) ≤ (i : Int) + 2 := by omega
  have hi2b : (i : Int) + 2 < (s.size : Int) := by omega
  have hbb2 : b2 < 256 := by rw [← hb2]; exact s[i + 2].toNat_lt
  have hi3a : (0 : Int) ≤ (i : Int) + 3 := by omega
  have hi3b : (i : Int) + 3 < (s.size : Int) := by omega
  have hbb3 : b3 < 256 := by rw [← hb3]; exact s[i + 3].toNat_lt
  have hm := and_mask b0 3 hbb 7 (by decide)
  rw [show (2 : Nat) ^ 3 = 8 from rfl] at hm
  obtain ⟨m, hmm⟩ : ∃ m, m = b0 % 8 := ⟨_, rfl⟩
  have hm8 : m < 8 := by omega
  rw [← hmm] at hm hX1
  have HMM := Lib.hid hmm
  clear hmm
  have hx1 : (m : Int) * 64 + (b1 : Int) - 128 = (X1 : Int) := by omega
  have hxb1 : X1 < 512 := by omega
  have hx2 : (X1 : Int) * 64 + (b2 : Int) - 128 = (X2 : Int) := by omega
  have hxb2 : X2 < 32768 := by omega
  have hx3 : (X2 : Int) * 64 + (b3 : Int) - 128 = (X3 : Int) := by omega
  have hxb3 : X3 < 2097152 := by omega
  clear hX1
  clear hX2
  clear hX3
  obtain ⟨x3, hx3i⟩ : ∃ x3 : Int, x3 = (X3 : Int) := ⟨_, rfl⟩
  rw [← hx3i] at hx3
  have hxj : 0 ≤ x3 := by omega
  have ei0 : 1114111 < x3 := by omega
  clear hxb3 e0
  have HXI := Lib.hid hx3i
  clear hx3i
  go_enter Tryd.func39, Tryd.ntmps39
  go_wp2_with (go_at_call 63; refine (long_any b0 _ hbb).mono ?_; rw [hl]; rintro e w' ⟨rfl, rfl⟩)
  go_quiet (fail)
  go_wp2
  refine wp_loop_rounds 4 ?_
  rw [rounds_succ]
  go_wp2_with fail
  rw [rounds_succ]
  go_wp2_with fail
  rw [rounds_succ]
  go_wp2_with fail
  rw [rounds_succ]
  go_wp2_with fail
  exact spot_ret w _ _ i 1 65533 15 _ _ _ _ (fin_over w _ _ _ _ _ _ _ _ _ _ _ _ _ _ rfl) rfl rfl rfl

set_option maxRecDepth 20000 in
set_option maxHeartbeats 2000000 in
theorem at_good4 (s : ByteArray) (i : Nat) (w : World) (h : i < s.size) (hs : s.size ≤ 70368744177664) (b0 b1 b2 b3 : Nat) (hb0 : s[i].toNat = b0) (l1 : i + 1 < s.size) (hb1 : s[i + 1].toNat = b1) (p1 : 128 ≤ b1) (q1 : b1 ≤ 191) (l2 : i + 2 < s.size) (hb2 : s[i + 2].toNat = b2) (p2 : 128 ≤ b2) (q2 : b2 ≤ 191) (l3 : i + 3 < s.size) (hb3 : s[i + 3].toNat = b3) (p3 : 128 ≤ b3) (q3 : b3 ≤ 191) (X1 : Nat) (hX1 : X1 + 128 = (b0 % 8) * 64 + b1) (X2 : Nat) (hX2 : X2 + 128 = (X1) * 64 + b2) (X3 : Nat) (hX3 : X3 + 128 = (X2) * 64 + b3) (f0 : 240 ≤ b0) (f1 : b0 ≤ 247) (e0 : 65536 ≤ X3) (e1 : X3 ≤ 1114111) :
    Calls Tryd.prog 39 #[.string s, .int .i64 i] w fun e w' => e = .returned (.agg (spotV i 4 X3 0)) ∧ Below w.heap.size w w' := by
  have hi0 : (0 : Int) ≤ (i : Int) := by omega
  have hi1 : (i : Int) < (s.size : Int) := by omega
  have hbb : b0 < 256 := by rw [← hb0]; exact s[i].toNat_lt
  have hl : longOf b0 = 4 := longOf_4 (by omega) (by omega)
  have hi1a : (0 : Int) ≤ (i : Int) + 1 := by omega
  have hi1b : (i : Int) + 1 < (s.size : Int) := by omega
  have hbb1 : b1 < 256 := by rw [← hb1]; exact s[i + 1].toNat_lt
  have hi2a : (0 : Int) ≤ (i : Int) + 2 := by omega
  have hi2b : (i : Int) + 2 < (s.size : Int) := by omega
  have hbb2 : b2 < 256 := by rw [← hb2]; exact s[i + 2].toNat_lt
  have hi3a : (0 : Int) ≤ (i : Int) + 3 := by omega
  have hi3b : (i : Int) + 3 < (s.size : Int) := by omega
  have hbb3 : b3 < 256 := by rw [← hb3]; exact s[i + 3].toNat_lt
  have hm := and_mask b0 3 hbb 7 (by decide)
  rw [show (2 : Nat) ^ 3 = 8 from rfl] at hm
  obtain ⟨m, hmm⟩ : ∃ m, m = b0 % 8 := ⟨_, rfl⟩
  have hm8 : m < 8 := by omega
  rw [← hmm] at hm hX1
  have HMM := Lib.hid hmm
  clear hmm
  have hx1 : (m : Int) * 64 + (b1 : Int) - 128 = (X1 : Int) := by omega
  have hxb1 : X1 < 512 := by omega
  have hx2 : (X1 : Int) * 64 + (b2 : Int) - 128 = (X2 : Int) := by omega
  have hxb2 : X2 < 32768 := by omega
  have hx3 : (X2 : Int) * 64 + (b3 : Int) - 128 = (X3 : Int) := by omega
  have hxb3 : X3 < 2097152 := by omega
  clear hX1
  clear hX2
  clear hX3
  obtain ⟨x3, hx3i⟩ : ∃ x3 : Int, x3 = (X3 : Int) := ⟨_, rfl⟩
  rw [← hx3i] at hx3
  have hxj : 0 ≤ x3 := by omega
  have ei0 : 65536 ≤ x3 := by omega
  have ei1 : x3 ≤ 1114111 := by omega
  clear hxb3 e0 e1
  have HXI := Lib.hid hx3i
  clear hx3i
  go_enter Tryd.func39, Tryd.ntmps39
  go_wp2_with (go_at_call 63; refine (long_any b0 _ hbb).mono ?_; rw [hl]; rintro e w' ⟨rfl, rfl⟩)
  go_quiet (fail)
  go_wp2
  refine wp_loop_rounds 4 ?_
  rw [rounds_succ]
  go_wp2_with fail
  rw [rounds_succ]
  go_wp2_with fail
  rw [rounds_succ]
  go_wp2_with fail
  rw [rounds_succ]
  go_wp2_with fail
  exact spot_ret w _ _ i 4 X3 0 _ _ _ _ (fin_good w _ _ _ _ _ _ _ _ _ _ _ _ _ rfl) rfl rfl (by rw [HXI.out]; rfl)

end Go.Proofs.YthkehgmeaedflaaDoor
