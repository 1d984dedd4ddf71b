/-
  The reference's reading of one character, walked: three bytes. Printed by a program of ours (genat.py).
-/
import Derived.Test.YthkehgmeaedflaaDoorRAtH
namespace Go.Proofs.YthkehgmeaedflaaDoor
open Go.RowKit

set_option maxRecDepth 20000 in
set_option maxHeartbeats 2000000 in
theorem at_cut31 (s : ByteArray) (i : Nat) (w : World) (h : i < s.size) (hs : s.size ≤ 70368744177664) (b0 : Nat) (hb0 : s[i].toNat = b0)  (f0 : 224 ≤ b0) (f1 : b0 < 240) (e0 : s.size ≤ i + 1) :
    Calls Tryd.prog 39 #[.string s, .int .i64 i] w fun e w' => e = .returned (.agg (spotV i 1 65533 11)) ∧ Below w.heap.size w w' := by
  have hi0 : (0 : Int) ≤ (i : Int) := by omega
  have hi1 : (i : Int) < (s.size : Int) := by omega
  have hbb : b0 < 256 := by rw [← hb0]; exact s[i].toNat_lt
  have hl : longOf b0 = 3 := longOf_3 (by omega) (by omega)
  have hm := and_mask b0 4 hbb 15 (by decide)
  rw [show (2 : Nat) ^ 4 = 16 from rfl] at hm
  obtain ⟨m, hmm⟩ : ∃ m, m = b0 % 16 := ⟨_, rfl⟩
  have hm8 : m < 16 := by omega
  rw [← hmm] at hm
  have HMM := Lib.hid hmm
  clear hmm
  go_enter Tryd.func39, Tryd.ntmps39
  go_wp2_with (go_at_call 63; refine (long_any b0 _ hbb).mono ?_; rw [hl]; rintro e w' ⟨rfl, rfl⟩)
  go_quiet (fail)
  go_wp2
  refine wp_loop_rounds 3 ?_
  rw [rounds_succ]
  go_wp2_with fail
  exact spot_ret w _ _ i 1 65533 11 _ _ _ _ (fin_tail w _ _ _ _ _ _ _ _ _ _ _ _ _ rfl) rfl rfl rfl

set_option maxRecDepth 20000 in
set_option maxHeartbeats 2000000 in
theorem at_low31 (s : ByteArray) (i : Nat) (w : World) (h : i < s.size) (hs : s.size ≤ 70368744177664) (b0 b1 : Nat) (hb0 : s[i].toNat = b0) (l1 : i + 1 < s.size) (hb1 : s[i + 1].toNat = b1)  (f0 : 224 ≤ b0) (f1 : b0 < 240) (e0 : b1 < 128) :
    Calls Tryd.prog 39 #[.string s, .int .i64 i] w fun e w' => e = .returned (.agg (spotV i 1 65533 12)) ∧ Below w.heap.size w w' := by
  have hi0 : (0 : Int) ≤ (i : Int) := by omega
  have hi1 : (i : Int) < (s.size : Int) := by omega
  have hbb : b0 < 256 := by rw [← hb0]; exact s[i].toNat_lt
  have hl : longOf b0 = 3 := longOf_3 (by omega) (by omega)
  have hi1a : (0 : Int) ≤ (i : Int) + 1 := by omega
  have hi1b : (i : Int) + 1 < (s.size : Int) := by omega
  have hbb1 : b1 < 256 := by rw [← hb1]; exact s[i + 1].toNat_lt
  have hm := and_mask b0 4 hbb 15 (by decide)
  rw [show (2 : Nat) ^ 4 = 16 from rfl] at hm
  obtain ⟨m, hmm⟩ : ∃ m, m = b0 % 16 := ⟨_, rfl⟩
  have hm8 : m < 16 := by omega
  rw [← hmm] at hm
  have HMM := Lib.hid hmm
  clear hmm
  go_enter Tryd.func39, Tryd.ntmps39
  go_wp2_with (go_at_call 63; refine (long_any b0 _ hbb).mono ?_; rw [hl]; rintro e w' ⟨rfl, rfl⟩)
  go_quiet (fail)
  go_wp2
  refine wp_loop_rounds 3 ?_
  rw [rounds_succ]
  go_wp2_with fail
  exact spot_ret w _ _ i 1 65533 12 _ _ _ _ (fin_tail w _ _ _ _ _ _ _ _ _ _ _ _ _ rfl) rfl rfl rfl

set_option maxRecDepth 20000 in
set_option maxHeartbeats 2000000 in
theorem at_top31 (s : ByteArray) (i : Nat) (w : World) (h : i < s.size) (hs : s.size ≤ 70368744177664) (b0 b1 : Nat) (hb0 : s[i].toNat = b0) (l1 : i + 1 < s.size) (hb1 : s[i + 1].toNat = b1)  (f0 : 224 ≤ b0) (f1 : b0 < 240) (e0 : 191 < b1) :
    Calls Tryd.prog 39 #[.string s, .int .i64 i] w fun e w' => e = .returned (.agg (spotV i 1 65533 12)) ∧ Below w.heap.size w w' := by
  have hi0 : (0 : Int) ≤ (i : Int) := by omega
  have hi1 : (i : Int) < (s.size : Int) := by omega
  have hbb : b0 < 256 := by rw [← hb0]; exact s[i].toNat_lt
  have hl : longOf b0 = 3 := longOf_3 (by omega) (by omega)
  have hi1a : (0 : Int) ≤ (i : Int) + 1 := by omega
  have hi1b : (i : Int) + 1 < (s.size : Int) := by omega
  have hbb1 : b1 < 256 := by rw [← hb1]; exact s[i + 1].toNat_lt
  have hm := and_mask b0 4 hbb 15 (by decide)
  rw [show (2 : Nat) ^ 4 = 16 from rfl] at hm
  obtain ⟨m, hmm⟩ : ∃ m, m = b0 % 16 := ⟨_, rfl⟩
  have hm8 : m < 16 := by omega
  rw [← hmm] at hm
  have HMM := Lib.hid hmm
  clear hmm
  go_enter Tryd.func39, Tryd.ntmps39
  go_wp2_with (go_at_call 63; refine (long_any b0 _ hbb).mono ?_; rw [hl]; rintro e w' ⟨rfl, rfl⟩)
  go_quiet (fail)
  go_wp2
  refine wp_loop_rounds 3 ?_
  rw [rounds_succ]
  go_wp2_with fail
  exact spot_ret w _ _ i 1 65533 12 _ _ _ _ (fin_tail w _ _ _ _ _ _ _ _ _ _ _ _ _ rfl) rfl rfl rfl

set_option maxRecDepth 20000 in
set_option maxHeartbeats 2000000 in
theorem at_cut32 (s : ByteArray) (i : Nat) (w : World) (h : i < s.size) (hs : s.size ≤ 70368744177664) (b0 b1 : Nat) (hb0 : s[i].toNat = b0) (l1 : i + 1 < s.size) (hb1 : s[i + 1].toNat = b1) (p1 : 128 ≤ b1) (q1 : b1 ≤ 191) (X1 : Nat) (hX1 : X1 + 128 = (b0 % 16) * 64 + b1) (f0 : 224 ≤ b0) (f1 : b0 < 240) (e0 : s.size ≤ i + 2) :
    Calls Tryd.prog 39 #[.string s, .int .i64 i] w fun e w' => e = .returned (.agg (spotV i 1 65533 11)) ∧ Below w.heap.size w w' := by
  have hi0 : (0 : Int) ≤ (i : Int) := by omega
  have hi1 : (i : Int) < (s.size : Int) := by omega
  have hbb : b0 < 256 := by rw [← hb0]; exact s[i].toNat_lt
  have hl : longOf b0 = 3 := longOf_3 (by omega) (by omega)
  have hi1a : (0 : Int) ≤ (i : Int) + 1 := by omega
  have hi1b : (i : Int) + 1 < (s.size : Int) := by omega
  have hbb1 : b1 < 256 := by rw [← hb1]; exact s[i + 1].toNat_lt
  have hm := and_mask b0 4 hbb 15 (by decide)
  rw [show (2 : Nat) ^ 4 = 16 from rfl] at hm
  obtain ⟨m, hmm⟩ : ∃ m, m = b0 % 16 := ⟨_, rfl⟩
  have hm8 : m < 16 := by omega
  rw [← hmm] at hm hX1
  have HMM := Lib.hid hmm
  clear hmm
  have hx1 : (m : Int) * 64 + (b1 : Int) - 128 = (X1 : Int) := by omega
  have hxb1 : X1 < 1024 := by omega
  clear hX1
  go_enter Tryd.func39, Tryd.ntmps39
  go_wp2_with (go_at_call 63; refine (long_any b0 _ hbb).mono ?_; rw [hl]; rintro e w' ⟨rfl, rfl⟩)
  go_quiet (fail)
  go_wp2
  refine wp_loop_rounds 3 ?_
  rw [rounds_succ]
  go_wp2_with fail
  rw [rounds_succ]
  go_wp2_with fail
  exact spot_ret w _ _ i 1 65533 11 _ _ _ _ (fin_tail w _ _ _ _ _ _ _ _ _ _ _ _ _ rfl) rfl rfl rfl

set_option maxRecDepth 20000 in
set_option maxHeartbeats 2000000 in
theorem at_low32 (s : ByteArray) (i : Nat) (w : World) (h : i < s.size) (hs : s.size ≤ 70368744177664) (b0 b1 b2 : Nat) (hb0 : s[i].toNat = b0) (l1 : i + 1 < s.size) (hb1 : s[i + 1].toNat = b1) (p1 : 128 ≤ b1) (q1 : b1 ≤ 191) (l2 : i + 2 < s.size) (hb2 : s[i + 2].toNat = b2) (X1 : Nat) (hX1 : X1 + 128 = (b0 % 16) * 64 + b1) (f0 : 224 ≤ b0) (f1 : b0 < 240) (e0 : b2 < 128) :
    Calls Tryd.prog 39 #[.string s, .int .i64 i] w fun e w' => e = .returned (.agg (spotV i 1 65533 12)) ∧ Below w.heap.size w w' := by
  have hi0 : (0 : Int) ≤ (i : Int) := by omega
  have hi1 : (i : Int) < (s.size : Int) := by omega
  have hbb : b0 < 256 := by rw [← hb0]; exact s[i].toNat_lt
  have hl : longOf b0 = 3 := longOf_3 (by omega) (by omega)
  have hi1a : (0 : Int) ≤ (i : Int) + 1 := by omega
  have hi1b : (i : Int) + 1 < (s.size : Int) := by omega
  have hbb1 : b1 < 256 := by rw [← hb1]; exact s[i + 1].toNat_lt
  have hi2a : (0 : Int) ≤ (i : Int) + 2 := by omega
  have hi2b : (i : Int) + 2 < (s.size : Int) := by omega
  have hbb2 : b2 < 256 := by rw [← hb2]; exact s[i + 2].toNat_lt
  have hm := and_mask b0 4 hbb 15 (by decide)
  rw [show (2 : Nat) ^ 4 = 16 from rfl] at hm
  obtain ⟨m, hmm⟩ : ∃ m, m = b0 % 16 := ⟨_, rfl⟩
  have hm8 : m < 16 := by omega
  rw [← hmm] at hm hX1
  have HMM := Lib.hid hmm
  clear hmm
  have hx1 : (m : Int) * 64 + (b1 : Int) - 128 = (X1 : Int) := by omega
  have hxb1 : X1 < 1024 := by omega
  clear hX1
  go_enter Tryd.func39, Tryd.ntmps39
  go_wp2_with (go_at_call 63; refine (long_any b0 _ hbb).mono ?_; rw [hl]; rintro e w' ⟨rfl, rfl⟩)
  go_quiet (fail)
  go_wp2
  refine wp_loop_rounds 3 ?_
  rw [rounds_succ]
  go_wp2_with fail
  rw [rounds_succ]
  go_wp2_with fail
  exact spot_ret w _ _ i 1 65533 12 _ _ _ _ (fin_tail w _ _ _ _ _ _ _ _ _ _ _ _ _ rfl) rfl rfl rfl

set_option maxRecDepth 20000 in
set_option maxHeartbeats 2000000 in
theorem at_top32 (s : ByteArray) (i : Nat) (w : World) (h : i < s.size) (hs : s.size ≤ 70368744177664) (b0 b1 b2 : Nat) (hb0 : s[i].toNat = b0) (l1 : i + 1 < s.size) (hb1 : s[i + 1].toNat = b1) (p1 : 128 ≤ b1) (q1 : b1 ≤ 191) (l2 : i + 2 < s.size) (hb2 : s[i + 2].toNat = b2) (X1 : Nat) (hX1 : X1 + 128 = (b0 % 16) * 64 + b1) (f0 : 224 ≤ b0) (f1 : b0 < 240) (e0 : 191 < b2) :
    Calls Tryd.prog 39 #[.string s, .int .i64 i] w fun e w' => e = .returned (.agg (spotV i 1 65533 12)) ∧ Below w.heap.size w w' := by
  have hi0 : (0 : Int) ≤ (i : Int) := by omega
  have hi1 : (i : Int) < (s.size : Int) := by omega
  have hbb : b0 < 256 := by rw [← hb0]; exact s[i].toNat_lt
  have hl : longOf b0 = 3 := longOf_3 (by omega) (by omega)
  have hi1a : (0 : Int) ≤ (i : Int) + 1 := by omega
  have hi1b : (i : Int) + 1 < (s.size : Int) := by omega
  have hbb1 : b1 < 256 := by rw [← hb1]; exact s[i + 1].toNat_lt
  have hi2a : (0 : Int) ≤ (i : Int) + 2 := by omega
  have hi2b : (i : Int) + 2 < (s.size : Int) := by omega
  have hbb2 : b2 < 256 := by rw [← hb2]; exact s[i + 2].toNat_lt
  have hm := and_mask b0 4 hbb 15 (by decide)
  rw [show (2 : Nat) ^ 4 = 16 from rfl] at hm
  obtain ⟨m, hmm⟩ : ∃ m, m = b0 % 16 := ⟨_, rfl⟩
  have hm8 : m < 16 := by omega
  rw [← hmm] at hm hX1
  have HMM := Lib.hid hmm
  clear hmm
  have hx1 : (m : Int) * 64 + (b1 : Int) - 128 = (X1 : Int) := by omega
  have hxb1 : X1 < 1024 := by omega
  clear hX1
  go_enter Tryd.func39, Tryd.ntmps39
  go_wp2_with (go_at_call 63; refine (long_any b0 _ hbb).mono ?_; rw [hl]; rintro e w' ⟨rfl, rfl⟩)
  go_quiet (fail)
  go_wp2
  refine wp_loop_rounds 3 ?_
  rw [rounds_succ]
  go_wp2_with fail
  rw [rounds_succ]
  go_wp2_with fail
  exact spot_ret w _ _ i 1 65533 12 _ _ _ _ (fin_tail w _ _ _ _ _ _ _ _ _ _ _ _ _ rfl) rfl rfl rfl

set_option maxRecDepth 20000 in
set_option maxHeartbeats 2000000 in
theorem at_over3 (s : ByteArray) (i : Nat) (w : World) (h : i < s.size) (hs : s.size ≤ 70368744177664) (b0 b1 b2 : Nat) (hb0 : s[i].toNat = b0) (l1 : i + 1 < s.size) (hb1 : s[i + 1].toNat = b1) (p1 : 128 ≤ b1) (q1 : b1 ≤ 191) (l2 : i + 2 < s.size) (hb2 : s[i + 2].toNat = b2) (p2 : 128 ≤ b2) (q2 : b2 ≤ 191) (X1 : Nat) (hX1 : X1 + 128 = (b0 % 16) * 64 + b1) (X2 : Nat) (hX2 : X2 + 128 = (X1) * 64 + b2) (f0 : 224 ≤ b0) (f1 : b0 < 240) (e0 : X2 < 2048) :
    Calls Tryd.prog 39 #[.string s, .int .i64 i] w fun e w' => e = .returned (.agg (spotV i 1 65533 13)) ∧ Below w.heap.size w w' := by
  have hi0 : (0 : Int) ≤ (i : Int) := by omega
  have hi1 : (i : Int) < (s.size : Int) := by omega
  have hbb : b0 < 256 := by rw [← hb0]; exact s[i].toNat_lt
  have hl : longOf b0 = 3 := longOf_3 (by omega) (by omega)
  have hi1a : (0 : Int) ≤ (i : Int) + 1 := by omega
  have hi1b : (i : Int) + 1 < (s.size : Int) := by omega
  have hbb1 : b1 < 256 := by rw [← hb1]; exact s[i + 1].toNat_lt
  have hi2a : (0 : Int) ≤ (i : Int) + 2 := by omega
  have hi2b : (i : Int) + 2 < (s.size : Int) := by omega
  have hbb2 : b2 < 256 := by rw [← hb2]; exact s[i + 2].toNat_lt
  have hm := and_mask b0 4 hbb 15 (by decide)
  rw [show (2 : Nat) ^ 4 = 16 from rfl] at hm
  obtain ⟨m, hmm⟩ : ∃ m, m = b0 % 16 := ⟨_, rfl⟩
  have hm8 : m < 16 := by omega
  rw [← hmm] at hm hX1
  have HMM := Lib.hid hmm
  clear hmm
  have hx1 : (m : Int) * 64 + (b1 : Int) - 128 = (X1 : Int) := by omega
  have hxb1 : X1 < 1024 := by omega
  have hx2 : (X1 : Int) * 64 + (b2 : Int) - 128 = (X2 : Int) := by omega
  have hxb2 : X2 < 65536 := by omega
  clear hX1
  clear hX2
  go_enter Tryd.func39, Tryd.ntmps39
  go_wp2_with (go_at_call 63; refine (long_any b0 _ hbb).mono ?_; rw [hl]; rintro e w' ⟨rfl, rfl⟩)
  go_quiet (fail)
  go_wp2
  refine wp_loop_rounds 3 ?_
  rw [rounds_succ]
  go_wp2_with fail
  rw [rounds_succ]
  go_wp2_with fail
  rw [rounds_succ]
  go_wp2_with fail
  exact spot_ret w _ _ i 1 65533 13 _ _ _ _ (fin_over w _ _ _ _ _ _ _ _ _ _ _ _ _ _ rfl) rfl rfl rfl

set_option maxRecDepth 20000 in
set_option maxHeartbeats 2000000 in
theorem at_half3 (s : ByteArray) (i : Nat) (w : World) (h : i < s.size) (hs : s.size ≤ 70368744177664) (b0 b1 b2 : Nat) (hb0 : s[i].toNat = b0) (l1 : i + 1 < s.size) (hb1 : s[i + 1].toNat = b1) (p1 : 128 ≤ b1) (q1 : b1 ≤ 191) (l2 : i + 2 < s.size) (hb2 : s[i + 2].toNat = b2) (p2 : 128 ≤ b2) (q2 : b2 ≤ 191) (X1 : Nat) (hX1 : X1 + 128 = (b0 % 16) * 64 + b1) (X2 : Nat) (hX2 : X2 + 128 = (X1) * 64 + b2) (f0 : 224 ≤ b0) (f1 : b0 < 240) (e0 : 55296 ≤ X2) (e1 : X2 ≤ 57343) :
    Calls Tryd.prog 39 #[.string s, .int .i64 i] w fun e w' => e = .returned (.agg (spotV i 1 65533 14)) ∧ Below w.heap.size w w' := by
  have hi0 : (0 : Int) ≤ (i : Int) := by omega
  have hi1 : (i : Int) < (s.size : Int) := by omega
  have hbb : b0 < 256 := by rw [← hb0]; exact s[i].toNat_lt
  have hl : longOf b0 = 3 := longOf_3 (by omega) (by omega)
  have hi1a : (0 : Int) ≤ (i : Int) + 1 := by omega
  have hi1b : (i : Int) + 1 < (s.size : Int) := by omega
  have hbb1 : b1 < 256 := by rw [← hb1]; exact s[i + 1].toNat_lt
  have hi2a : (0 : Int) ≤ (i : Int) + 2 := by omega
  have hi2b : (i : Int) + 2 < (s.size : Int) := by omega
  have hbb2 : b2 < 256 := by rw [← hb2]; exact s[i + 2].toNat_lt
  have hm := and_mask b0 4 hbb 15 (by decide)
  rw [show (2 : Nat) ^ 4 = 16 from rfl] at hm
  obtain ⟨m, hmm⟩ : ∃ m, m = b0 % 16 := ⟨_, rfl⟩
  have hm8 : m < 16 := by omega
  rw [← hmm] at hm hX1
  have HMM := Lib.hid hmm
  clear hmm
  have hx1 : (m : Int) * 64 + (b1 : Int) - 128 = (X1 : Int) := by omega
  have hxb1 : X1 < 1024 := by omega
  have hx2 : (X1 : Int) * 64 + (b2 : Int) - 128 = (X2 : Int) := by omega
  have hxb2 : X2 < 65536 := by omega
  clear hX1
  clear hX2
  go_enter Tryd.func39, Tryd.ntmps39
  go_wp2_with (go_at_call 63; refine (long_any b0 _ hbb).mono ?_; rw [hl]; rintro e w' ⟨rfl, rfl⟩)
  go_quiet (fail)
  go_wp2
  refine wp_loop_rounds 3 ?_
  rw [rounds_succ]
  go_wp2_with fail
  rw [rounds_succ]
  go_wp2_with fail
  rw [rounds_succ]
  go_wp2_with fail
  exact spot_ret w _ _ i 1 65533 14 _ _ _ _ (fin_over w _ _ _ _ _ _ _ _ _ _ _ _ _ _ rfl) rfl rfl rfl

set_option maxRecDepth 20000 in
set_option maxHeartbeats 2000000 in
theorem at_good3a (s : ByteArray) (i : Nat) (w : World) (h : i < s.size) (hs : s.size ≤ 70368744177664) (b0 b1 b2 : Nat) (hb0 : s[i].toNat = b0) (l1 : i + 1 < s.size) (hb1 : s[i + 1].toNat = b1) (p1 : 128 ≤ b1) (q1 : b1 ≤ 191) (l2 : i + 2 < s.size) (hb2 : s[i + 2].toNat = b2) (p2 : 128 ≤ b2) (q2 : b2 ≤ 191) (X1 : Nat) (hX1 : X1 + 128 = (b0 % 16) * 64 + b1) (X2 : Nat) (hX2 : X2 + 128 = (X1) * 64 + b2) (f0 : 224 ≤ b0) (f1 : b0 < 240) (e0 : 2048 ≤ X2) (e1 : X2 < 55296) :
    Calls Tryd.prog 39 #[.string s, .int .i64 i] w fun e w' => e = .returned (.agg (spotV i 3 X2 0)) ∧ Below w.heap.size w w' := by
  have hi0 : (0 : Int) ≤ (i : Int) := by omega
  have hi1 : (i : Int) < (s.size : Int) := by omega
  have hbb : b0 < 256 := by rw [← hb0]; exact s[i].toNat_lt
  have hl : longOf b0 = 3 := longOf_3 (by omega) (by omega)
  have hi1a : (0 : Int) ≤ (i : Int) + 1 := by omega
  have hi1b : (i : Int) + 1 < (s.size : Int) := by omega
  have hbb1 : b1 < 256 := by rw [← hb1]; exact s[i + 1].toNat_lt
  have hi2a : (0 : Int) ≤ (i : Int) + 2 := by omega
  have hi2b : (i : Int) + 2 < (s.size : Int) := by omega
  have hbb2 : b2 < 256 := by rw [← hb2]; exact s[i + 2].toNat_lt
  have hm := and_mask b0 4 hbb 15 (by decide)
  rw [show (2 : Nat) ^ 4 = 16 from rfl] at hm
  obtain ⟨m, hmm⟩ : ∃ m, m = b0 % 16 := ⟨_, rfl⟩
  have hm8 : m < 16 := by omega
  rw [← hmm] at hm hX1
  have HMM := Lib.hid hmm
  clear hmm
  have hx1 : (m : Int) * 64 + (b1 : Int) - 128 = (X1 : Int) := by omega
  have hxb1 : X1 < 1024 := by omega
  have hx2 : (X1 : Int) * 64 + (b2 : Int) - 128 = (X2 : Int) := by omega
  have hxb2 : X2 < 65536 := by omega
  clear hX1
  clear hX2
  go_enter Tryd.func39, Tryd.ntmps39
  go_wp2_with (go_at_call 63; refine (long_any b0 _ hbb).mono ?_; rw [hl]; rintro e w' ⟨rfl, rfl⟩)
  go_quiet (fail)
  go_wp2
  refine wp_loop_rounds 3 ?_
  rw [rounds_succ]
  go_wp2_with fail
  rw [rounds_succ]
  go_wp2_with fail
  rw [rounds_succ]
  go_wp2_with fail
  exact spot_ret w _ _ i 3 X2 0 _ _ _ _ (fin_good w _ _ _ _ _ _ _ _ _ _ _ _ _ rfl) rfl rfl rfl

set_option maxRecDepth 20000 in
set_option maxHeartbeats 2000000 in
theorem at_good3b (s : ByteArray) (i : Nat) (w : World) (h : i < s.size) (hs : s.size ≤ 70368744177664) (b0 b1 b2 : Nat) (hb0 : s[i].toNat = b0) (l1 : i + 1 < s.size) (hb1 : s[i + 1].toNat = b1) (p1 : 128 ≤ b1) (q1 : b1 ≤ 191) (l2 : i + 2 < s.size) (hb2 : s[i + 2].toNat = b2) (p2 : 128 ≤ b2) (q2 : b2 ≤ 191) (X1 : Nat) (hX1 : X1 + 128 = (b0 % 16) * 64 + b1) (X2 : Nat) (hX2 : X2 + 128 = (X1) * 64 + b2) (f0 : 224 ≤ b0) (f1 : b0 < 240) (e0 : 57343 < X2) :
    Calls Tryd.prog 39 #[.string s, .int .i64 i] w fun e w' => e = .returned (.agg (spotV i 3 X2 0)) ∧ Below w.heap.size w w' := by
  have hi0 : (0 : Int) ≤ (i : Int) := by omega
  have hi1 : (i : Int) < (s.size : Int) := by omega
  have hbb : b0 < 256 := by rw [← hb0]; exact s[i].toNat_lt
  have hl : longOf b0 = 3 := longOf_3 (by omega) (by omega)
  have hi1a : (0 : Int) ≤ (i : Int) + 1 := by omega
  have hi1b : (i : Int) + 1 < (s.size : Int) := by omega
  have hbb1 : b1 < 256 := by rw [← hb1]; exact s[i + 1].toNat_lt
  have hi2a : (0 : Int) ≤ (i : Int) + 2 := by omega
  have hi2b : (i : Int) + 2 < (s.size : Int) := by omega
  have hbb2 : b2 < 256 := by rw [← hb2]; exact s[i + 2].toNat_lt
  have hm := and_mask b0 4 hbb 15 (by decide)
  rw [show (2 : Nat) ^ 4 = 16 from rfl] at hm
  obtain ⟨m, hmm⟩ : ∃ m, m = b0 % 16 := ⟨_, rfl⟩
  have hm8 : m < 16 := by omega
  rw [← hmm] at hm hX1
  have HMM := Lib.hid hmm
  clear hmm
  have hx1 : (m : Int) * 64 + (b1 : Int) - 128 = (X1 : Int) := by omega
  have hxb1 : X1 < 1024 := by omega
  have hx2 : (X1 : Int) * 64 + (b2 : Int) - 128 = (X2 : Int) := by omega
  have hxb2 : X2 < 65536 := by omega
  clear hX1
  clear hX2
  go_enter Tryd.func39, Tryd.ntmps39
  go_wp2_with (go_at_call 63; refine (long_any b0 _ hbb).mono ?_; rw [hl]; rintro e w' ⟨rfl, rfl⟩)
  go_quiet (fail)
  go_wp2
  refine wp_loop_rounds 3 ?_
  rw [rounds_succ]
  go_wp2_with fail
  rw [rounds_succ]
  go_wp2_with fail
  rw [rounds_succ]
  go_wp2_with fail
  exact spot_ret w _ _ i 3 X2 0 _ _ _ _ (fin_good w _ _ _ _ _ _ _ _ _ _ _ _ _ rfl) rfl rfl rfl

end Go.Proofs.YthkehgmeaedflaaDoor
