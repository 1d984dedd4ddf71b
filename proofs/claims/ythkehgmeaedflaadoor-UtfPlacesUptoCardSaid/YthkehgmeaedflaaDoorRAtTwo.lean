/-
  The reference's reading of one character, walked: one and two bytes. Printed by a program of ours (genat.py).
-/
import Derived.Test.YthkehgmeaedflaaDoorRAtH
namespace Go.Proofs.YthkehgmeaedflaaDoor
open Go.RowKit

set_option maxRecDepth 20000 in
set_option maxHeartbeats 2000000 in
theorem at_lead1 (s : ByteArray) (i : Nat) (w : World) (h : i < s.size) (hs : s.size ≤ 70368744177664) (b0 : Nat) (hb0 : s[i].toNat = b0)  (f0 : 128 ≤ b0) (f1 : b0 < 192) :
    Calls Tryd.prog 39 #[.string s, .int .i64 i] w fun e w' => e = .returned (.agg (spotV i 1 65533 10)) ∧ Below w.heap.size w w' := by
  have hi0 : (0 : Int) ≤ (i : Int) := by omega
  have hi1 : (i : Int) < (s.size : Int) := by omega
  have hbb : b0 < 256 := by rw [← hb0]; exact s[i].toNat_lt
  have hl : longOf b0 = 0 := longOf_0 (by omega) (by omega)
  go_enter Tryd.func39, Tryd.ntmps39
  go_wp2_with (go_at_call 63; refine (long_any b0 _ hbb).mono ?_; rw [hl]; rintro e w' ⟨rfl, rfl⟩)
  exact spot_ret w _ _ i 1 65533 10 _ _ _ _ (fin_lead w _ _ _ _ _ _ rfl) rfl rfl rfl

set_option maxRecDepth 20000 in
set_option maxHeartbeats 2000000 in
theorem at_lead2 (s : ByteArray) (i : Nat) (w : World) (h : i < s.size) (hs : s.size ≤ 70368744177664) (b0 : Nat) (hb0 : s[i].toNat = b0)  (f0 : 247 < b0) (f1 : b0 < 256) :
    Calls Tryd.prog 39 #[.string s, .int .i64 i] w fun e w' => e = .returned (.agg (spotV i 1 65533 10)) ∧ Below w.heap.size w w' := by
  have hi0 : (0 : Int) ≤ (i : Int) := by omega
  have hi1 : (i : Int) < (s.size : Int) := by omega
  have hbb : b0 < 256 := by rw [← hb0]; exact s[i].toNat_lt
  have hl : longOf b0 = 0 := longOf_0 (by omega) (by omega)
  go_enter Tryd.func39, Tryd.ntmps39
  go_wp2_with (go_at_call 63; refine (long_any b0 _ hbb).mono ?_; rw [hl]; rintro e w' ⟨rfl, rfl⟩)
  exact spot_ret w _ _ i 1 65533 10 _ _ _ _ (fin_lead w _ _ _ _ _ _ rfl) rfl rfl rfl

set_option maxRecDepth 20000 in
set_option maxHeartbeats 2000000 in
theorem at_one (s : ByteArray) (i : Nat) (w : World) (h : i < s.size) (hs : s.size ≤ 70368744177664) (b0 : Nat) (hb0 : s[i].toNat = b0)  (f0 : b0 < 128) :
    Calls Tryd.prog 39 #[.string s, .int .i64 i] w fun e w' => e = .returned (.agg (spotV i 1 b0 0)) ∧ Below w.heap.size w w' := by
  have hi0 : (0 : Int) ≤ (i : Int) := by omega
  have hi1 : (i : Int) < (s.size : Int) := by omega
  have hbb : b0 < 256 := by rw [← hb0]; exact s[i].toNat_lt
  have hl : longOf b0 = 1 := longOf_1 (by omega)
  have hm := and_mask b0 7 hbb 127 (by decide)
  rw [show (2 : Nat) ^ 7 = 128 from rfl] at hm
  rw [Nat.mod_eq_of_lt f0] at hm
  go_enter Tryd.func39, Tryd.ntmps39
  go_wp2_with (go_at_call 63; refine (long_any b0 _ hbb).mono ?_; rw [hl]; rintro e w' ⟨rfl, rfl⟩)
  go_quiet (fail)
  go_wp2
  refine wp_loop_rounds 1 ?_
  rw [rounds_succ]
  go_wp2_with fail
  exact spot_ret w _ _ i 1 b0 0 _ _ _ _ (fin_good w _ _ _ _ _ _ _ _ _ _ _ _ _ rfl) rfl rfl rfl

set_option maxRecDepth 20000 in
set_option maxHeartbeats 2000000 in
theorem at_cut21 (s : ByteArray) (i : Nat) (w : World) (h : i < s.size) (hs : s.size ≤ 70368744177664) (b0 : Nat) (hb0 : s[i].toNat = b0)  (f0 : 192 ≤ b0) (f1 : b0 < 224) (e0 : s.size ≤ i + 1) :
    Calls Tryd.prog 39 #[.string s, .int .i64 i] w fun e w' => e = .returned (.agg (spotV i 1 65533 11)) ∧ Below w.heap.size w w' := by
  have hi0 : (0 : Int) ≤ (i : Int) := by omega
  have hi1 : (i : Int) < (s.size : Int) := by omega
  have hbb : b0 < 256 := by rw [← hb0]; exact s[i].toNat_lt
  have hl : longOf b0 = 2 := longOf_2 (by omega) (by omega)
  have hm := and_mask b0 5 hbb 31 (by decide)
  rw [show (2 : Nat) ^ 5 = 32 from rfl] at hm
  obtain ⟨m, hmm⟩ : ∃ m, m = b0 % 32 := ⟨_, rfl⟩
  have hm8 : m < 32 := by omega
  rw [← hmm] at hm
  have HMM := Lib.hid hmm
  clear hmm
  go_enter Tryd.func39, Tryd.ntmps39
  go_wp2_with (go_at_call 63; refine (long_any b0 _ hbb).mono ?_; rw [hl]; rintro e w' ⟨rfl, rfl⟩)
  go_quiet (fail)
  go_wp2
  refine wp_loop_rounds 2 ?_
  rw [rounds_succ]
  go_wp2_with fail
  exact spot_ret w _ _ i 1 65533 11 _ _ _ _ (fin_tail w _ _ _ _ _ _ _ _ _ _ _ _ _ rfl) rfl rfl rfl

set_option maxRecDepth 20000 in
set_option maxHeartbeats 2000000 in
theorem at_low21 (s : ByteArray) (i : Nat) (w : World) (h : i < s.size) (hs : s.size ≤ 70368744177664) (b0 b1 : Nat) (hb0 : s[i].toNat = b0) (l1 : i + 1 < s.size) (hb1 : s[i + 1].toNat = b1)  (f0 : 192 ≤ b0) (f1 : b0 < 224) (e0 : b1 < 128) :
    Calls Tryd.prog 39 #[.string s, .int .i64 i] w fun e w' => e = .returned (.agg (spotV i 1 65533 12)) ∧ Below w.heap.size w w' := by
  have hi0 : (0 : Int) ≤ (i : Int) := by omega
  have hi1 : (i : Int) < (s.size : Int) := by omega
  have hbb : b0 < 256 := by rw [← hb0]; exact s[i].toNat_lt
  have hl : longOf b0 = 2 := longOf_2 (by omega) (by omega)
  have hi1a : (0 : Int) ≤ (i : Int) + 1 := by omega
  have hi1b : (i : Int) + 1 < (s.size : Int) := by omega
  have hbb1 : b1 < 256 := by rw [← hb1]; exact s[i + 1].toNat_lt
  have hm := and_mask b0 5 hbb 31 (by decide)
  rw [show (2 : Nat) ^ 5 = 32 from rfl] at hm
  obtain ⟨m, hmm⟩ : ∃ m, m = b0 % 32 := ⟨_, rfl⟩
  have hm8 : m < 32 := by omega
  rw [← hmm] at hm
  have HMM := Lib.hid hmm
  clear hmm
  go_enter Tryd.func39, Tryd.ntmps39
  go_wp2_with (go_at_call 63; refine (long_any b0 _ hbb).mono ?_; rw [hl]; rintro e w' ⟨rfl, rfl⟩)
  go_quiet (fail)
  go_wp2
  refine wp_loop_rounds 2 ?_
  rw [rounds_succ]
  go_wp2_with fail
  exact spot_ret w _ _ i 1 65533 12 _ _ _ _ (fin_tail w _ _ _ _ _ _ _ _ _ _ _ _ _ rfl) rfl rfl rfl

set_option maxRecDepth 20000 in
set_option maxHeartbeats 2000000 in
theorem at_top21 (s : ByteArray) (i : Nat) (w : World) (h : i < s.size) (hs : s.size ≤ 70368744177664) (b0 b1 : Nat) (hb0 : s[i].toNat = b0) (l1 : i + 1 < s.size) (hb1 : s[i + 1].toNat = b1)  (f0 : 192 ≤ b0) (f1 : b0 < 224) (e0 : 191 < b1) :
    Calls Tryd.prog 39 #[.string s, .int .i64 i] w fun e w' => e = .returned (.agg (spotV i 1 65533 12)) ∧ Below w.heap.size w w' := by
  have hi0 : (0 : Int) ≤ (i : Int) := by omega
  have hi1 : (i : Int) < (s.size : Int) := by omega
  have hbb : b0 < 256 := by rw [← hb0]; exact s[i].toNat_lt
  have hl : longOf b0 = 2 := longOf_2 (by omega) (by omega)
  have hi1a : (0 : Int) ≤ (i : Int) + 1 := by omega
  have hi1b : (i : Int) + 1 < (s.size : Int) := by omega
  have hbb1 : b1 < 256 := by rw [← hb1]; exact s[i + 1].toNat_lt
  have hm := and_mask b0 5 hbb 31 (by decide)
  rw [show (2 : Nat) ^ 5 = 32 from rfl] at hm
  obtain ⟨m, hmm⟩ : ∃ m, m = b0 % 32 := ⟨_, rfl⟩
  have hm8 : m < 32 := by omega
  rw [← hmm] at hm
  have HMM := Lib.hid hmm
  clear hmm
  go_enter Tryd.func39, Tryd.ntmps39
  go_wp2_with (go_at_call 63; refine (long_any b0 _ hbb).mono ?_; rw [hl]; rintro e w' ⟨rfl, rfl⟩)
  go_quiet (fail)
  go_wp2
  refine wp_loop_rounds 2 ?_
  rw [rounds_succ]
  go_wp2_with fail
  exact spot_ret w _ _ i 1 65533 12 _ _ _ _ (fin_tail w _ _ _ _ _ _ _ _ _ _ _ _ _ rfl) rfl rfl rfl

set_option maxRecDepth 20000 in
set_option maxHeartbeats 2000000 in
theorem at_over2 (s : ByteArray) (i : Nat) (w : World) (h : i < s.size) (hs : s.size ≤ 70368744177664) (b0 b1 : Nat) (hb0 : s[i].toNat = b0) (l1 : i + 1 < s.size) (hb1 : s[i + 1].toNat = b1) (p1 : 128 ≤ b1) (q1 : b1 ≤ 191) (X1 : Nat) (hX1 : X1 + 128 = (b0 % 32) * 64 + b1) (f0 : 192 ≤ b0) (f1 : b0 < 224) (e0 : X1 < 128) :
    Calls Tryd.prog 39 #[.string s, .int .i64 i] w fun e w' => e = .returned (.agg (spotV i 1 65533 13)) ∧ Below w.heap.size w w' := by
  have hi0 : (0 : Int) ≤ (i : Int) := by omega
  have hi1 : (i : Int) < (s.size : Int) := by omega
  have hbb : b0 < 256 := by rw [← hb0]; exact s[i].toNat_lt
  have hl : longOf b0 = 2 := longOf_2 (by omega) (by omega)
  have hi1a : (0 : Int) ≤ (i : Int) + 1 := by omega
  have hi1b : (i : Int) + 1 < (s.size : Int) := by omega
  have hbb1 : b1 < 256 := by rw [← hb1]; exact s[i + 1].toNat_lt
  have hm := and_mask b0 5 hbb 31 (by decide)
  rw [show (2 : Nat) ^ 5 = 32 from rfl] at hm
  obtain ⟨m, hmm⟩ : ∃ m, m = b0 % 32 := ⟨_, rfl⟩
  have hm8 : m < 32 := by omega
  rw [← hmm] at hm hX1
  have HMM := Lib.hid hmm
  clear hmm
  have hx1 : (m : Int) * 64 + (b1 : Int) - 128 = (X1 : Int) := by omega
  have hxb1 : X1 < 2048 := by omega
  clear hX1
  go_enter Tryd.func39, Tryd.ntmps39
  go_wp2_with (go_at_call 63; refine (long_any b0 _ hbb).mono ?_; rw [hl]; rintro e w' ⟨rfl, rfl⟩)
  go_quiet (fail)
  go_wp2
  refine wp_loop_rounds 2 ?_
  rw [rounds_succ]
  go_wp2_with fail
  rw [rounds_succ]
  go_wp2_with fail
  exact spot_ret w _ _ i 1 65533 13 _ _ _ _ (fin_over w _ _ _ _ _ _ _ _ _ _ _ _ _ _ rfl) rfl rfl rfl

set_option maxRecDepth 20000 in
set_option maxHeartbeats 2000000 in
theorem at_good2 (s : ByteArray) (i : Nat) (w : World) (h : i < s.size) (hs : s.size ≤ 70368744177664) (b0 b1 : Nat) (hb0 : s[i].toNat = b0) (l1 : i + 1 < s.size) (hb1 : s[i + 1].toNat = b1) (p1 : 128 ≤ b1) (q1 : b1 ≤ 191) (X1 : Nat) (hX1 : X1 + 128 = (b0 % 32) * 64 + b1) (f0 : 192 ≤ b0) (f1 : b0 < 224) (e0 : 128 ≤ X1) :
    Calls Tryd.prog 39 #[.string s, .int .i64 i] w fun e w' => e = .returned (.agg (spotV i 2 X1 0)) ∧ Below w.heap.size w w' := by
  have hi0 : (0 : Int) ≤ (i : Int) := by omega
  have hi1 : (i : Int) < (s.size : Int) := by omega
  have hbb : b0 < 256 := by rw [← hb0]; exact s[i].toNat_lt
  have hl : longOf b0 = 2 := longOf_2 (by omega) (by omega)
  have hi1a : (0 : Int) ≤ (i : Int) + 1 := by omega
  have hi1b : (i : Int) + 1 < (s.size : Int) := by omega
  have hbb1 : b1 < 256 := by rw [← hb1]; exact s[i + 1].toNat_lt
  have hm := and_mask b0 5 hbb 31 (by decide)
  rw [show (2 : Nat) ^ 5 = 32 from rfl] at hm
  obtain ⟨m, hmm⟩ : ∃ m, m = b0 % 32 := ⟨_, rfl⟩
  have hm8 : m < 32 := by omega
  rw [← hmm] at hm hX1
  have HMM := Lib.hid hmm
  clear hmm
  have hx1 : (m : Int) * 64 + (b1 : Int) - 128 = (X1 : Int) := by omega
  have hxb1 : X1 < 2048 := by omega
  clear hX1
  go_enter Tryd.func39, Tryd.ntmps39
  go_wp2_with (go_at_call 63; refine (long_any b0 _ hbb).mono ?_; rw [hl]; rintro e w' ⟨rfl, rfl⟩)
  go_quiet (fail)
  go_wp2
  refine wp_loop_rounds 2 ?_
  rw [rounds_succ]
  go_wp2_with fail
  rw [rounds_succ]
  go_wp2_with fail
  exact spot_ret w _ _ i 2 X1 0 _ _ _ _ (fin_good w _ _ _ _ _ _ _ _ _ _ _ _ _ rfl) rfl rfl rfl

end Go.Proofs.YthkehgmeaedflaaDoor
