/-
  The walk of the law WideKnown.
-/
import Derived.Test.YtmdcbpdmkonmlaaCheck
import Derived.Test.YtmdcbpdmkonmlaaSent
import Derived.Test.YtmdcbpdmkonmlaaGo
namespace Go.Proofs.Ytmdcbpdmkonmlaa
open Go.RowKit

theorem k_s1 (w : World) : Calls Try.prog 14 #[.int .i32 128512] w fun e w' => e = .returned (.tuple #[.int .u16 55357, .int .u16 56832, .bool true]) ∧ w = w' := by
  have h := split_yes 128512 w (by decide)
  rwa [show hiOf 128512 = 55357 from by decide +kernel, show loOf 128512 = 56832 from by decide +kernel] at h
theorem k_s2 (w : World) : Calls Try.prog 14 #[.int .i32 233] w fun e w' => e = .returned (.tuple #[.int .u16 0, .int .u16 0, .bool false]) ∧ w = w' := split_no 233 w (by decide)
theorem k_j (w : World) : Calls Try.prog 16 #[.int .u16 56832, .int .u16 55357] w fun e w' => e = .returned (.tuple #[.int .i32 0, .bool false]) ∧ w = w' := by
  have h := join_any 56832 55357 w
  rwa [show joinOf 56832 55357 = (0, false) from by decide +kernel] at h
theorem k_c (w : World) (us : List Int) (n : Nat) (p q : Int) (hn : us.length = n) (hs : us.length ≤ 100) (hwf : ∀ u ∈ us, 0 ≤ u ∧ u ≤ 65535) (hv : checkOf us = (p, q)) (l : Array Value) (hl : (us.map (Value.int .u16)).toArray = l) :
    Calls Try.prog 31 #[.slice (some ⟨w.heap.size, 0, none⟩) n n] (w.alloc (.cells l 22)) fun e w' => e = .returned (.tuple #[.int .i64 p, .int .i64 q]) ∧ Below w.heap.size w w' := by
  subst hn hl
  refine (check_any _ (some ⟨w.heap.size, 0, none⟩) us.length us (by omega) (Cells.new w _ 22) hwf).mono ?_
  rw [hv]
  rintro e w' ⟨rfl, hb⟩
  exact ⟨rfl, after ((Below.refl _ _).alloc (Nat.le_refl _) _) hb⟩
theorem k_u (w : World) : Calls Try.prog 28 #[.string ⟨#[240, 159, 152, 128, 97]⟩, .int .i64 2] w fun e w' => e = .returned (.tuple #[.int .i64 0, .int .i64 23]) ∧ Below w.heap.size w w' := by
  have h := unitAt_any w ⟨#[240, 159, 152, 128, 97]⟩ (by decide) 2
  rwa [show unitAtOf ⟨#[240, 159, 152, 128, 97]⟩ 2 = (0, 23) from by decide +kernel] at h
theorem k_b (w : World) : Calls Try.prog 35 #[.string ⟨#[240, 159, 152, 128, 97]⟩, .int .i64 1] w fun e w' => e = .returned (.tuple #[.int .i64 0, .int .i64 23]) ∧ Below w.heap.size w w' := by
  have h := byteAt_any w ⟨#[240, 159, 152, 128, 97]⟩ (by decide) 1 (by decide)
  rwa [show byteAtOf ⟨#[240, 159, 152, 128, 97]⟩ 1 = (0, 23) from by decide +kernel] at h
theorem k_r (w : World) : Calls Try.prog 42 #[.int .u8 0, .string ⟨#[120]⟩] w fun e w' => ∃ a n c, e = .returned (.tuple #[.slice a n c, .int .u8 0, .int .i64 22]) ∧ Below w.heap.size w w' := by
  have h := read_any w 0 ⟨#[120]⟩ (by decide)
  refine h.mono ?_
  rw [show readOf 0 ⟨#[120]⟩ = ([], 0, 22) from by decide +kernel]
  rintro e w' ⟨a, n, c, rfl, _, hb⟩
  exact ⟨a, n, c, rfl, hb⟩
theorem k_fr (w : World) : Calls Try.prog 21 #[.slice (some ⟨w.heap.size, 0, none⟩) 4 4] (w.alloc (.cells #[.int .i32 97, .int .i32 128512, .int .i32 55296, .int .i32 (-1)] 21)) fun e w' => ∃ a c, e = .returned (.slice a 5 c) ∧ Cells w' a (([97, 55357, 56832, 65533, 65533] : List Int).map (Value.int .u16)) ∧ Below w.heap.size w w' := by
  have h := from_any (w.alloc (.cells #[.int .i32 97, .int .i32 128512, .int .i32 55296, .int .i32 (-1)] 21)) (some ⟨w.heap.size, 0, none⟩) 4 [97, 128512, 55296, -1] (by decide) (Cells.new w [.int .i32 97, .int .i32 128512, .int .i32 55296, .int .i32 (-1)] 21)
  refine h.mono ?_
  rw [show unitsAll [97, 128512, 55296, -1] = [97, 55357, 56832, 65533, 65533] from by decide +kernel]
  rintro e w' ⟨a, n, c, rfl, hown, hb⟩
  obtain rfl : n = 5 := by have := hown.len; simpa using this.symm
  exact ⟨a, c, rfl, hown.toCells, after ((Below.refl _ _).alloc (Nat.le_refl _) _) hb⟩
theorem k_ft (w : World) : Calls Try.prog 25 #[.string ⟨#[97, 255, 195, 169, 226, 130]⟩] w fun e w' => ∃ a c, e = .returned (.slice a 5 c) ∧ Cells w' a (([97, 65533, 233, 65533, 65533] : List Int).map (Value.int .u16)) ∧ Below w.heap.size w w' := by
  have h := fromText_any w ⟨#[97, 255, 195, 169, 226, 130]⟩ (by decide)
  refine h.mono ?_
  rw [show unitsAll (textRunes ⟨#[97, 255, 195, 169, 226, 130]⟩) = [97, 65533, 233, 65533, 65533] from by decide +kernel]
  rintro e w' ⟨a, c, rfl, hown, hb⟩
  exact ⟨a, c, rfl, hown.toCells, hb⟩
theorem k_same (w : World) (a : Option Addr) (c : Nat) (us : List Int) (hs : us.length = 5) (l : Array Value) (hl : (us.map (Value.int .u16)).toArray = l) (hx : Cells w a (us.map (Value.int .u16))) :
    Calls Try.prog 29 #[.slice a 5 c, .slice (some ⟨w.heap.size, 0, none⟩) 5 5] (w.alloc (.cells l 22)) fun e w' => e = .returned (.bool true) ∧ Below w.heap.size w w' := by
  have hb0 : Below w.heap.size w (w.alloc (.cells l 22)) := (Below.refl _ _).alloc (Nat.le_refl _) _
  subst hl
  have h := same_any _ a c us (some ⟨w.heap.size, 0, none⟩) 5 us (by omega) (hx.below hb0) (Cells.new w _ 22)
  rw [decide_eq_true rfl, hs] at h
  refine h.mono ?_
  rintro e w' ⟨rfl, hb⟩
  exact ⟨rfl, after hb0 hb⟩
theorem k_t (w : World) : Calls Try.prog 32 #[.slice (some ⟨w.heap.size, 0, none⟩) 5 5] (w.alloc (.cells #[.int .u16 55357, .int .u16 97, .int .u16 56832, .int .u16 55357, .int .u16 56832] 22)) fun e w' => e = .returned (.string ⟨#[239, 191, 189, 97, 239, 191, 189, 240, 159, 152, 128]⟩) ∧ Below w.heap.size w w' := by
  have h := text_any (w.alloc (.cells #[.int .u16 55357, .int .u16 97, .int .u16 56832, .int .u16 55357, .int .u16 56832] 22)) (some ⟨w.heap.size, 0, none⟩) 5 [55357, 97, 56832, 55357, 56832] (by decide) (Cells.new w [.int .u16 55357, .int .u16 97, .int .u16 56832, .int .u16 55357, .int .u16 56832] 22) (by decide)
  refine h.mono ?_
  rw [show textOf [55357, 97, 56832, 55357, 56832] = ⟨#[239, 191, 189, 97, 239, 191, 189, 240, 159, 152, 128]⟩ from by decide +kernel]
  rintro e w' ⟨rfl, hb⟩
  exact ⟨rfl, after ((Below.refl _ _).alloc (Nat.le_refl _) _) hb⟩

set_option maxRecDepth 20000 in
set_option maxHeartbeats 4000000 in
theorem known_walk (w : World) : Calls Try.prog 13 #[] w fun e w' => e = .returned (.bool true) ∧ Below w.heap.size w w' := by
  go_enter Try.func13, Try.ntmps13
  go_wp2_with fail
  refine (k_s1 w).mono ?_
  rintro e w1 ⟨rfl, rfl⟩
  go_wp2_with fail
  refine (k_s2 w).mono ?_
  rintro e w1 ⟨rfl, rfl⟩
  go_wp2_with fail
  refine (k_j w).mono ?_
  rintro e w1 ⟨rfl, rfl⟩
  go_wp2_with fail
  refine (k_c w [97, 55357, 97] 3 1 20 rfl (by decide) (by decide) (by decide +kernel) _ rfl).mono ?_
  rintro e w1 ⟨rfl, hb1⟩
  have B1 := Lib.hid hb1
  clear hb1
  go_wp2_with fail
  refine (k_c w1 [97, 56832] 2 1 21 rfl (by decide) (by decide) (by decide +kernel) _ rfl).mono ?_
  rintro e w2 ⟨rfl, hb2⟩
  have B2 := Lib.hid (after B1.out hb2)
  clear hb2 B1
  go_wp2_with fail
  refine (k_c w2 [55357, 56832] 2 0 0 rfl (by decide) (by decide) (by decide +kernel) _ rfl).mono ?_
  rintro e w3 ⟨rfl, hb3⟩
  have B3 := Lib.hid (after B2.out hb3)
  clear hb3 B2
  go_wp2_with fail
  refine (k_u w3).mono ?_
  rintro e w4 ⟨rfl, hb4⟩
  have B4 := Lib.hid (after B3.out hb4)
  clear hb4 B3
  go_wp2_with fail
  refine (k_b w4).mono ?_
  rintro e w5 ⟨rfl, hb5⟩
  have B5 := Lib.hid (after B4.out hb5)
  clear hb5 B4
  go_wp2_with fail
  refine (k_r w5).mono ?_
  rintro e w6 ⟨a6, n6, c6, rfl, hb6⟩
  have B6 := Lib.hid (after B5.out hb6)
  clear hb6 B5
  go_wp2_with fail
  refine (k_fr w6).mono ?_
  rintro e w7 ⟨a7, c7, rfl, hc7, hb7⟩
  have B7 := Lib.hid (after B6.out hb7)
  have C7 := Lib.hid hc7
  clear hb7 B6 hc7
  go_wp2_with fail
  refine (k_same w7 a7 c7 [97, 55357, 56832, 65533, 65533] rfl _ rfl C7.out).mono ?_
  rintro e w8 ⟨rfl, hb8⟩
  have B8 := Lib.hid (after B7.out hb8)
  clear hb8 B7 C7
  go_wp2_with fail
  refine (k_ft w8).mono ?_
  rintro e w9 ⟨a9, c9, rfl, hc9, hb9⟩
  have B9 := Lib.hid (after B8.out hb9)
  have C9 := Lib.hid hc9
  clear hb9 B8 hc9
  go_wp2_with fail
  refine (k_same w9 a9 c9 [97, 65533, 233, 65533, 65533] rfl _ rfl C9.out).mono ?_
  rintro e w10 ⟨rfl, hb10⟩
  have B10 := Lib.hid (after B9.out hb10)
  clear hb10 B9 C9
  go_wp2_with fail
  refine (k_t w10).mono ?_
  rintro e w11 ⟨rfl, hb11⟩
  have B11 := Lib.hid (after B10.out hb11)
  clear hb11 B10
  go_wp2_with fail
  refine (awake_any w11).mono ?_
  rintro e w12 ⟨rfl, hb12⟩
  go_wp2_with fail
  go_ret
  exact ⟨rfl, after B11.out hb12⟩

end Go.Proofs.Ytmdcbpdmkonmlaa
