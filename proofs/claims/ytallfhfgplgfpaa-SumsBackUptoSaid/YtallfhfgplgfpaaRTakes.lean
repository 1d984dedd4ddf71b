/-
  The reference's Take, at the three widths: walked. Printed by a program of ours (genrtake.py).
-/
import Derived.Test.YtallfhfgplgfpaaTakes
namespace Go.Proofs.Ytallfhfgplgfpaa
open Go.RowKit

set_option maxRecDepth 20000 in
set_option maxHeartbeats 2000000 in
theorem rtake_1 (s : ByteArray) (p n : Int) (w : World) (hs : s.size ≤ 2097152) (hpw : (Lit.int .i64 p).wf = true) (hnw : (Lit.int .i64 n).wf = true) :
    Calls Try.prog 54 #[.string s, .int .i64 p, .int .i64 n, .int .i64 1] w fun e w' => ∃ a m c, e = .returned (.tuple #[.slice a m c, .int .i64 (takeOf s p n 1).2]) ∧ Own w' w.heap.size 1 a m c ((takeOf s p n 1).1.map (numV .u32)) ∧ Below w.heap.size w w' := by
  have hp2 : (-9223372036854775808 : Int) ≤ p ∧ p ≤ 9223372036854775807 := by simpa [Lit.wf, IntKind.min, IntKind.max, IntKind.signed, IntKind.bits] using hpw
  have hn2 : (-9223372036854775808 : Int) ≤ n ∧ n ≤ 9223372036854775807 := by simpa [Lit.wf, IntKind.min, IntKind.max, IntKind.signed, IntKind.bits] using hnw
  clear hpw hnw
  by_cases hp : p < 0
  · go_enter Try.func54, Try.ntmps54
    go_wp2
    go_ret2
    exact ⟨none, 0, 0, by rw [takeOf_bad _ _ _ _ (.inl hp)]; rfl, by rw [takeOf_bad _ _ _ _ (.inl hp)]; exact Own.nil _ _ _, Below.refl _ _⟩
  by_cases hn : n < 0
  · go_enter Try.func54, Try.ntmps54
    go_wp2
    go_ret2
    exact ⟨none, 0, 0, by rw [takeOf_bad _ _ _ _ (.inr (.inl hn))]; rfl, by rw [takeOf_bad _ _ _ _ (.inr (.inl hn))]; exact Own.nil _ _ _, Below.refl _ _⟩
  obtain ⟨q, rfl⟩ := Int.eq_ofNat_of_zero_le (Int.not_lt.1 hp)
  obtain ⟨m, rfl⟩ := Int.eq_ofNat_of_zero_le (Int.not_lt.1 hn)
  clear hp hn
  by_cases hq : s.size < q
  · go_enter Try.func54, Try.ntmps54
    go_wp2
    go_ret2
    exact ⟨none, 0, 0, by rw [takeOf_bad _ _ _ _ (.inr (.inr (by omega)))]; rfl, by rw [takeOf_bad _ _ _ _ (.inr (.inr (by omega)))]; exact Own.nil _ _ _, Below.refl _ _⟩
  have hq' : q ≤ s.size := by omega
  clear hq hp2
  by_cases hm : (s.size - q) / 1 < m
  · have h1 : ((s.size : Int) - (q : Int)) / 1 < (m : Int) := by omega
    have HM := Lib.hid hm
    clear hm
    go_enter Try.func54, Try.ntmps54
    go_wp2
    go_ret2
    exact ⟨none, 0, 0, by rw [takeOf_short _ _ _ _ hq' HM.out]; rfl, by rw [takeOf_short _ _ _ _ hq' HM.out]; exact Own.nil _ _ _, Below.refl _ _⟩
  have h1 : (m : Int) ≤ ((s.size : Int) - (q : Int)) / 1 := by omega
  rw [takeOf_ok _ _ _ _ hq' hm]
  have HM := Lib.hid hm
  have hms := few _ _ _ _ hm
  clear hm hn2
  have hd1 : decide ((q : Int) < 0) = false := by simp
  have hd2 : decide ((m : Int) < 0) = false := by simp
  have hd3 : decide ((s.size : Int) - (q : Int) < (m : Int)) = false := by simp; omega
  have hd4 : decide (s.size < q) = false := by simp; omega
  obtain ⟨i0, hi, hz0, hz1, hz2⟩ := info_parts info23n
  go_enter Try.func54, Try.ntmps54
  go_wp2
  clear h1
  go_loopw [10, 11] (fun v i wr => ∃ k a n c, k ≤ m ∧ i = .int .i64 (k : Nat) ∧ v = .slice a n c ∧ Own wr w.heap.size 1 a n c ((takesAt s q 1 k).map (numV .u32)) ∧ Below w.heap.size w wr) (fun _ i _ => m - (intOf i).toNat)
  case atStart => exact ⟨0, none, 0, 0, Nat.zero_le _, rfl, rfl, Own.nil _ _ _, Below.refl _ _⟩
  case round =>
    obtain ⟨k, a2, n2, c2, hk, rfl, rfl, hown, hbb⟩ := hrel
    have hl2 : n2 = k := by have := hown.len; simpa [takesAt_length] using this.symm
    subst hl2
    by_cases hlt : n2 < m
    · have hfit := fits s.size q m 1 n2 (by omega) hq' HM.out hlt
      obtain ⟨pk, hpk⟩ : ∃ pk, pk = q + n2 * 1 := ⟨_, rfl⟩
      have hpk2 : (q : Int) + (n2 : Int) = (pk : Int) := by omega
      rw [← hpk] at hfit
      have HPK := Lib.hid hpk
      clear hpk
      have hsz : (s.extract pk (pk + 1)).size ≤ 4 := by simp only [ByteArray.size_extract]; omega
      obtain ⟨x, hx⟩ : ∃ x, numTop (s.extract pk (pk + 1)).data.toList = x := ⟨_, rfl⟩
      have HX := Lib.hid hx
      clear hx
      go_wp2_with (first
        | (go_at_call 68; refine (number_any (s.extract pk (pk + 1)) _ hsz).mono ?_; rintro e w' ⟨rfl, rfl⟩; rw [HX.out])
        | (at_builtin; refine wpList_app rfl _ _ 29 29 rfl 23 i0 (.int .u32 0) 1 4 Try.underlying29 hi hz0 hz1 hz2 rfl (by simp [Value.cells, Value.oneCell']) w.heap.size _ _ _ _ rfl (hown.alloc _) _ 1 [.int .u32 (x : Int)] rfl (Src.ofCells Try.underlying29 _ _ _ _ rfl (Cells.new _ _ _) (by simp [Value.oneCell']) (by decide)) (by simp [maxLen]; omega) (by omega) (by have := hbb.size; simp; omega) ?_; intro a4 c4 w4 hown4 hap4; have hb4 := Lib.hid ((hbb.alloc hbb.size _).trans (hap4.below (hown.alloc _) (by have := hbb.size; simp; omega))); have HO4 := Lib.hid hown4; clear hown4 hap4 hown hbb))
      go_roundw
      case rel => exact ⟨n2 + 1, a4, _, c4, by omega, by go_num, rfl, by have := HO4.out; rw [takesAt_succ, List.map_append, ← HPK.out, ← extract_seg, HX.out]; exact this, hb4.out⟩
      case measure => simp [intOf]; omega
    · obtain rfl : n2 = m := by omega
      have HO := Lib.hid hown
      have HB := Lib.hid hbb
      clear hown hbb
      go_wp2
      go_ret2
      exact ⟨a2, n2, c2, rfl, HO.out, HB.out⟩

set_option maxRecDepth 20000 in
set_option maxHeartbeats 2000000 in
theorem rtake_2 (s : ByteArray) (p n : Int) (w : World) (hs : s.size ≤ 2097152) (hpw : (Lit.int .i64 p).wf = true) (hnw : (Lit.int .i64 n).wf = true) :
    Calls Try.prog 54 #[.string s, .int .i64 p, .int .i64 n, .int .i64 2] w fun e w' => ∃ a m c, e = .returned (.tuple #[.slice a m c, .int .i64 (takeOf s p n 2).2]) ∧ Own w' w.heap.size 1 a m c ((takeOf s p n 2).1.map (numV .u32)) ∧ Below w.heap.size w w' := by
  have hp2 : (-9223372036854775808 : Int) ≤ p ∧ p ≤ 9223372036854775807 := by simpa [Lit.wf, IntKind.min, IntKind.max, IntKind.signed, IntKind.bits] using hpw
  have hn2 : (-9223372036854775808 : Int) ≤ n ∧ n ≤ 9223372036854775807 := by simpa [Lit.wf, IntKind.min, IntKind.max, IntKind.signed, IntKind.bits] using hnw
  clear hpw hnw
  by_cases hp : p < 0
  · go_enter Try.func54, Try.ntmps54
    go_wp2
    go_ret2
    exact ⟨none, 0, 0, by rw [takeOf_bad _ _ _ _ (.inl hp)]; rfl, by rw [takeOf_bad _ _ _ _ (.inl hp)]; exact Own.nil _ _ _, Below.refl _ _⟩
  by_cases hn : n < 0
  · go_enter Try.func54, Try.ntmps54
    go_wp2
    go_ret2
    exact ⟨none, 0, 0, by rw [takeOf_bad _ _ _ _ (.inr (.inl hn))]; rfl, by rw [takeOf_bad _ _ _ _ (.inr (.inl hn))]; exact Own.nil _ _ _, Below.refl _ _⟩
  obtain ⟨q, rfl⟩ := Int.eq_ofNat_of_zero_le (Int.not_lt.1 hp)
  obtain ⟨m, rfl⟩ := Int.eq_ofNat_of_zero_le (Int.not_lt.1 hn)
  clear hp hn
  by_cases hq : s.size < q
  · go_enter Try.func54, Try.ntmps54
    go_wp2
    go_ret2
    exact ⟨none, 0, 0, by rw [takeOf_bad _ _ _ _ (.inr (.inr (by omega)))]; rfl, by rw [takeOf_bad _ _ _ _ (.inr (.inr (by omega)))]; exact Own.nil _ _ _, Below.refl _ _⟩
  have hq' : q ≤ s.size := by omega
  clear hq hp2
  by_cases hm : (s.size - q) / 2 < m
  · have h1 : ((s.size : Int) - (q : Int)) / 2 < (m : Int) := by omega
    have HM := Lib.hid hm
    clear hm
    go_enter Try.func54, Try.ntmps54
    go_wp2
    go_ret2
    exact ⟨none, 0, 0, by rw [takeOf_short _ _ _ _ hq' HM.out]; rfl, by rw [takeOf_short _ _ _ _ hq' HM.out]; exact Own.nil _ _ _, Below.refl _ _⟩
  have h1 : (m : Int) ≤ ((s.size : Int) - (q : Int)) / 2 := by omega
  rw [takeOf_ok _ _ _ _ hq' hm]
  have HM := Lib.hid hm
  have hms := few _ _ _ _ hm
  clear hm hn2
  have hd1 : decide ((q : Int) < 0) = false := by simp
  have hd2 : decide ((m : Int) < 0) = false := by simp
  have hd3 : decide (((s.size : Int) - (q : Int)) / 2 < (m : Int)) = false := by simp; omega
  have hd4 : decide (s.size < q) = false := by simp; omega
  obtain ⟨i0, hi, hz0, hz1, hz2⟩ := info_parts info23n
  go_enter Try.func54, Try.ntmps54
  go_wp2
  clear h1
  go_loopw [10, 11] (fun v i wr => ∃ k a n c, k ≤ m ∧ i = .int .i64 (k : Nat) ∧ v = .slice a n c ∧ Own wr w.heap.size 1 a n c ((takesAt s q 2 k).map (numV .u32)) ∧ Below w.heap.size w wr) (fun _ i _ => m - (intOf i).toNat)
  case atStart => exact ⟨0, none, 0, 0, Nat.zero_le _, rfl, rfl, Own.nil _ _ _, Below.refl _ _⟩
  case round =>
    obtain ⟨k, a2, n2, c2, hk, rfl, rfl, hown, hbb⟩ := hrel
    have hl2 : n2 = k := by have := hown.len; simpa [takesAt_length] using this.symm
    subst hl2
    by_cases hlt : n2 < m
    · have hfit := fits s.size q m 2 n2 (by omega) hq' HM.out hlt
      obtain ⟨pk, hpk⟩ : ∃ pk, pk = q + n2 * 2 := ⟨_, rfl⟩
      have hpk2 : (q : Int) + (n2 : Int) * 2 = (pk : Int) := by omega
      rw [← hpk] at hfit
      have HPK := Lib.hid hpk
      clear hpk
      have hsz : (s.extract pk (pk + 2)).size ≤ 4 := by simp only [ByteArray.size_extract]; omega
      obtain ⟨x, hx⟩ : ∃ x, numTop (s.extract pk (pk + 2)).data.toList = x := ⟨_, rfl⟩
      have HX := Lib.hid hx
      clear hx
      go_wp2_with (first
        | (go_at_call 68; refine (number_any (s.extract pk (pk + 2)) _ hsz).mono ?_; rintro e w' ⟨rfl, rfl⟩; rw [HX.out])
        | (at_builtin; refine wpList_app rfl _ _ 29 29 rfl 23 i0 (.int .u32 0) 1 4 Try.underlying29 hi hz0 hz1 hz2 rfl (by simp [Value.cells, Value.oneCell']) w.heap.size _ _ _ _ rfl (hown.alloc _) _ 1 [.int .u32 (x : Int)] rfl (Src.ofCells Try.underlying29 _ _ _ _ rfl (Cells.new _ _ _) (by simp [Value.oneCell']) (by decide)) (by simp [maxLen]; omega) (by omega) (by have := hbb.size; simp; omega) ?_; intro a4 c4 w4 hown4 hap4; have hb4 := Lib.hid ((hbb.alloc hbb.size _).trans (hap4.below (hown.alloc _) (by have := hbb.size; simp; omega))); have HO4 := Lib.hid hown4; clear hown4 hap4 hown hbb))
      go_roundw
      case rel => exact ⟨n2 + 1, a4, _, c4, by omega, by go_num, rfl, by have := HO4.out; rw [takesAt_succ, List.map_append, ← HPK.out, ← extract_seg, HX.out]; exact this, hb4.out⟩
      case measure => simp [intOf]; omega
    · obtain rfl : n2 = m := by omega
      have HO := Lib.hid hown
      have HB := Lib.hid hbb
      clear hown hbb
      go_wp2
      go_ret2
      exact ⟨a2, n2, c2, rfl, HO.out, HB.out⟩

set_option maxRecDepth 20000 in
set_option maxHeartbeats 2000000 in
theorem rtake_4 (s : ByteArray) (p n : Int) (w : World) (hs : s.size ≤ 2097152) (hpw : (Lit.int .i64 p).wf = true) (hnw : (Lit.int .i64 n).wf = true) :
    Calls Try.prog 54 #[.string s, .int .i64 p, .int .i64 n, .int .i64 4] w fun e w' => ∃ a m c, e = .returned (.tuple #[.slice a m c, .int .i64 (takeOf s p n 4).2]) ∧ Own w' w.heap.size 1 a m c ((takeOf s p n 4).1.map (numV .u32)) ∧ Below w.heap.size w w' := by
  have hp2 : (-9223372036854775808 : Int) ≤ p ∧ p ≤ 9223372036854775807 := by simpa [Lit.wf, IntKind.min, IntKind.max, IntKind.signed, IntKind.bits] using hpw
  have hn2 : (-9223372036854775808 : Int) ≤ n ∧ n ≤ 9223372036854775807 := by simpa [Lit.wf, IntKind.min, IntKind.max, IntKind.signed, IntKind.bits] using hnw
  clear hpw hnw
  by_cases hp : p < 0
  · go_enter Try.func54, Try.ntmps54
    go_wp2
    go_ret2
    exact ⟨none, 0, 0, by rw [takeOf_bad _ _ _ _ (.inl hp)]; rfl, by rw [takeOf_bad _ _ _ _ (.inl hp)]; exact Own.nil _ _ _, Below.refl _ _⟩
  by_cases hn : n < 0
  · go_enter Try.func54, Try.ntmps54
    go_wp2
    go_ret2
    exact ⟨none, 0, 0, by rw [takeOf_bad _ _ _ _ (.inr (.inl hn))]; rfl, by rw [takeOf_bad _ _ _ _ (.inr (.inl hn))]; exact Own.nil _ _ _, Below.refl _ _⟩
  obtain ⟨q, rfl⟩ := Int.eq_ofNat_of_zero_le (Int.not_lt.1 hp)
  obtain ⟨m, rfl⟩ := Int.eq_ofNat_of_zero_le (Int.not_lt.1 hn)
  clear hp hn
  by_cases hq : s.size < q
  · go_enter Try.func54, Try.ntmps54
    go_wp2
    go_ret2
    exact ⟨none, 0, 0, by rw [takeOf_bad _ _ _ _ (.inr (.inr (by omega)))]; rfl, by rw [takeOf_bad _ _ _ _ (.inr (.inr (by omega)))]; exact Own.nil _ _ _, Below.refl _ _⟩
  have hq' : q ≤ s.size := by omega
  clear hq hp2
  by_cases hm : (s.size - q) / 4 < m
  · have h1 : ((s.size : Int) - (q : Int)) / 4 < (m : Int) := by omega
    have HM := Lib.hid hm
    clear hm
    go_enter Try.func54, Try.ntmps54
    go_wp2
    go_ret2
    exact ⟨none, 0, 0, by rw [takeOf_short _ _ _ _ hq' HM.out]; rfl, by rw [takeOf_short _ _ _ _ hq' HM.out]; exact Own.nil _ _ _, Below.refl _ _⟩
  have h1 : (m : Int) ≤ ((s.size : Int) - (q : Int)) / 4 := by omega
  rw [takeOf_ok _ _ _ _ hq' hm]
  have HM := Lib.hid hm
  have hms := few _ _ _ _ hm
  clear hm hn2
  have hd1 : decide ((q : Int) < 0) = false := by simp
  have hd2 : decide ((m : Int) < 0) = false := by simp
  have hd3 : decide (((s.size : Int) - (q : Int)) / 4 < (m : Int)) = false := by simp; omega
  have hd4 : decide (s.size < q) = false := by simp; omega
  obtain ⟨i0, hi, hz0, hz1, hz2⟩ := info_parts info23n
  go_enter Try.func54, Try.ntmps54
  go_wp2
  clear h1
  go_loopw [10, 11] (fun v i wr => ∃ k a n c, k ≤ m ∧ i = .int .i64 (k : Nat) ∧ v = .slice a n c ∧ Own wr w.heap.size 1 a n c ((takesAt s q 4 k).map (numV .u32)) ∧ Below w.heap.size w wr) (fun _ i _ => m - (intOf i).toNat)
  case atStart => exact ⟨0, none, 0, 0, Nat.zero_le _, rfl, rfl, Own.nil _ _ _, Below.refl _ _⟩
  case round =>
    obtain ⟨k, a2, n2, c2, hk, rfl, rfl, hown, hbb⟩ := hrel
    have hl2 : n2 = k := by have := hown.len; simpa [takesAt_length] using this.symm
    subst hl2
    by_cases hlt : n2 < m
    · have hfit := fits s.size q m 4 n2 (by omega) hq' HM.out hlt
      obtain ⟨pk, hpk⟩ : ∃ pk, pk = q + n2 * 4 := ⟨_, rfl⟩
      have hpk2 : (q : Int) + (n2 : Int) * 4 = (pk : Int) := by omega
      rw [← hpk] at hfit
      have HPK := Lib.hid hpk
      clear hpk
      have hsz : (s.extract pk (pk + 4)).size ≤ 4 := by simp only [ByteArray.size_extract]; omega
      obtain ⟨x, hx⟩ : ∃ x, numTop (s.extract pk (pk + 4)).data.toList = x := ⟨_, rfl⟩
      have HX := Lib.hid hx
      clear hx
      go_wp2_with (first
        | (go_at_call 68; refine (number_any (s.extract pk (pk + 4)) _ hsz).mono ?_; rintro e w' ⟨rfl, rfl⟩; rw [HX.out])
        | (at_builtin; refine wpList_app rfl _ _ 29 29 rfl 23 i0 (.int .u32 0) 1 4 Try.underlying29 hi hz0 hz1 hz2 rfl (by simp [Value.cells, Value.oneCell']) w.heap.size _ _ _ _ rfl (hown.alloc _) _ 1 [.int .u32 (x : Int)] rfl (Src.ofCells Try.underlying29 _ _ _ _ rfl (Cells.new _ _ _) (by simp [Value.oneCell']) (by decide)) (by simp [maxLen]; omega) (by omega) (by have := hbb.size; simp; omega) ?_; intro a4 c4 w4 hown4 hap4; have hb4 := Lib.hid ((hbb.alloc hbb.size _).trans (hap4.below (hown.alloc _) (by have := hbb.size; simp; omega))); have HO4 := Lib.hid hown4; clear hown4 hap4 hown hbb))
      go_roundw
      case rel => exact ⟨n2 + 1, a4, _, c4, by omega, by go_num, rfl, by have := HO4.out; rw [takesAt_succ, List.map_append, ← HPK.out, ← extract_seg, HX.out]; exact this, hb4.out⟩
      case measure => simp [intOf]; omega
    · obtain rfl : n2 = m := by omega
      have HO := Lib.hid hown
      have HB := Lib.hid hbb
      clear hown hbb
      go_wp2
      go_ret2
      exact ⟨a2, n2, c2, rfl, HO.out, HB.out⟩

end Go.Proofs.Ytallfhfgplgfpaa
