/-
  Take: numbers out of bytes, at each of the six number types, and the reference's: walked. Printed by a program of ours (gentake.py).
-/
import Derived.Test.YtallfhfgplgfpaaTakeMath
namespace Go.Proofs.Ytallfhfgplgfpaa
open Go.RowKit

theorem wrap16 (y : Nat) (h : y < 256) : IntKind.u16.wrap (y : Int) = y := by
  simp [IntKind.wrap, IntKind.signed, IntKind.bits]
  omega

theorem takeOf_bad (s : ByteArray) (p n : Int) (w : Nat) (h : p < 0 ∨ n < 0 ∨ (s.size : Int) < p) : takeOf s p n w = ([], 2) := by unfold takeOf; rw [if_pos h]
theorem takeOf_short (s : ByteArray) (q m w : Nat) (h0 : q ≤ s.size) (h : (s.size - q) / w < m) : takeOf s q m w = ([], 120) := by
  unfold takeOf
  rw [if_neg (by omega), if_pos]
  rw [show (s.size : Int) - q = ((s.size - q : Nat) : Int) from by omega]
  exact_mod_cast h
theorem takeOf_ok (s : ByteArray) (q m w : Nat) (h0 : q ≤ s.size) (h : ¬ (s.size - q) / w < m) : takeOf s q m w = (takesAt s q w m, 0) := by
  unfold takeOf
  rw [if_neg (by omega), if_neg]
  · rfl
  · rw [show (s.size : Int) - q = ((s.size - q : Nat) : Int) from by omega]
    exact_mod_cast h
theorem fits (n q m w k : Nat) (hw : 0 < w) (h0 : q ≤ n) (h : ¬ (n - q) / w < m) (hk : k < m) : q + k * w + w ≤ n := by
  have h1 : m ≤ (n - q) / w := by omega
  have h2 := (Nat.le_div_iff_mul_le hw).1 h1
  have h3 : (k + 1) * w ≤ m * w := Nat.mul_le_mul_right _ (by omega)
  rw [Nat.succ_mul] at h3
  omega
theorem few (n q m w : Nat) (h : ¬ (n - q) / w < m) : m ≤ n := by
  have := Nat.div_le_self (n - q) w
  omega
theorem segAt_at (s : ByteArray) (p w i : Nat) (hi : i < w) (h : p + w ≤ s.size) : numTop ((segAt s p w).drop i) = numTop ((segAt s p w).drop (i + 1)) * 256 + s[p + i].toNat := by
  rw [numTop_drop _ i (by rw [segAt_length s p w h]; exact hi)]
  congr 2
  simp [segAt]
  rfl
theorem segAt_small (s : ByteArray) (p w i : Nat) (h : p + w ≤ s.size) : numTop ((segAt s p w).drop i) < 256 ^ (w - i) := by
  have := numTop_lt ((segAt s p w).drop i)
  rwa [List.length_drop, segAt_length s p w h] at this

theorem info5n : (Try.prog.info? 5).map (fun i => (i.zero, i.size, i.bytes)) = some (some (.int .u8 0), 1, 1) := by kernel_rfl

set_option maxRecDepth 20000 in
set_option maxHeartbeats 2000000 in
theorem take_u8 (s : ByteArray) (p n : Int) (w : World) (hs : s.size ≤ 2097152) (hpw : (Lit.int .i64 p).wf = true) (hnw : (Lit.int .i64 n).wf = true) :
    Calls Try.prog 53 #[.string s, .int .i64 p, .int .i64 n] w fun e w' => ∃ a m c, e = .returned (.tuple #[.slice a m c, .int .i64 (takeOf s p n 1).2]) ∧ Own w' w.heap.size 1 a m c ((takeOf s p n 1).1.map (numV .u8)) ∧ Below w.heap.size w w' := by
  have hp2 : (-9223372036854775808 : Int) ≤ p ∧ p ≤ 9223372036854775807 := by simpa [Lit.wf, IntKind.min, IntKind.max, IntKind.signed, IntKind.bits] using hpw
  have hn2 : (-9223372036854775808 : Int) ≤ n ∧ n ≤ 9223372036854775807 := by simpa [Lit.wf, IntKind.min, IntKind.max, IntKind.signed, IntKind.bits] using hnw
  clear hpw hnw
  by_cases hp : p < 0
  · go_enter Try.func53, Try.ntmps53
    go_wp2
    go_ret2
    exact ⟨none, 0, 0, by rw [takeOf_bad _ _ _ _ (.inl hp)]; rfl, by rw [takeOf_bad _ _ _ _ (.inl hp)]; exact Own.nil _ _ _, Below.refl _ _⟩
  by_cases hn : n < 0
  · go_enter Try.func53, Try.ntmps53
    go_wp2
    go_ret2
    exact ⟨none, 0, 0, by rw [takeOf_bad _ _ _ _ (.inr (.inl hn))]; rfl, by rw [takeOf_bad _ _ _ _ (.inr (.inl hn))]; exact Own.nil _ _ _, Below.refl _ _⟩
  obtain ⟨q, rfl⟩ := Int.eq_ofNat_of_zero_le (Int.not_lt.1 hp)
  obtain ⟨m, rfl⟩ := Int.eq_ofNat_of_zero_le (Int.not_lt.1 hn)
  clear hp hn
  by_cases hq : s.size < q
  · go_enter Try.func53, Try.ntmps53
    go_wp2
    go_ret2
    exact ⟨none, 0, 0, by rw [takeOf_bad _ _ _ _ (.inr (.inr (by omega)))]; rfl, by rw [takeOf_bad _ _ _ _ (.inr (.inr (by omega)))]; exact Own.nil _ _ _, Below.refl _ _⟩
  have hq' : q ≤ s.size := by omega
  clear hq hp2
  by_cases hm : (s.size - q) / 1 < m
  · have h1 : ((s.size : Int) - (q : Int)) / 1 < (m : Int) := by omega
    have HM := Lib.hid hm
    clear hm
    go_enter Try.func53, Try.ntmps53
    go_wp2_with (go_at_call 64; refine (width_u8 _).mono ?_; rintro e w' ⟨rfl, rfl⟩)
    go_ret2
    exact ⟨none, 0, 0, by rw [takeOf_short _ _ _ _ hq' HM.out]; rfl, by rw [takeOf_short _ _ _ _ hq' HM.out]; exact Own.nil _ _ _, Below.refl _ _⟩
  have h1 : (m : Int) ≤ ((s.size : Int) - (q : Int)) / 1 := by omega
  rw [takeOf_ok _ _ _ _ hq' hm]
  have HM := Lib.hid hm
  have hms := few _ _ _ _ hm
  clear hm hn2
  obtain ⟨i0, hi, hz0, hz1, hz2⟩ := info_parts info5n
  go_enter Try.func53, Try.ntmps53
  go_wp2_with (go_at_call 64; refine (width_u8 _).mono ?_; rintro e w' ⟨rfl, rfl⟩)
  clear h1
  go_loopw [1, 9, 34] (fun pp v i wr => ∃ k a n c, k ≤ m ∧ i = .int .i64 (k : Nat) ∧ pp = .int .i64 ((q + k * 1 : Nat) : Int) ∧ v = .slice a n c ∧ Own wr w.heap.size 1 a n c ((takesAt s q 1 k).map (numV .u8)) ∧ Below w.heap.size w wr) (fun _ _ i _ => m - (intOf i).toNat)
  case atStart => exact ⟨0, none, 0, 0, Nat.zero_le _, rfl, by simp, rfl, Own.nil _ _ _, Below.refl _ _⟩
  case round =>
    obtain ⟨k, a2, n2, c2, hk, rfl, rfl, rfl, hown, hb⟩ := hrel
    have hl2 : n2 = k := by have := hown.len; simpa [takesAt_length] using this.symm
    subst hl2
    have HO := Lib.hid hown
    have HB := Lib.hid hb
    clear hown hb
    by_cases hlt : n2 < m
    · have hfit := fits s.size q m 1 n2 (by omega) hq' HM.out hlt
      obtain ⟨pk, hpk⟩ : ∃ pk, pk = q + n2 * 1 := ⟨_, rfl⟩
      rw [← hpk] at hfit ⊢
      have HPK := Lib.hid hpk
      clear hpk
      go_wp2
      go_loopw [10, 11] (fun x i wx => wr = wx ∧ ∃ j : Nat, j ≤ 1 ∧ i = .int .i64 ((j : Int) - 1) ∧ x = .int .u8 (numTop ((segAt s pk 1).drop j))) (fun _ i _ => (intOf i + 1).toNat)
      case atStart => exact ⟨rfl, 1, Nat.le_refl _, rfl, by rw [List.drop_eq_nil_of_le (by rw [segAt_length _ _ _ hfit]; omega)]; rfl⟩
      case round =>
        obtain ⟨rfl, j, hj, rfl, rfl⟩ := hrel
        rcases Nat.eq_zero_or_pos j with rfl | hpos
        · obtain ⟨x, hx⟩ : ∃ x, x = numTop (segAt s pk 1) := ⟨_, rfl⟩
          rw [List.drop_zero, ← hx]
          have HX := Lib.hid hx
          clear hx
          have hown := HO.out
          have hbb := HB.out
          go_wp2_with (at_builtin; refine wpList_app rfl _ _ 50 50 rfl 5 i0 (.int .u8 0) 1 1 Try.underlying50 hi hz0 hz1 hz2 rfl (by simp [Value.cells, Value.oneCell']) w.heap.size _ _ _ _ rfl (hown.alloc _) _ 1 [.int .u8 (x : Int)] rfl (Src.ofCells Try.underlying50 _ _ _ _ rfl (Cells.new _ _ _) (by simp [Value.oneCell']) (by decide)) (by simp [maxLen]; omega) (by omega) (by have := hbb.size; simp; omega) ?_; intro a4 c4 w4 hown4 hap4; have hb4 := Lib.hid ((hbb.alloc hbb.size _).trans (hap4.below (hown.alloc _) (by have := hbb.size; simp; omega))); have HO4 := Lib.hid hown4; clear hown4 hap4 hown hbb)
          go_roundw
          case rel => exact ⟨n2 + 1, a4, _, c4, by omega, by go_num, congrArg (Value.int .i64) (by have := HPK.out; omega), rfl, by have := HO4.out; rw [takesAt_succ, List.map_append, ← HPK.out, ← HX.out]; exact this, hb4.out⟩
          case measure => simp [intOf]; omega
        · obtain ⟨i, rfl⟩ : ∃ i, j = i + 1 := ⟨j - 1, by omega⟩
          have hsm := segAt_small s pk 1 (i + 1) hfit
          have hle3 : 256 ^ (1 - (i + 1)) * 256 ≤ 256 := by
            rw [← Nat.pow_succ]
            exact Nat.le_trans (Nat.pow_le_pow_right (n := 256) (show 0 < 256 by omega) (show (1 - (i + 1)).succ ≤ 1 by omega)) (by decide)
          have hst := segAt_at s pk 1 i (by omega) hfit
          obtain ⟨x, hx⟩ : ∃ x, x = numTop ((segAt s pk 1).drop (i + 1)) := ⟨_, rfl⟩
          rw [← hx] at hsm hst ⊢
          rw [show (((i + 1 : Nat) : Int) - 1) = (i : Int) from by omega]
          have hxl : x * 256 < 256 := by
            generalize 256 ^ (1 - (i + 1)) = z at *
            omega
          have HX := Lib.hid hx
          have HST := Lib.hid hst
          clear hx hst hsm hle3
          have hlt3 : pk + i < s.size := by omega
          have h0 : (0 : Int) ≤ (pk : Int) + (i : Int) := by omega
          have h2 : (pk : Int) + (i : Int) < (s.size : Int) := by omega
          go_wp2
          go_roundw
          case rel =>
            refine ⟨by trivial, i, by omega, rfl, ?_⟩
            rw [HST.out, or_u8 x s[pk + i].toNat _ _ (by omega) (by first | exact wrap16 _ s[pk + i].toNat_lt | rfl | (have := s[pk + i].toNat_lt; omega)) hxl s[pk + i].toNat_lt]
          case measure => simp [intOf]
    · obtain rfl : n2 = m := by omega
      go_wp2
      go_ret2
      exact ⟨a2, n2, c2, rfl, HO.out, HB.out⟩

theorem info31n : (Try.prog.info? 31).map (fun i => (i.zero, i.size, i.bytes)) = some (some (.int .u16 0), 1, 2) := by kernel_rfl

set_option maxRecDepth 20000 in
set_option maxHeartbeats 2000000 in
theorem take_u16 (s : ByteArray) (p n : Int) (w : World) (hs : s.size ≤ 2097152) (hpw : (Lit.int .i64 p).wf = true) (hnw : (Lit.int .i64 n).wf = true) :
    Calls Try.prog 39 #[.string s, .int .i64 p, .int .i64 n] w fun e w' => ∃ a m c, e = .returned (.tuple #[.slice a m c, .int .i64 (takeOf s p n 2).2]) ∧ Own w' w.heap.size 1 a m c ((takeOf s p n 2).1.map (numV .u16)) ∧ Below w.heap.size w w' := by
  have hp2 : (-9223372036854775808 : Int) ≤ p ∧ p ≤ 9223372036854775807 := by simpa [Lit.wf, IntKind.min, IntKind.max, IntKind.signed, IntKind.bits] using hpw
  have hn2 : (-9223372036854775808 : Int) ≤ n ∧ n ≤ 9223372036854775807 := by simpa [Lit.wf, IntKind.min, IntKind.max, IntKind.signed, IntKind.bits] using hnw
  clear hpw hnw
  by_cases hp : p < 0
  · go_enter Try.func39, Try.ntmps39
    go_wp2
    go_ret2
    exact ⟨none, 0, 0, by rw [takeOf_bad _ _ _ _ (.inl hp)]; rfl, by rw [takeOf_bad _ _ _ _ (.inl hp)]; exact Own.nil _ _ _, Below.refl _ _⟩
  by_cases hn : n < 0
  · go_enter Try.func39, Try.ntmps39
    go_wp2
    go_ret2
    exact ⟨none, 0, 0, by rw [takeOf_bad _ _ _ _ (.inr (.inl hn))]; rfl, by rw [takeOf_bad _ _ _ _ (.inr (.inl hn))]; exact Own.nil _ _ _, Below.refl _ _⟩
  obtain ⟨q, rfl⟩ := Int.eq_ofNat_of_zero_le (Int.not_lt.1 hp)
  obtain ⟨m, rfl⟩ := Int.eq_ofNat_of_zero_le (Int.not_lt.1 hn)
  clear hp hn
  by_cases hq : s.size < q
  · go_enter Try.func39, Try.ntmps39
    go_wp2
    go_ret2
    exact ⟨none, 0, 0, by rw [takeOf_bad _ _ _ _ (.inr (.inr (by omega)))]; rfl, by rw [takeOf_bad _ _ _ _ (.inr (.inr (by omega)))]; exact Own.nil _ _ _, Below.refl _ _⟩
  have hq' : q ≤ s.size := by omega
  clear hq hp2
  by_cases hm : (s.size - q) / 2 < m
  · have h1 : ((s.size : Int) - (q : Int)) / 2 < (m : Int) := by omega
    have HM := Lib.hid hm
    clear hm
    go_enter Try.func39, Try.ntmps39
    go_wp2_with (go_at_call 59; refine (width_u16 _).mono ?_; rintro e w' ⟨rfl, rfl⟩)
    go_ret2
    exact ⟨none, 0, 0, by rw [takeOf_short _ _ _ _ hq' HM.out]; rfl, by rw [takeOf_short _ _ _ _ hq' HM.out]; exact Own.nil _ _ _, Below.refl _ _⟩
  have h1 : (m : Int) ≤ ((s.size : Int) - (q : Int)) / 2 := by omega
  rw [takeOf_ok _ _ _ _ hq' hm]
  have HM := Lib.hid hm
  have hms := few _ _ _ _ hm
  clear hm hn2
  obtain ⟨i0, hi, hz0, hz1, hz2⟩ := info_parts info31n
  go_enter Try.func39, Try.ntmps39
  go_wp2_with (go_at_call 59; refine (width_u16 _).mono ?_; rintro e w' ⟨rfl, rfl⟩)
  clear h1
  go_loopw [1, 9, 34] (fun pp v i wr => ∃ k a n c, k ≤ m ∧ i = .int .i64 (k : Nat) ∧ pp = .int .i64 ((q + k * 2 : Nat) : Int) ∧ v = .slice a n c ∧ Own wr w.heap.size 1 a n c ((takesAt s q 2 k).map (numV .u16)) ∧ Below w.heap.size w wr) (fun _ _ i _ => m - (intOf i).toNat)
  case atStart => exact ⟨0, none, 0, 0, Nat.zero_le _, rfl, by simp, rfl, Own.nil _ _ _, Below.refl _ _⟩
  case round =>
    obtain ⟨k, a2, n2, c2, hk, rfl, rfl, rfl, hown, hb⟩ := hrel
    have hl2 : n2 = k := by have := hown.len; simpa [takesAt_length] using this.symm
    subst hl2
    have HO := Lib.hid hown
    have HB := Lib.hid hb
    clear hown hb
    by_cases hlt : n2 < m
    · have hfit := fits s.size q m 2 n2 (by omega) hq' HM.out hlt
      obtain ⟨pk, hpk⟩ : ∃ pk, pk = q + n2 * 2 := ⟨_, rfl⟩
      rw [← hpk] at hfit ⊢
      have HPK := Lib.hid hpk
      clear hpk
      go_wp2
      go_loopw [10, 11] (fun x i wx => wr = wx ∧ ∃ j : Nat, j ≤ 2 ∧ i = .int .i64 ((j : Int) - 1) ∧ x = .int .u16 (numTop ((segAt s pk 2).drop j))) (fun _ i _ => (intOf i + 1).toNat)
      case atStart => exact ⟨rfl, 2, Nat.le_refl _, rfl, by rw [List.drop_eq_nil_of_le (by rw [segAt_length _ _ _ hfit]; omega)]; rfl⟩
      case round =>
        obtain ⟨rfl, j, hj, rfl, rfl⟩ := hrel
        rcases Nat.eq_zero_or_pos j with rfl | hpos
        · obtain ⟨x, hx⟩ : ∃ x, x = numTop (segAt s pk 2) := ⟨_, rfl⟩
          rw [List.drop_zero, ← hx]
          have HX := Lib.hid hx
          clear hx
          have hown := HO.out
          have hbb := HB.out
          go_wp2_with (at_builtin; refine wpList_app rfl _ _ 52 52 rfl 31 i0 (.int .u16 0) 1 2 Try.underlying52 hi hz0 hz1 hz2 rfl (by simp [Value.cells, Value.oneCell']) w.heap.size _ _ _ _ rfl (hown.alloc _) _ 1 [.int .u16 (x : Int)] rfl (Src.ofCells Try.underlying52 _ _ _ _ rfl (Cells.new _ _ _) (by simp [Value.oneCell']) (by decide)) (by simp [maxLen]; omega) (by omega) (by have := hbb.size; simp; omega) ?_; intro a4 c4 w4 hown4 hap4; have hb4 := Lib.hid ((hbb.alloc hbb.size _).trans (hap4.below (hown.alloc _) (by have := hbb.size; simp; omega))); have HO4 := Lib.hid hown4; clear hown4 hap4 hown hbb)
          go_roundw
          case rel => exact ⟨n2 + 1, a4, _, c4, by omega, by go_num, congrArg (Value.int .i64) (by have := HPK.out; omega), rfl, by have := HO4.out; rw [takesAt_succ, List.map_append, ← HPK.out, ← HX.out]; exact this, hb4.out⟩
          case measure => simp [intOf]; omega
        · obtain ⟨i, rfl⟩ : ∃ i, j = i + 1 := ⟨j - 1, by omega⟩
          have hsm := segAt_small s pk 2 (i + 1) hfit
          have hle3 : 256 ^ (2 - (i + 1)) * 256 ≤ 65536 := by
            rw [← Nat.pow_succ]
            exact Nat.le_trans (Nat.pow_le_pow_right (n := 256) (show 0 < 256 by omega) (show (2 - (i + 1)).succ ≤ 2 by omega)) (by decide)
          have hst := segAt_at s pk 2 i (by omega) hfit
          obtain ⟨x, hx⟩ : ∃ x, x = numTop ((segAt s pk 2).drop (i + 1)) := ⟨_, rfl⟩
          rw [← hx] at hsm hst ⊢
          rw [show (((i + 1 : Nat) : Int) - 1) = (i : Int) from by omega]
          have hxl : x * 256 < 65536 := by
            generalize 256 ^ (2 - (i + 1)) = z at *
            omega
          have HX := Lib.hid hx
          have HST := Lib.hid hst
          clear hx hst hsm hle3
          have hlt3 : pk + i < s.size := by omega
          have h0 : (0 : Int) ≤ (pk : Int) + (i : Int) := by omega
          have h2 : (pk : Int) + (i : Int) < (s.size : Int) := by omega
          go_wp2
          go_roundw
          case rel =>
            refine ⟨by trivial, i, by omega, rfl, ?_⟩
            rw [HST.out, or_u16 x s[pk + i].toNat _ _ (by omega) (by first | exact wrap16 _ s[pk + i].toNat_lt | rfl | (have := s[pk + i].toNat_lt; omega)) hxl s[pk + i].toNat_lt]
          case measure => simp [intOf]
    · obtain rfl : n2 = m := by omega
      go_wp2
      go_ret2
      exact ⟨a2, n2, c2, rfl, HO.out, HB.out⟩

theorem info23n : (Try.prog.info? 23).map (fun i => (i.zero, i.size, i.bytes)) = some (some (.int .u32 0), 1, 4) := by kernel_rfl

set_option maxRecDepth 20000 in
set_option maxHeartbeats 2000000 in
theorem take_u32 (s : ByteArray) (p n : Int) (w : World) (hs : s.size ≤ 2097152) (hpw : (Lit.int .i64 p).wf = true) (hnw : (Lit.int .i64 n).wf = true) :
    Calls Try.prog 55 #[.string s, .int .i64 p, .int .i64 n] w fun e w' => ∃ a m c, e = .returned (.tuple #[.slice a m c, .int .i64 (takeOf s p n 4).2]) ∧ Own w' w.heap.size 1 a m c ((takeOf s p n 4).1.map (numV .u32)) ∧ Below w.heap.size w w' := by
  have hp2 : (-9223372036854775808 : Int) ≤ p ∧ p ≤ 9223372036854775807 := by simpa [Lit.wf, IntKind.min, IntKind.max, IntKind.signed, IntKind.bits] using hpw
  have hn2 : (-9223372036854775808 : Int) ≤ n ∧ n ≤ 9223372036854775807 := by simpa [Lit.wf, IntKind.min, IntKind.max, IntKind.signed, IntKind.bits] using hnw
  clear hpw hnw
  by_cases hp : p < 0
  · go_enter Try.func55, Try.ntmps55
    go_wp2
    go_ret2
    exact ⟨none, 0, 0, by rw [takeOf_bad _ _ _ _ (.inl hp)]; rfl, by rw [takeOf_bad _ _ _ _ (.inl hp)]; exact Own.nil _ _ _, Below.refl _ _⟩
  by_cases hn : n < 0
  · go_enter Try.func55, Try.ntmps55
    go_wp2
    go_ret2
    exact ⟨none, 0, 0, by rw [takeOf_bad _ _ _ _ (.inr (.inl hn))]; rfl, by rw [takeOf_bad _ _ _ _ (.inr (.inl hn))]; exact Own.nil _ _ _, Below.refl _ _⟩
  obtain ⟨q, rfl⟩ := Int.eq_ofNat_of_zero_le (Int.not_lt.1 hp)
  obtain ⟨m, rfl⟩ := Int.eq_ofNat_of_zero_le (Int.not_lt.1 hn)
  clear hp hn
  by_cases hq : s.size < q
  · go_enter Try.func55, Try.ntmps55
    go_wp2
    go_ret2
    exact ⟨none, 0, 0, by rw [takeOf_bad _ _ _ _ (.inr (.inr (by omega)))]; rfl, by rw [takeOf_bad _ _ _ _ (.inr (.inr (by omega)))]; exact Own.nil _ _ _, Below.refl _ _⟩
  have hq' : q ≤ s.size := by omega
  clear hq hp2
  by_cases hm : (s.size - q) / 4 < m
  · have h1 : ((s.size : Int) - (q : Int)) / 4 < (m : Int) := by omega
    have HM := Lib.hid hm
    clear hm
    go_enter Try.func55, Try.ntmps55
    go_wp2_with (go_at_call 65; refine (width_u32 _).mono ?_; rintro e w' ⟨rfl, rfl⟩)
    go_ret2
    exact ⟨none, 0, 0, by rw [takeOf_short _ _ _ _ hq' HM.out]; rfl, by rw [takeOf_short _ _ _ _ hq' HM.out]; exact Own.nil _ _ _, Below.refl _ _⟩
  have h1 : (m : Int) ≤ ((s.size : Int) - (q : Int)) / 4 := by omega
  rw [takeOf_ok _ _ _ _ hq' hm]
  have HM := Lib.hid hm
  have hms := few _ _ _ _ hm
  clear hm hn2
  obtain ⟨i0, hi, hz0, hz1, hz2⟩ := info_parts info23n
  go_enter Try.func55, Try.ntmps55
  go_wp2_with (go_at_call 65; refine (width_u32 _).mono ?_; rintro e w' ⟨rfl, rfl⟩)
  clear h1
  go_loopw [1, 9, 34] (fun pp v i wr => ∃ k a n c, k ≤ m ∧ i = .int .i64 (k : Nat) ∧ pp = .int .i64 ((q + k * 4 : Nat) : Int) ∧ v = .slice a n c ∧ Own wr w.heap.size 1 a n c ((takesAt s q 4 k).map (numV .u32)) ∧ Below w.heap.size w wr) (fun _ _ i _ => m - (intOf i).toNat)
  case atStart => exact ⟨0, none, 0, 0, Nat.zero_le _, rfl, by simp, rfl, Own.nil _ _ _, Below.refl _ _⟩
  case round =>
    obtain ⟨k, a2, n2, c2, hk, rfl, rfl, rfl, hown, hb⟩ := hrel
    have hl2 : n2 = k := by have := hown.len; simpa [takesAt_length] using this.symm
    subst hl2
    have HO := Lib.hid hown
    have HB := Lib.hid hb
    clear hown hb
    by_cases hlt : n2 < m
    · have hfit := fits s.size q m 4 n2 (by omega) hq' HM.out hlt
      obtain ⟨pk, hpk⟩ : ∃ pk, pk = q + n2 * 4 := ⟨_, rfl⟩
      rw [← hpk] at hfit ⊢
      have HPK := Lib.hid hpk
      clear hpk
      go_wp2
      go_loopw [10, 11] (fun x i wx => wr = wx ∧ ∃ j : Nat, j ≤ 4 ∧ i = .int .i64 ((j : Int) - 1) ∧ x = .int .u32 (numTop ((segAt s pk 4).drop j))) (fun _ i _ => (intOf i + 1).toNat)
      case atStart => exact ⟨rfl, 4, Nat.le_refl _, rfl, by rw [List.drop_eq_nil_of_le (by rw [segAt_length _ _ _ hfit]; omega)]; rfl⟩
      case round =>
        obtain ⟨rfl, j, hj, rfl, rfl⟩ := hrel
        rcases Nat.eq_zero_or_pos j with rfl | hpos
        · obtain ⟨x, hx⟩ : ∃ x, x = numTop (segAt s pk 4) := ⟨_, rfl⟩
          rw [List.drop_zero, ← hx]
          have HX := Lib.hid hx
          clear hx
          have hown := HO.out
          have hbb := HB.out
          go_wp2_with (at_builtin; refine wpList_app rfl _ _ 29 29 rfl 23 i0 (.int .u32 0) 1 4 Try.underlying29 hi hz0 hz1 hz2 rfl (by simp [Value.cells, Value.oneCell']) w.heap.size _ _ _ _ rfl (hown.alloc _) _ 1 [.int .u32 (x : Int)] rfl (Src.ofCells Try.underlying29 _ _ _ _ rfl (Cells.new _ _ _) (by simp [Value.oneCell']) (by decide)) (by simp [maxLen]; omega) (by omega) (by have := hbb.size; simp; omega) ?_; intro a4 c4 w4 hown4 hap4; have hb4 := Lib.hid ((hbb.alloc hbb.size _).trans (hap4.below (hown.alloc _) (by have := hbb.size; simp; omega))); have HO4 := Lib.hid hown4; clear hown4 hap4 hown hbb)
          go_roundw
          case rel => exact ⟨n2 + 1, a4, _, c4, by omega, by go_num, congrArg (Value.int .i64) (by have := HPK.out; omega), rfl, by have := HO4.out; rw [takesAt_succ, List.map_append, ← HPK.out, ← HX.out]; exact this, hb4.out⟩
          case measure => simp [intOf]; omega
        · obtain ⟨i, rfl⟩ : ∃ i, j = i + 1 := ⟨j - 1, by omega⟩
          have hsm := segAt_small s pk 4 (i + 1) hfit
          have hle3 : 256 ^ (4 - (i + 1)) * 256 ≤ 4294967296 := by
            rw [← Nat.pow_succ]
            exact Nat.le_trans (Nat.pow_le_pow_right (n := 256) (show 0 < 256 by omega) (show (4 - (i + 1)).succ ≤ 4 by omega)) (by decide)
          have hst := segAt_at s pk 4 i (by omega) hfit
          obtain ⟨x, hx⟩ : ∃ x, x = numTop ((segAt s pk 4).drop (i + 1)) := ⟨_, rfl⟩
          rw [← hx] at hsm hst ⊢
          rw [show (((i + 1 : Nat) : Int) - 1) = (i : Int) from by omega]
          have hxl : x * 256 < 4294967296 := by
            generalize 256 ^ (4 - (i + 1)) = z at *
            omega
          have HX := Lib.hid hx
          have HST := Lib.hid hst
          clear hx hst hsm hle3
          have hlt3 : pk + i < s.size := by omega
          have h0 : (0 : Int) ≤ (pk : Int) + (i : Int) := by omega
          have h2 : (pk : Int) + (i : Int) < (s.size : Int) := by omega
          go_wp2
          go_roundw
          case rel =>
            refine ⟨by trivial, i, by omega, rfl, ?_⟩
            rw [HST.out, or_u32 x s[pk + i].toNat _ _ (by omega) (by first | exact wrap16 _ s[pk + i].toNat_lt | rfl | (have := s[pk + i].toNat_lt; omega)) hxl s[pk + i].toNat_lt]
          case measure => simp [intOf]
    · obtain rfl : n2 = m := by omega
      go_wp2
      go_ret2
      exact ⟨a2, n2, c2, rfl, HO.out, HB.out⟩

theorem info32n : (Try.prog.info? 32).map (fun i => (i.zero, i.size, i.bytes)) = some (some (.int .u8 0), 1, 1) := by kernel_rfl

set_option maxRecDepth 20000 in
set_option maxHeartbeats 2000000 in
theorem take_small (s : ByteArray) (p n : Int) (w : World) (hs : s.size ≤ 2097152) (hpw : (Lit.int .i64 p).wf = true) (hnw : (Lit.int .i64 n).wf = true) :
    Calls Try.prog 56 #[.string s, .int .i64 p, .int .i64 n] w fun e w' => ∃ a m c, e = .returned (.tuple #[.slice a m c, .int .i64 (takeOf s p n 1).2]) ∧ Own w' w.heap.size 1 a m c ((takeOf s p n 1).1.map (numV .u8)) ∧ Below w.heap.size w w' := by
  have hp2 : (-9223372036854775808 : Int) ≤ p ∧ p ≤ 9223372036854775807 := by simpa [Lit.wf, IntKind.min, IntKind.max, IntKind.signed, IntKind.bits] using hpw
  have hn2 : (-9223372036854775808 : Int) ≤ n ∧ n ≤ 9223372036854775807 := by simpa [Lit.wf, IntKind.min, IntKind.max, IntKind.signed, IntKind.bits] using hnw
  clear hpw hnw
  by_cases hp : p < 0
  · go_enter Try.func56, Try.ntmps56
    go_wp2
    go_ret2
    exact ⟨none, 0, 0, by rw [takeOf_bad _ _ _ _ (.inl hp)]; rfl, by rw [takeOf_bad _ _ _ _ (.inl hp)]; exact Own.nil _ _ _, Below.refl _ _⟩
  by_cases hn : n < 0
  · go_enter Try.func56, Try.ntmps56
    go_wp2
    go_ret2
    exact ⟨none, 0, 0, by rw [takeOf_bad _ _ _ _ (.inr (.inl hn))]; rfl, by rw [takeOf_bad _ _ _ _ (.inr (.inl hn))]; exact Own.nil _ _ _, Below.refl _ _⟩
  obtain ⟨q, rfl⟩ := Int.eq_ofNat_of_zero_le (Int.not_lt.1 hp)
  obtain ⟨m, rfl⟩ := Int.eq_ofNat_of_zero_le (Int.not_lt.1 hn)
  clear hp hn
  by_cases hq : s.size < q
  · go_enter Try.func56, Try.ntmps56
    go_wp2
    go_ret2
    exact ⟨none, 0, 0, by rw [takeOf_bad _ _ _ _ (.inr (.inr (by omega)))]; rfl, by rw [takeOf_bad _ _ _ _ (.inr (.inr (by omega)))]; exact Own.nil _ _ _, Below.refl _ _⟩
  have hq' : q ≤ s.size := by omega
  clear hq hp2
  by_cases hm : (s.size - q) / 1 < m
  · have h1 : ((s.size : Int) - (q : Int)) / 1 < (m : Int) := by omega
    have HM := Lib.hid hm
    clear hm
    go_enter Try.func56, Try.ntmps56
    go_wp2_with (go_at_call 66; refine (width_small _).mono ?_; rintro e w' ⟨rfl, rfl⟩)
    go_ret2
    exact ⟨none, 0, 0, by rw [takeOf_short _ _ _ _ hq' HM.out]; rfl, by rw [takeOf_short _ _ _ _ hq' HM.out]; exact Own.nil _ _ _, Below.refl _ _⟩
  have h1 : (m : Int) ≤ ((s.size : Int) - (q : Int)) / 1 := by omega
  rw [takeOf_ok _ _ _ _ hq' hm]
  have HM := Lib.hid hm
  have hms := few _ _ _ _ hm
  clear hm hn2
  obtain ⟨i0, hi, hz0, hz1, hz2⟩ := info_parts info32n
  go_enter Try.func56, Try.ntmps56
  go_wp2_with (go_at_call 66; refine (width_small _).mono ?_; rintro e w' ⟨rfl, rfl⟩)
  clear h1
  go_loopw [1, 9, 34] (fun pp v i wr => ∃ k a n c, k ≤ m ∧ i = .int .i64 (k : Nat) ∧ pp = .int .i64 ((q + k * 1 : Nat) : Int) ∧ v = .slice a n c ∧ Own wr w.heap.size 1 a n c ((takesAt s q 1 k).map (numV .u8)) ∧ Below w.heap.size w wr) (fun _ _ i _ => m - (intOf i).toNat)
  case atStart => exact ⟨0, none, 0, 0, Nat.zero_le _, rfl, by simp, rfl, Own.nil _ _ _, Below.refl _ _⟩
  case round =>
    obtain ⟨k, a2, n2, c2, hk, rfl, rfl, rfl, hown, hb⟩ := hrel
    have hl2 : n2 = k := by have := hown.len; simpa [takesAt_length] using this.symm
    subst hl2
    have HO := Lib.hid hown
    have HB := Lib.hid hb
    clear hown hb
    by_cases hlt : n2 < m
    · have hfit := fits s.size q m 1 n2 (by omega) hq' HM.out hlt
      obtain ⟨pk, hpk⟩ : ∃ pk, pk = q + n2 * 1 := ⟨_, rfl⟩
      rw [← hpk] at hfit ⊢
      have HPK := Lib.hid hpk
      clear hpk
      go_wp2
      go_loopw [10, 11] (fun x i wx => wr = wx ∧ ∃ j : Nat, j ≤ 1 ∧ i = .int .i64 ((j : Int) - 1) ∧ x = .int .u8 (numTop ((segAt s pk 1).drop j))) (fun _ i _ => (intOf i + 1).toNat)
      case atStart => exact ⟨rfl, 1, Nat.le_refl _, rfl, by rw [List.drop_eq_nil_of_le (by rw [segAt_length _ _ _ hfit]; omega)]; rfl⟩
      case round =>
        obtain ⟨rfl, j, hj, rfl, rfl⟩ := hrel
        rcases Nat.eq_zero_or_pos j with rfl | hpos
        · obtain ⟨x, hx⟩ : ∃ x, x = numTop (segAt s pk 1) := ⟨_, rfl⟩
          rw [List.drop_zero, ← hx]
          have HX := Lib.hid hx
          clear hx
          have hown := HO.out
          have hbb := HB.out
          go_wp2_with (at_builtin; refine wpList_app rfl _ _ 72 72 rfl 32 i0 (.int .u8 0) 1 1 Try.underlying72 hi hz0 hz1 hz2 rfl (by simp [Value.cells, Value.oneCell']) w.heap.size _ _ _ _ rfl (hown.alloc _) _ 1 [.int .u8 (x : Int)] rfl (Src.ofCells Try.underlying72 _ _ _ _ rfl (Cells.new _ _ _) (by simp [Value.oneCell']) (by decide)) (by simp [maxLen]; omega) (by omega) (by have := hbb.size; simp; omega) ?_; intro a4 c4 w4 hown4 hap4; have hb4 := Lib.hid ((hbb.alloc hbb.size _).trans (hap4.below (hown.alloc _) (by have := hbb.size; simp; omega))); have HO4 := Lib.hid hown4; clear hown4 hap4 hown hbb)
          go_roundw
          case rel => exact ⟨n2 + 1, a4, _, c4, by omega, by go_num, congrArg (Value.int .i64) (by have := HPK.out; omega), rfl, by have := HO4.out; rw [takesAt_succ, List.map_append, ← HPK.out, ← HX.out]; exact this, hb4.out⟩
          case measure => simp [intOf]; omega
        · obtain ⟨i, rfl⟩ : ∃ i, j = i + 1 := ⟨j - 1, by omega⟩
          have hsm := segAt_small s pk 1 (i + 1) hfit
          have hle3 : 256 ^ (1 - (i + 1)) * 256 ≤ 256 := by
            rw [← Nat.pow_succ]
            exact Nat.le_trans (Nat.pow_le_pow_right (n := 256) (show 0 < 256 by omega) (show (1 - (i + 1)).succ ≤ 1 by omega)) (by decide)
          have hst := segAt_at s pk 1 i (by omega) hfit
          obtain ⟨x, hx⟩ : ∃ x, x = numTop ((segAt s pk 1).drop (i + 1)) := ⟨_, rfl⟩
          rw [← hx] at hsm hst ⊢
          rw [show (((i + 1 : Nat) : Int) - 1) = (i : Int) from by omega]
          have hxl : x * 256 < 256 := by
            generalize 256 ^ (1 - (i + 1)) = z at *
            omega
          have HX := Lib.hid hx
          have HST := Lib.hid hst
          clear hx hst hsm hle3
          have hlt3 : pk + i < s.size := by omega
          have h0 : (0 : Int) ≤ (pk : Int) + (i : Int) := by omega
          have h2 : (pk : Int) + (i : Int) < (s.size : Int) := by omega
          go_wp2
          go_roundw
          case rel =>
            refine ⟨by trivial, i, by omega, rfl, ?_⟩
            rw [HST.out, or_u8 x s[pk + i].toNat _ _ (by omega) (by first | exact wrap16 _ s[pk + i].toNat_lt | rfl | (have := s[pk + i].toNat_lt; omega)) hxl s[pk + i].toNat_lt]
          case measure => simp [intOf]
    · obtain rfl : n2 = m := by omega
      go_wp2
      go_ret2
      exact ⟨a2, n2, c2, rfl, HO.out, HB.out⟩

theorem info33n : (Try.prog.info? 33).map (fun i => (i.zero, i.size, i.bytes)) = some (some (.int .u16 0), 1, 2) := by kernel_rfl

set_option maxRecDepth 20000 in
set_option maxHeartbeats 2000000 in
theorem take_middle (s : ByteArray) (p n : Int) (w : World) (hs : s.size ≤ 2097152) (hpw : (Lit.int .i64 p).wf = true) (hnw : (Lit.int .i64 n).wf = true) :
    Calls Try.prog 57 #[.string s, .int .i64 p, .int .i64 n] w fun e w' => ∃ a m c, e = .returned (.tuple #[.slice a m c, .int .i64 (takeOf s p n 2).2]) ∧ Own w' w.heap.size 1 a m c ((takeOf s p n 2).1.map (numV .u16)) ∧ Below w.heap.size w w' := by
  have hp2 : (-9223372036854775808 : Int) ≤ p ∧ p ≤ 9223372036854775807 := by simpa [Lit.wf, IntKind.min, IntKind.max, IntKind.signed, IntKind.bits] using hpw
  have hn2 : (-9223372036854775808 : Int) ≤ n ∧ n ≤ 9223372036854775807 := by simpa [Lit.wf, IntKind.min, IntKind.max, IntKind.signed, IntKind.bits] using hnw
  clear hpw hnw
  by_cases hp : p < 0
  · go_enter Try.func57, Try.ntmps57
    go_wp2
    go_ret2
    exact ⟨none, 0, 0, by rw [takeOf_bad _ _ _ _ (.inl hp)]; rfl, by rw [takeOf_bad _ _ _ _ (.inl hp)]; exact Own.nil _ _ _, Below.refl _ _⟩
  by_cases hn : n < 0
  · go_enter Try.func57, Try.ntmps57
    go_wp2
    go_ret2
    exact ⟨none, 0, 0, by rw [takeOf_bad _ _ _ _ (.inr (.inl hn))]; rfl, by rw [takeOf_bad _ _ _ _ (.inr (.inl hn))]; exact Own.nil _ _ _, Below.refl _ _⟩
  obtain ⟨q, rfl⟩ := Int.eq_ofNat_of_zero_le (Int.not_lt.1 hp)
  obtain ⟨m, rfl⟩ := Int.eq_ofNat_of_zero_le (Int.not_lt.1 hn)
  clear hp hn
  by_cases hq : s.size < q
  · go_enter Try.func57, Try.ntmps57
    go_wp2
    go_ret2
    exact ⟨none, 0, 0, by rw [takeOf_bad _ _ _ _ (.inr (.inr (by omega)))]; rfl, by rw [takeOf_bad _ _ _ _ (.inr (.inr (by omega)))]; exact Own.nil _ _ _, Below.refl _ _⟩
  have hq' : q ≤ s.size := by omega
  clear hq hp2
  by_cases hm : (s.size - q) / 2 < m
  · have h1 : ((s.size : Int) - (q : Int)) / 2 < (m : Int) := by omega
    have HM := Lib.hid hm
    clear hm
    go_enter Try.func57, Try.ntmps57
    go_wp2_with (go_at_call 67; refine (width_middle _).mono ?_; rintro e w' ⟨rfl, rfl⟩)
    go_ret2
    exact ⟨none, 0, 0, by rw [takeOf_short _ _ _ _ hq' HM.out]; rfl, by rw [takeOf_short _ _ _ _ hq' HM.out]; exact Own.nil _ _ _, Below.refl _ _⟩
  have h1 : (m : Int) ≤ ((s.size : Int) - (q : Int)) / 2 := by omega
  rw [takeOf_ok _ _ _ _ hq' hm]
  have HM := Lib.hid hm
  have hms := few _ _ _ _ hm
  clear hm hn2
  obtain ⟨i0, hi, hz0, hz1, hz2⟩ := info_parts info33n
  go_enter Try.func57, Try.ntmps57
  go_wp2_with (go_at_call 67; refine (width_middle _).mono ?_; rintro e w' ⟨rfl, rfl⟩)
  clear h1
  go_loopw [1, 9, 34] (fun pp v i wr => ∃ k a n c, k ≤ m ∧ i = .int .i64 (k : Nat) ∧ pp = .int .i64 ((q + k * 2 : Nat) : Int) ∧ v = .slice a n c ∧ Own wr w.heap.size 1 a n c ((takesAt s q 2 k).map (numV .u16)) ∧ Below w.heap.size w wr) (fun _ _ i _ => m - (intOf i).toNat)
  case atStart => exact ⟨0, none, 0, 0, Nat.zero_le _, rfl, by simp, rfl, Own.nil _ _ _, Below.refl _ _⟩
  case round =>
    obtain ⟨k, a2, n2, c2, hk, rfl, rfl, rfl, hown, hb⟩ := hrel
    have hl2 : n2 = k := by have := hown.len; simpa [takesAt_length] using this.symm
    subst hl2
    have HO := Lib.hid hown
    have HB := Lib.hid hb
    clear hown hb
    by_cases hlt : n2 < m
    · have hfit := fits s.size q m 2 n2 (by omega) hq' HM.out hlt
      obtain ⟨pk, hpk⟩ : ∃ pk, pk = q + n2 * 2 := ⟨_, rfl⟩
      rw [← hpk] at hfit ⊢
      have HPK := Lib.hid hpk
      clear hpk
      go_wp2
      go_loopw [10, 11] (fun x i wx => wr = wx ∧ ∃ j : Nat, j ≤ 2 ∧ i = .int .i64 ((j : Int) - 1) ∧ x = .int .u16 (numTop ((segAt s pk 2).drop j))) (fun _ i _ => (intOf i + 1).toNat)
      case atStart => exact ⟨rfl, 2, Nat.le_refl _, rfl, by rw [List.drop_eq_nil_of_le (by rw [segAt_length _ _ _ hfit]; omega)]; rfl⟩
      case round =>
        obtain ⟨rfl, j, hj, rfl, rfl⟩ := hrel
        rcases Nat.eq_zero_or_pos j with rfl | hpos
        · obtain ⟨x, hx⟩ : ∃ x, x = numTop (segAt s pk 2) := ⟨_, rfl⟩
          rw [List.drop_zero, ← hx]
          have HX := Lib.hid hx
          clear hx
          have hown := HO.out
          have hbb := HB.out
          go_wp2_with (at_builtin; refine wpList_app rfl _ _ 74 74 rfl 33 i0 (.int .u16 0) 1 2 Try.underlying74 hi hz0 hz1 hz2 rfl (by simp [Value.cells, Value.oneCell']) w.heap.size _ _ _ _ rfl (hown.alloc _) _ 1 [.int .u16 (x : Int)] rfl (Src.ofCells Try.underlying74 _ _ _ _ rfl (Cells.new _ _ _) (by simp [Value.oneCell']) (by decide)) (by simp [maxLen]; omega) (by omega) (by have := hbb.size; simp; omega) ?_; intro a4 c4 w4 hown4 hap4; have hb4 := Lib.hid ((hbb.alloc hbb.size _).trans (hap4.below (hown.alloc _) (by have := hbb.size; simp; omega))); have HO4 := Lib.hid hown4; clear hown4 hap4 hown hbb)
          go_roundw
          case rel => exact ⟨n2 + 1, a4, _, c4, by omega, by go_num, congrArg (Value.int .i64) (by have := HPK.out; omega), rfl, by have := HO4.out; rw [takesAt_succ, List.map_append, ← HPK.out, ← HX.out]; exact this, hb4.out⟩
          case measure => simp [intOf]; omega
        · obtain ⟨i, rfl⟩ : ∃ i, j = i + 1 := ⟨j - 1, by omega⟩
          have hsm := segAt_small s pk 2 (i + 1) hfit
          have hle3 : 256 ^ (2 - (i + 1)) * 256 ≤ 65536 := by
            rw [← Nat.pow_succ]
            exact Nat.le_trans (Nat.pow_le_pow_right (n := 256) (show 0 < 256 by omega) (show (2 - (i + 1)).succ ≤ 2 by omega)) (by decide)
          have hst := segAt_at s pk 2 i (by omega) hfit
          obtain ⟨x, hx⟩ : ∃ x, x = numTop ((segAt s pk 2).drop (i + 1)) := ⟨_, rfl⟩
          rw [← hx] at hsm hst ⊢
          rw [show (((i + 1 : Nat) : Int) - 1) = (i : Int) from by omega]
          have hxl : x * 256 < 65536 := by
            generalize 256 ^ (2 - (i + 1)) = z at *
            omega
          have HX := Lib.hid hx
          have HST := Lib.hid hst
          clear hx hst hsm hle3
          have hlt3 : pk + i < s.size := by omega
          have h0 : (0 : Int) ≤ (pk : Int) + (i : Int) := by omega
          have h2 : (pk : Int) + (i : Int) < (s.size : Int) := by omega
          go_wp2
          go_roundw
          case rel =>
            refine ⟨by trivial, i, by omega, rfl, ?_⟩
            rw [HST.out, or_u16 x s[pk + i].toNat _ _ (by omega) (by first | exact wrap16 _ s[pk + i].toNat_lt | rfl | (have := s[pk + i].toNat_lt; omega)) hxl s[pk + i].toNat_lt]
          case measure => simp [intOf]
    · obtain rfl : n2 = m := by omega
      go_wp2
      go_ret2
      exact ⟨a2, n2, c2, rfl, HO.out, HB.out⟩

theorem info34n : (Try.prog.info? 34).map (fun i => (i.zero, i.size, i.bytes)) = some (some (.int .u32 0), 1, 4) := by kernel_rfl

set_option maxRecDepth 20000 in
set_option maxHeartbeats 2000000 in
theorem take_large (s : ByteArray) (p n : Int) (w : World) (hs : s.size ≤ 2097152) (hpw : (Lit.int .i64 p).wf = true) (hnw : (Lit.int .i64 n).wf = true) :
    Calls Try.prog 37 #[.string s, .int .i64 p, .int .i64 n] w fun e w' => ∃ a m c, e = .returned (.tuple #[.slice a m c, .int .i64 (takeOf s p n 4).2]) ∧ Own w' w.heap.size 1 a m c ((takeOf s p n 4).1.map (numV .u32)) ∧ Below w.heap.size w w' := by
  have hp2 : (-9223372036854775808 : Int) ≤ p ∧ p ≤ 9223372036854775807 := by simpa [Lit.wf, IntKind.min, IntKind.max, IntKind.signed, IntKind.bits] using hpw
  have hn2 : (-9223372036854775808 : Int) ≤ n ∧ n ≤ 9223372036854775807 := by simpa [Lit.wf, IntKind.min, IntKind.max, IntKind.signed, IntKind.bits] using hnw
  clear hpw hnw
  by_cases hp : p < 0
  · go_enter Try.func37, Try.ntmps37
    go_wp2
    go_ret2
    exact ⟨none, 0, 0, by rw [takeOf_bad _ _ _ _ (.inl hp)]; rfl, by rw [takeOf_bad _ _ _ _ (.inl hp)]; exact Own.nil _ _ _, Below.refl _ _⟩
  by_cases hn : n < 0
  · go_enter Try.func37, Try.ntmps37
    go_wp2
    go_ret2
    exact ⟨none, 0, 0, by rw [takeOf_bad _ _ _ _ (.inr (.inl hn))]; rfl, by rw [takeOf_bad _ _ _ _ (.inr (.inl hn))]; exact Own.nil _ _ _, Below.refl _ _⟩
  obtain ⟨q, rfl⟩ := Int.eq_ofNat_of_zero_le (Int.not_lt.1 hp)
  obtain ⟨m, rfl⟩ := Int.eq_ofNat_of_zero_le (Int.not_lt.1 hn)
  clear hp hn
  by_cases hq : s.size < q
  · go_enter Try.func37, Try.ntmps37
    go_wp2
    go_ret2
    exact ⟨none, 0, 0, by rw [takeOf_bad _ _ _ _ (.inr (.inr (by omega)))]; rfl, by rw [takeOf_bad _ _ _ _ (.inr (.inr (by omega)))]; exact Own.nil _ _ _, Below.refl _ _⟩
  have hq' : q ≤ s.size := by omega
  clear hq hp2
  by_cases hm : (s.size - q) / 4 < m
  · have h1 : ((s.size : Int) - (q : Int)) / 4 < (m : Int) := by omega
    have HM := Lib.hid hm
    clear hm
    go_enter Try.func37, Try.ntmps37
    go_wp2_with (go_at_call 58; refine (width_large _).mono ?_; rintro e w' ⟨rfl, rfl⟩)
    go_ret2
    exact ⟨none, 0, 0, by rw [takeOf_short _ _ _ _ hq' HM.out]; rfl, by rw [takeOf_short _ _ _ _ hq' HM.out]; exact Own.nil _ _ _, Below.refl _ _⟩
  have h1 : (m : Int) ≤ ((s.size : Int) - (q : Int)) / 4 := by omega
  rw [takeOf_ok _ _ _ _ hq' hm]
  have HM := Lib.hid hm
  have hms := few _ _ _ _ hm
  clear hm hn2
  obtain ⟨i0, hi, hz0, hz1, hz2⟩ := info_parts info34n
  go_enter Try.func37, Try.ntmps37
  go_wp2_with (go_at_call 58; refine (width_large _).mono ?_; rintro e w' ⟨rfl, rfl⟩)
  clear h1
  go_loopw [1, 9, 34] (fun pp v i wr => ∃ k a n c, k ≤ m ∧ i = .int .i64 (k : Nat) ∧ pp = .int .i64 ((q + k * 4 : Nat) : Int) ∧ v = .slice a n c ∧ Own wr w.heap.size 1 a n c ((takesAt s q 4 k).map (numV .u32)) ∧ Below w.heap.size w wr) (fun _ _ i _ => m - (intOf i).toNat)
  case atStart => exact ⟨0, none, 0, 0, Nat.zero_le _, rfl, by simp, rfl, Own.nil _ _ _, Below.refl _ _⟩
  case round =>
    obtain ⟨k, a2, n2, c2, hk, rfl, rfl, rfl, hown, hb⟩ := hrel
    have hl2 : n2 = k := by have := hown.len; simpa [takesAt_length] using this.symm
    subst hl2
    have HO := Lib.hid hown
    have HB := Lib.hid hb
    clear hown hb
    by_cases hlt : n2 < m
    · have hfit := fits s.size q m 4 n2 (by omega) hq' HM.out hlt
      obtain ⟨pk, hpk⟩ : ∃ pk, pk = q + n2 * 4 := ⟨_, rfl⟩
      rw [← hpk] at hfit ⊢
      have HPK := Lib.hid hpk
      clear hpk
      go_wp2
      go_loopw [10, 11] (fun x i wx => wr = wx ∧ ∃ j : Nat, j ≤ 4 ∧ i = .int .i64 ((j : Int) - 1) ∧ x = .int .u32 (numTop ((segAt s pk 4).drop j))) (fun _ i _ => (intOf i + 1).toNat)
      case atStart => exact ⟨rfl, 4, Nat.le_refl _, rfl, by rw [List.drop_eq_nil_of_le (by rw [segAt_length _ _ _ hfit]; omega)]; rfl⟩
      case round =>
        obtain ⟨rfl, j, hj, rfl, rfl⟩ := hrel
        rcases Nat.eq_zero_or_pos j with rfl | hpos
        · obtain ⟨x, hx⟩ : ∃ x, x = numTop (segAt s pk 4) := ⟨_, rfl⟩
          rw [List.drop_zero, ← hx]
          have HX := Lib.hid hx
          clear hx
          have hown := HO.out
          have hbb := HB.out
          go_wp2_with (at_builtin; refine wpList_app rfl _ _ 47 47 rfl 34 i0 (.int .u32 0) 1 4 Try.underlying47 hi hz0 hz1 hz2 rfl (by simp [Value.cells, Value.oneCell']) w.heap.size _ _ _ _ rfl (hown.alloc _) _ 1 [.int .u32 (x : Int)] rfl (Src.ofCells Try.underlying47 _ _ _ _ rfl (Cells.new _ _ _) (by simp [Value.oneCell']) (by decide)) (by simp [maxLen]; omega) (by omega) (by have := hbb.size; simp; omega) ?_; intro a4 c4 w4 hown4 hap4; have hb4 := Lib.hid ((hbb.alloc hbb.size _).trans (hap4.below (hown.alloc _) (by have := hbb.size; simp; omega))); have HO4 := Lib.hid hown4; clear hown4 hap4 hown hbb)
          go_roundw
          case rel => exact ⟨n2 + 1, a4, _, c4, by omega, by go_num, congrArg (Value.int .i64) (by have := HPK.out; omega), rfl, by have := HO4.out; rw [takesAt_succ, List.map_append, ← HPK.out, ← HX.out]; exact this, hb4.out⟩
          case measure => simp [intOf]; omega
        · obtain ⟨i, rfl⟩ : ∃ i, j = i + 1 := ⟨j - 1, by omega⟩
          have hsm := segAt_small s pk 4 (i + 1) hfit
          have hle3 : 256 ^ (4 - (i + 1)) * 256 ≤ 4294967296 := by
            rw [← Nat.pow_succ]
            exact Nat.le_trans (Nat.pow_le_pow_right (n := 256) (show 0 < 256 by omega) (show (4 - (i + 1)).succ ≤ 4 by omega)) (by decide)
          have hst := segAt_at s pk 4 i (by omega) hfit
          obtain ⟨x, hx⟩ : ∃ x, x = numTop ((segAt s pk 4).drop (i + 1)) := ⟨_, rfl⟩
          rw [← hx] at hsm hst ⊢
          rw [show (((i + 1 : Nat) : Int) - 1) = (i : Int) from by omega]
          have hxl : x * 256 < 4294967296 := by
            generalize 256 ^ (4 - (i + 1)) = z at *
            omega
          have HX := Lib.hid hx
          have HST := Lib.hid hst
          clear hx hst hsm hle3
          have hlt3 : pk + i < s.size := by omega
          have h0 : (0 : Int) ≤ (pk : Int) + (i : Int) := by omega
          have h2 : (pk : Int) + (i : Int) < (s.size : Int) := by omega
          go_wp2
          go_roundw
          case rel =>
            refine ⟨by trivial, i, by omega, rfl, ?_⟩
            rw [HST.out, or_u32 x s[pk + i].toNat _ _ (by omega) (by first | exact wrap16 _ s[pk + i].toNat_lt | rfl | (have := s[pk + i].toNat_lt; omega)) hxl s[pk + i].toNat_lt]
          case measure => simp [intOf]
    · obtain rfl : n2 = m := by omega
      go_wp2
      go_ret2
      exact ⟨a2, n2, c2, rfl, HO.out, HB.out⟩

end Go.Proofs.Ytallfhfgplgfpaa
