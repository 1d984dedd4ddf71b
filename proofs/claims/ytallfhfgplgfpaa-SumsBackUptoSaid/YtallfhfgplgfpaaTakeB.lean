/-
  Take at 'large', for texts of up to 8 MiB: walked. Printed by a program of ours (genback.py).
-/
import Derived.Test.YtallfhfgplgfpaaTakes
namespace Go.Proofs.Ytallfhfgplgfpaa
open Go.RowKit

set_option maxRecDepth 20000 in
set_option maxHeartbeats 2000000 in
theorem takeb_large (s : ByteArray) (p n : Int) (w : World) (hs : s.size ≤ 8388608) (hpw : (Lit.int .i64 p).wf = true) (hnw : (Lit.int .i64 n).wf = true) :
    Calls Try.prog 37 #[.string s, .int .i64 p, .int .i64 n] w fun e w' => ∃ a m c, e = .returned (.tuple #[.slice a m c, .int .i64 (takeOf s p n 4).2]) ∧ Own w' w.heap.size 1 a m c ((takeOf s p n 4).1.map (numV .u32)) ∧ Below w.heap.size w w' := by
  have hp2 : (-9223372036854775808 : Int) ≤ p ∧ p ≤ 9223372036854775807 := by simpa [Lit.wf, IntKind.min, IntKind.max, IntKind.signed, IntKind.bits] using hpw
  have hn2 : (-9223372036854775808 : Int) ≤ n ∧ n ≤ 9223372036854775807 := by simpa [Lit.wf, IntKind.min, IntKind.max, IntKind.signed, IntKind.bits] using hnw
  clear hpw hnw
  by_cases hp : p < 0
  · go_enter Try.func37, Try.ntmps37
    go_wp2
    go_ret2
    exact ⟨none, 0, 0, by rw [takeOf_bad _ _ _ _ (.inl hp)]; rfl, by rw [takeOf_bad _ _ _ _ (.inl hp)]; exact Own.nil _ _ _, Below.refl _ _⟩
  by_cases hn : n < 0
  · go_enter Try.func37, Try.ntmps37
    go_wp2
    go_ret2
    exact ⟨none, 0, 0, by rw [takeOf_bad _ _ _ _ (.inr (.inl hn))]; rfl, by rw [takeOf_bad _ _ _ _ (.inr (.inl hn))]; exact Own.nil _ _ _, Below.refl _ _⟩
  obtain ⟨q, rfl⟩ := Int.eq_ofNat_of_zero_le (Int.not_lt.1 hp)
  obtain ⟨m, rfl⟩ := Int.eq_ofNat_of_zero_le (Int.not_lt.1 hn)
  clear hp hn
  by_cases hq : s.size < q
  · go_enter Try.func37, Try.ntmps37
    go_wp2
    go_ret2
    exact ⟨none, 0, 0, by rw [takeOf_bad _ _ _ _ (.inr (.inr (by omega)))]; rfl, by rw [takeOf_bad _ _ _ _ (.inr (.inr (by omega)))]; exact Own.nil _ _ _, Below.refl _ _⟩
  have hq' : q ≤ s.size := by omega
  clear hq hp2
  by_cases hm : (s.size - q) / 4 < m
  · have h1 : ((s.size : Int) - (q : Int)) / 4 < (m : Int) := by omega
    have HM := Lib.hid hm
    clear hm
    go_enter Try.func37, Try.ntmps37
    go_wp2_with (go_at_call 58; refine (width_large _).mono ?_; rintro e w' ⟨rfl, rfl⟩)
    go_ret2
    exact ⟨none, 0, 0, by rw [takeOf_short _ _ _ _ hq' HM.out]; rfl, by rw [takeOf_short _ _ _ _ hq' HM.out]; exact Own.nil _ _ _, Below.refl _ _⟩
  have h1 : (m : Int) ≤ ((s.size : Int) - (q : Int)) / 4 := by omega
  rw [takeOf_ok _ _ _ _ hq' hm]
  have HM := Lib.hid hm
  have hms := few _ _ _ _ hm
  clear hm hn2
  obtain ⟨i0, hi, hz0, hz1, hz2⟩ := info_parts info34n
  go_enter Try.func37, Try.ntmps37
  go_wp2_with (go_at_call 58; refine (width_large _).mono ?_; rintro e w' ⟨rfl, rfl⟩)
  clear h1
  go_loopw [1, 9, 34] (fun pp v i wr => ∃ k a n c, k ≤ m ∧ i = .int .i64 (k : Nat) ∧ pp = .int .i64 ((q + k * 4 : Nat) : Int) ∧ v = .slice a n c ∧ Own wr w.heap.size 1 a n c ((takesAt s q 4 k).map (numV .u32)) ∧ Below w.heap.size w wr) (fun _ _ i _ => m - (intOf i).toNat)
  case atStart => exact ⟨0, none, 0, 0, Nat.zero_le _, rfl, by simp, rfl, Own.nil _ _ _, Below.refl _ _⟩
  case round =>
    obtain ⟨k, a2, n2, c2, hk, rfl, rfl, rfl, hown, hb⟩ := hrel
    have hl2 : n2 = k := by have := hown.len; simpa [takesAt_length] using this.symm
    subst hl2
    have HO := Lib.hid hown
    have HB := Lib.hid hb
    clear hown hb
    by_cases hlt : n2 < m
    · have hfit := fits s.size q m 4 n2 (by omega) hq' HM.out hlt
      obtain ⟨pk, hpk⟩ : ∃ pk, pk = q + n2 * 4 := ⟨_, rfl⟩
      rw [← hpk] at hfit ⊢
      have HPK := Lib.hid hpk
      clear hpk
      go_wp2
      go_loopw [10, 11] (fun x i wx => wr = wx ∧ ∃ j : Nat, j ≤ 4 ∧ i = .int .i64 ((j : Int) - 1) ∧ x = .int .u32 (numTop ((segAt s pk 4).drop j))) (fun _ i _ => (intOf i + 1).toNat)
      case atStart => exact ⟨rfl, 4, Nat.le_refl _, rfl, by rw [List.drop_eq_nil_of_le (by rw [segAt_length _ _ _ hfit]; omega)]; rfl⟩
      case round =>
        obtain ⟨rfl, j, hj, rfl, rfl⟩ := hrel
        rcases Nat.eq_zero_or_pos j with rfl | hpos
        · obtain ⟨x, hx⟩ : ∃ x, x = numTop (segAt s pk 4) := ⟨_, rfl⟩
          rw [List.drop_zero, ← hx]
          have HX := Lib.hid hx
          clear hx
          have hown := HO.out
          have hbb := HB.out
          go_wp2_with (at_builtin; refine wpList_app rfl _ _ 47 47 rfl 34 i0 (.int .u32 0) 1 4 Try.underlying47 hi hz0 hz1 hz2 rfl (by simp [Value.cells, Value.oneCell']) w.heap.size _ _ _ _ rfl (hown.alloc _) _ 1 [.int .u32 (x : Int)] rfl (Src.ofCells Try.underlying47 _ _ _ _ rfl (Cells.new _ _ _) (by simp [Value.oneCell']) (by decide)) (by simp [maxLen]; omega) (by omega) (by have := hbb.size; simp; omega) ?_; intro a4 c4 w4 hown4 hap4; have hb4 := Lib.hid ((hbb.alloc hbb.size _).trans (hap4.below (hown.alloc _) (by have := hbb.size; simp; omega))); have HO4 := Lib.hid hown4; clear hown4 hap4 hown hbb)
          go_roundw
          case rel => exact ⟨n2 + 1, a4, _, c4, by omega, by go_num, congrArg (Value.int .i64) (by have := HPK.out; omega), rfl, by have := HO4.out; rw [takesAt_succ, List.map_append, ← HPK.out, ← HX.out]; exact this, hb4.out⟩
          case measure => simp [intOf]; omega
        · obtain ⟨i, rfl⟩ : ∃ i, j = i + 1 := ⟨j - 1, by omega⟩
          have hsm := segAt_small s pk 4 (i + 1) hfit
          have hle3 : 256 ^ (4 - (i + 1)) * 256 ≤ 4294967296 := by
            rw [← Nat.pow_succ]
            exact Nat.le_trans (Nat.pow_le_pow_right (n := 256) (show 0 < 256 by omega) (show (4 - (i + 1)).succ ≤ 4 by omega)) (by decide)
          have hst := segAt_at s pk 4 i (by omega) hfit
          obtain ⟨x, hx⟩ : ∃ x, x = numTop ((segAt s pk 4).drop (i + 1)) := ⟨_, rfl⟩
          rw [← hx] at hsm hst ⊢
          rw [show (((i + 1 : Nat) : Int) - 1) = (i : Int) from by omega]
          have hxl : x * 256 < 4294967296 := by
            generalize 256 ^ (4 - (i + 1)) = z at *
            omega
          have HX := Lib.hid hx
          have HST := Lib.hid hst
          clear hx hst hsm hle3
          have hlt3 : pk + i < s.size := by omega
          have h0 : (0 : Int) ≤ (pk : Int) + (i : Int) := by omega
          have h2 : (pk : Int) + (i : Int) < (s.size : Int) := by omega
          go_wp2
          go_roundw
          case rel =>
            refine ⟨by trivial, i, by omega, rfl, ?_⟩
            rw [HST.out, or_u32 x s[pk + i].toNat _ _ (by omega) (by first | exact wrap16 _ s[pk + i].toNat_lt | rfl | (have := s[pk + i].toNat_lt; omega)) hxl s[pk + i].toNat_lt]
          case measure => simp [intOf]
    · obtain rfl : n2 = m := by omega
      go_wp2
      go_ret2
      exact ⟨a2, n2, c2, rfl, HO.out, HB.out⟩

end Go.Proofs.Ytallfhfgplgfpaa
