/-
  The reference's reading and laying of units: walked. Printed by a program of ours (genrread.py).
-/
import Derived.Test.YtmdcbpdmkonmlaaSent
import Derived.BigQuiet
import Derived.Deep.QuietTactic
namespace Go.Proofs.Ytmdcbpdmkonmlaa
open Go.RowKit

theorem two_of (s : ByteArray) (h : 2 ≤ s.size) : ∃ x y l, s = ⟨(x :: y :: l : List UInt8).toArray⟩ := by
  obtain ⟨d⟩ := s
  obtain ⟨l⟩ := d
  match l, h with
  | x :: y :: l, _ => exact ⟨x, y, l, rfl⟩
  | [x], h => simp [ByteArray.size] at h
  | [], h => simp [ByteArray.size] at h

theorem mark_bytes (s : ByteArray) (h : 2 ≤ s.size) : markOf s = if byteN s 0 = 254 ∧ byteN s 1 = 255 then some 0 else if byteN s 0 = 255 ∧ byteN s 1 = 254 then some 1 else none := by
  obtain ⟨x, y, l, rfl⟩ := two_of s h
  rw [mark_two, byteN_list (x :: y :: l) 0 x rfl, byteN_list (x :: y :: l) 1 y rfl]
  have e1 : ∀ (u : UInt8) (n : Nat), n < 256 → (u.toNat = n ↔ u = UInt8.ofNat n) := fun u n hn => by
    constructor
    · intro e; rw [← e]; simp
    · intro e; rw [e]; simp; omega
  have e2 := e1 x 254 (by decide)
  have e3 := e1 y 255 (by decide)
  have e4 := e1 x 255 (by decide)
  have e5 := e1 y 254 (by decide)
  by_cases h1 : x = 254 ∧ y = 255
  · rw [if_pos h1, if_pos ⟨e2.2 h1.1, e3.2 h1.2⟩]
  · have n1 : ¬ (x.toNat = 254 ∧ y.toNat = 255) := fun hh => h1 ⟨e2.1 hh.1, e3.1 hh.2⟩
    rw [if_neg h1, if_neg n1]
    by_cases h2 : x = 255 ∧ y = 254
    · have p2 : x.toNat = 255 ∧ y.toNat = 254 := ⟨e4.2 h2.1, e5.2 h2.2⟩
      rw [if_pos h2, if_pos p2]
    · have n2 : ¬ (x.toNat = 255 ∧ y.toNat = 254) := fun hh => h2 ⟨e4.1 hh.1, e5.1 hh.2⟩
      rw [if_neg h2, if_neg n2]

set_option maxHeartbeats 4000000 in
theorem rread_any (w : World) (o : Int) (ho : 0 ≤ o) (s : ByteArray) (hs : s.size ≤ 17592186044416) :
    Calls Try.prog 43 #[.int .u8 o, .string s] w fun e w' => ∃ a n c, e = .returned (.tuple #[.slice a n c, .int .u8 (readOf o s).2.1, .int .i64 (readOf o s).2.2]) ∧ Own w' w.heap.size 1 a n c ((readOf o s).1.map (Value.int .u16)) ∧ Below w.heap.size w w' := by
  obtain ⟨i0, hi, hz0, hz1, hz2⟩ := info_parts info22
  by_cases hk : o = 0 ∨ o = 1
  · have hd : decide (1 < o) = false := decide_eq_false (by omega)
    by_cases hodd : s.size % 2 = 1
    · have hO : readOf o s = ([], 0, 22) := by simp [readOf, hk, hodd]
      rw [hO]
      have hod : (s.size : Int) % 2 = 1 := by omega
      clear hO hk hodd
      go_enter Try.func43, Try.ntmps43
      go_wp2
      go_ret3
      exact ⟨none, 0, 0, rfl, Own.nil _ _ _, Below.refl _ _⟩
    · have hevb : ((s.size : Int) % 2 != 0) = false := by simp; omega
      have HEV := Lib.hid (show s.size % 2 = 0 by omega)
      by_cases h2 : 2 ≤ s.size
      · have h2i : (2 : Int) ≤ (s.size : Int) := by omega
        have h2d : decide ((2 : Int) ≤ (s.size : Int)) = true := decide_eq_true h2i
        have hp0 : (0 : Int) < (s.size : Int) := by omega
        have hp1 : (1 : Int) < (s.size : Int) := by omega
        have hx := byteN_at s 0 (by omega)
        have hy := byteN_at s 1 (by omega)
        have hm0 := mark_bytes s h2
        obtain ⟨b0, hb0⟩ : ∃ b, b = byteN s 0 := ⟨_, rfl⟩
        obtain ⟨b1, hb1⟩ : ∃ b, b = byteN s 1 := ⟨_, rfl⟩
        rw [← hb0] at hx hm0
        rw [← hb1] at hy hm0
        clear hb0 hb1
        by_cases hA : b0 = 254 ∧ b1 = 255
        · have hm : markOf s = some 0 := by rw [hm0, if_pos hA]
          obtain ⟨rfl, rfl⟩ := hA
          clear hm0
          rw [readOf_some hk hodd hm]
          have hbt : ∀ j, 2 + j < s.size → byteN (s.extract 2 s.size) j = byteN s (2 + j) := fun j hj => byteN_extract s 2 j hj
          have hend : readTo 0 (s.extract 2 s.size) ((s.size - 2) / 2) = readTo 0 (s.extract 2 s.size) ((s.extract 2 s.size).size / 2) := by rw [extract_size s h2]
          generalize s.extract 2 s.size = T at *
          have HBT := Lib.hid hbt
          have HEND := Lib.hid hend
          have HSZ := Lib.hid h2
          clear hm hk hodd hbt hend
          go_enter Try.func43, Try.ntmps43
          go_wp2
          go_loopw [8, 9] (fun v x wr => ∃ (i : Nat) (a : Option Addr) (n c : Nat), 2 ≤ i ∧ i ≤ s.size ∧ i % 2 = 0 ∧ x = .int .i64 i ∧ v = .slice a n c ∧ Own wr w.heap.size 1 a n c ((readTo 0 T ((i - 2) / 2)).map (Value.int .u16)) ∧ Below w.heap.size w wr) (fun _ x _ => s.size - (intOf x).toNat)
          case atStart => exact ⟨2, none, 0, 0, Nat.le_refl _, HSZ.out, rfl, rfl, rfl, Own.nil _ _ _, Below.refl _ _⟩
          case round =>
            obtain ⟨i, a2, n2, c2, hfi, hi2, hie, rfl, rfl, hown, hb⟩ := hrel
            have hn2 : n2 = (i - 2) / 2 := by have := hown.len; rw [List.length_map, readTo_length] at this; simpa using this.symm
            by_cases hlt : i < s.size
            · have hlt1 : i + 1 < s.size := by have := HEV.out; omega
              have hA := byteN_at s i hlt
              have hB := byteN_at s (i + 1) hlt1
              have hwA := wrap16 (byteN s i) (byteN_lt s i)
              have hwB := wrap16 (byteN s (i + 1)) (byteN_lt s (i + 1))
              have hlA := byteN_lt s i
              have hlB := byteN_lt s (i + 1)
              have h0 : (0 : Int) ≤ (i : Int) := by omega
              have h1 : (i : Int) < (s.size : Int) := by omega
              have h3 : (0 : Int) ≤ (i : Int) + 1 := by omega
              have h4 : (i : Int) + 1 < (s.size : Int) := by omega
              have hnb : n2 + 1 ≤ 35184372088832 := by omega
              clear hn2
              go_wp2
              go_quiet (fail)
              go_wp2_with (at_builtin; refine wpList_app rfl _ _ 31 31 rfl 22 i0 (.int .u16 0) 1 2 Try.underlying31 hi hz0 hz1 hz2 rfl (by simp [Value.cells, Value.oneCell']) w.heap.size _ _ _ _ rfl ((hown.below (below_drewN (Below.refl _ _) nq)).alloc _) _ 1 [.int .u16 (256 * (byteN s i : Int) + (byteN s (i + 1) : Int))] rfl (Src.ofCells Try.underlying31 _ _ _ _ rfl (Cells.new _ _ _) (by simp [Value.oneCell']) (by decide)) (by simp [maxLen]; omega) (by omega) (by have := hb.size; simp; omega) ?_; intro a4 c4 w4 hown4 hap4; have hb4 := Lib.hid (((below_drewN hb nq).alloc hb.size _).trans (hap4.below ((hown.below (below_drewN (Below.refl _ _) nq)).alloc _) (by have := hb.size; simp; omega))); have HO4 := Lib.hid hown4; clear hown4 hap4 hown hb)
              go_roundw
              case rel =>
                have e1 := HBT.out (i - 2) (by omega)
                have e2 := HBT.out (i - 2 + 1) (by omega)
                rw [show 2 + (i - 2) = i from by omega] at e1
                rw [show 2 + (i - 2 + 1) = i + 1 from by omega] at e2
                refine ⟨i + 2, a4, _, c4, by omega, by omega, by omega, by go_num, rfl, ?_, hb4.out⟩
                have := HO4.out
                rw [show (i + 2 - 2) / 2 = (i - 2) / 2 + 1 from by omega, readTo_succ, List.map_append, unitB_no (by decide), show 2 * ((i - 2) / 2) = i - 2 from by omega, e1, e2, Int.mul_comm _ 256]
                exact this
              case measure => simp [intOf]; omega
            · obtain rfl : s.size = i := by omega
              have H2 := Lib.hid hown
              have H3 := Lib.hid hb
              clear hown hb
              go_wp2
              go_ret3
              exact ⟨a2, n2, c2, rfl, by have h5 := H2.out; have h6 := HEND.out; rw [← h6]; exact h5, H3.out⟩
        · by_cases hB : b0 = 255 ∧ b1 = 254
          · have hm : markOf s = some 1 := by rw [hm0, if_neg hA, if_pos hB]
            obtain ⟨rfl, rfl⟩ := hB
            clear hm0 hA
            rw [readOf_some hk hodd hm]
            have hbt : ∀ j, 2 + j < s.size → byteN (s.extract 2 s.size) j = byteN s (2 + j) := fun j hj => byteN_extract s 2 j hj
            have hend : readTo 1 (s.extract 2 s.size) ((s.size - 2) / 2) = readTo 1 (s.extract 2 s.size) ((s.extract 2 s.size).size / 2) := by rw [extract_size s h2]
            generalize s.extract 2 s.size = T at *
            have HBT := Lib.hid hbt
            have HEND := Lib.hid hend
            have HSZ := Lib.hid h2
            clear hm hk hodd hbt hend
            go_enter Try.func43, Try.ntmps43
            go_wp2
            go_loopw [8, 9] (fun v x wr => ∃ (i : Nat) (a : Option Addr) (n c : Nat), 2 ≤ i ∧ i ≤ s.size ∧ i % 2 = 0 ∧ x = .int .i64 i ∧ v = .slice a n c ∧ Own wr w.heap.size 1 a n c ((readTo 1 T ((i - 2) / 2)).map (Value.int .u16)) ∧ Below w.heap.size w wr) (fun _ x _ => s.size - (intOf x).toNat)
            case atStart => exact ⟨2, none, 0, 0, Nat.le_refl _, HSZ.out, rfl, rfl, rfl, Own.nil _ _ _, Below.refl _ _⟩
            case round =>
              obtain ⟨i, a2, n2, c2, hfi, hi2, hie, rfl, rfl, hown, hb⟩ := hrel
              have hn2 : n2 = (i - 2) / 2 := by have := hown.len; rw [List.length_map, readTo_length] at this; simpa using this.symm
              by_cases hlt : i < s.size
              · have hlt1 : i + 1 < s.size := by have := HEV.out; omega
                have hA := byteN_at s i hlt
                have hB := byteN_at s (i + 1) hlt1
                have hwA := wrap16 (byteN s i) (byteN_lt s i)
                have hwB := wrap16 (byteN s (i + 1)) (byteN_lt s (i + 1))
                have hlA := byteN_lt s i
                have hlB := byteN_lt s (i + 1)
                have h0 : (0 : Int) ≤ (i : Int) := by omega
                have h1 : (i : Int) < (s.size : Int) := by omega
                have h3 : (0 : Int) ≤ (i : Int) + 1 := by omega
                have h4 : (i : Int) + 1 < (s.size : Int) := by omega
                have hnb : n2 + 1 ≤ 35184372088832 := by omega
                clear hn2
                go_wp2
                go_quiet (fail)
                go_wp2_with (at_builtin; refine wpList_app rfl _ _ 31 31 rfl 22 i0 (.int .u16 0) 1 2 Try.underlying31 hi hz0 hz1 hz2 rfl (by simp [Value.cells, Value.oneCell']) w.heap.size _ _ _ _ rfl ((hown.below (below_drewN (Below.refl _ _) nq)).alloc _) _ 1 [.int .u16 (256 * (byteN s (i + 1) : Int) + (byteN s i : Int))] rfl (Src.ofCells Try.underlying31 _ _ _ _ rfl (Cells.new _ _ _) (by simp [Value.oneCell']) (by decide)) (by simp [maxLen]; omega) (by omega) (by have := hb.size; simp; omega) ?_; intro a4 c4 w4 hown4 hap4; have hb4 := Lib.hid (((below_drewN hb nq).alloc hb.size _).trans (hap4.below ((hown.below (below_drewN (Below.refl _ _) nq)).alloc _) (by have := hb.size; simp; omega))); have HO4 := Lib.hid hown4; clear hown4 hap4 hown hb)
                go_roundw
                case rel =>
                  have e1 := HBT.out (i - 2) (by omega)
                  have e2 := HBT.out (i - 2 + 1) (by omega)
                  rw [show 2 + (i - 2) = i from by omega] at e1
                  rw [show 2 + (i - 2 + 1) = i + 1 from by omega] at e2
                  refine ⟨i + 2, a4, _, c4, by omega, by omega, by omega, by go_num, rfl, ?_, hb4.out⟩
                  have := HO4.out
                  rw [show (i + 2 - 2) / 2 = (i - 2) / 2 + 1 from by omega, readTo_succ, List.map_append, unitB_yes rfl, show 2 * ((i - 2) / 2) = i - 2 from by omega, e1, e2, Int.mul_comm _ 256]
                  exact this
                case measure => simp [intOf]; omega
              · obtain rfl : s.size = i := by omega
                have H2 := Lib.hid hown
                have H3 := Lib.hid hb
                clear hown hb
                go_wp2
                go_ret3
                exact ⟨a2, n2, c2, rfl, by have h5 := H2.out; have h6 := HEND.out; rw [← h6]; exact h5, H3.out⟩
          · have hm : markOf s = none := by rw [hm0, if_neg hA, if_neg hB]
            clear hm0
            by_cases h3 : b0 = 254
            · subst h3
              have h4 : ((b1 : Int) == 255) = false := by simp; omega
              clear hA hB
              rw [readOf_none hk hodd hm]
              have HBT := Lib.hid (show ∀ j, 0 + j < s.size → byteN s j = byteN s (0 + j) from fun j _ => by rw [Nat.zero_add])
              have HSZ := Lib.hid (Nat.zero_le s.size)
              have HEND := Lib.hid (show readTo o s ((s.size - 0) / 2) = readTo o s (s.size / 2) from rfl)
              clear hm hk hodd
              go_enter Try.func43, Try.ntmps43
              go_wp2
              go_loopw [8, 9] (fun v x wr => ∃ (i : Nat) (a : Option Addr) (n c : Nat), 0 ≤ i ∧ i ≤ s.size ∧ i % 2 = 0 ∧ x = .int .i64 i ∧ v = .slice a n c ∧ Own wr w.heap.size 1 a n c ((readTo o s ((i - 0) / 2)).map (Value.int .u16)) ∧ Below w.heap.size w wr) (fun _ x _ => s.size - (intOf x).toNat)
              case atStart => exact ⟨0, none, 0, 0, Nat.le_refl _, HSZ.out, rfl, rfl, rfl, Own.nil _ _ _, Below.refl _ _⟩
              case round =>
                obtain ⟨i, a2, n2, c2, hfi, hi2, hie, rfl, rfl, hown, hb⟩ := hrel
                have hn2 : n2 = (i - 0) / 2 := by have := hown.len; rw [List.length_map, readTo_length] at this; simpa using this.symm
                by_cases hlt : i < s.size
                · have hlt1 : i + 1 < s.size := by have := HEV.out; omega
                  have hA := byteN_at s i hlt
                  have hB := byteN_at s (i + 1) hlt1
                  have hwA := wrap16 (byteN s i) (byteN_lt s i)
                  have hwB := wrap16 (byteN s (i + 1)) (byteN_lt s (i + 1))
                  have hlA := byteN_lt s i
                  have hlB := byteN_lt s (i + 1)
                  have h0 : (0 : Int) ≤ (i : Int) := by omega
                  have h1 : (i : Int) < (s.size : Int) := by omega
                  have h3 : (0 : Int) ≤ (i : Int) + 1 := by omega
                  have h4 : (i : Int) + 1 < (s.size : Int) := by omega
                  have hnb : n2 + 1 ≤ 35184372088832 := by omega
                  clear hn2
                  cases hob : (o == 1)
                  · have ho1 := Lib.hid (show ¬ o = 1 by simpa using hob)
                    go_wp2
                    go_quiet (fail)
                    go_wp2_with (at_builtin; refine wpList_app rfl _ _ 31 31 rfl 22 i0 (.int .u16 0) 1 2 Try.underlying31 hi hz0 hz1 hz2 rfl (by simp [Value.cells, Value.oneCell']) w.heap.size _ _ _ _ rfl ((hown.below (below_drewN (Below.refl _ _) nq)).alloc _) _ 1 [.int .u16 (256 * (byteN s i : Int) + (byteN s (i + 1) : Int))] rfl (Src.ofCells Try.underlying31 _ _ _ _ rfl (Cells.new _ _ _) (by simp [Value.oneCell']) (by decide)) (by simp [maxLen]; omega) (by omega) (by have := hb.size; simp; omega) ?_; intro a4 c4 w4 hown4 hap4; have hb4 := Lib.hid (((below_drewN hb nq).alloc hb.size _).trans (hap4.below ((hown.below (below_drewN (Below.refl _ _) nq)).alloc _) (by have := hb.size; simp; omega))); have HO4 := Lib.hid hown4; clear hown4 hap4 hown hb)
                    go_roundw
                    case rel =>
                      have e1 := HBT.out (i - 0) (by omega)
                      have e2 := HBT.out (i - 0 + 1) (by omega)
                      rw [show 0 + (i - 0) = i from by omega] at e1
                      rw [show 0 + (i - 0 + 1) = i + 1 from by omega] at e2
                      refine ⟨i + 2, a4, _, c4, by omega, by omega, by omega, by go_num, rfl, ?_, hb4.out⟩
                      have := HO4.out
                      rw [show (i + 2 - 0) / 2 = (i - 0) / 2 + 1 from by omega, readTo_succ, List.map_append, unitB_no ho1.out, show 2 * ((i - 0) / 2) = i - 0 from by omega, e1, e2, Int.mul_comm _ 256]
                      exact this
                    case measure => simp [intOf]; omega
                  · have ho1 := Lib.hid (show o = 1 by simpa using hob)
                    go_wp2
                    go_quiet (fail)
                    go_wp2_with (at_builtin; refine wpList_app rfl _ _ 31 31 rfl 22 i0 (.int .u16 0) 1 2 Try.underlying31 hi hz0 hz1 hz2 rfl (by simp [Value.cells, Value.oneCell']) w.heap.size _ _ _ _ rfl ((hown.below (below_drewN (Below.refl _ _) nq)).alloc _) _ 1 [.int .u16 (256 * (byteN s (i + 1) : Int) + (byteN s i : Int))] rfl (Src.ofCells Try.underlying31 _ _ _ _ rfl (Cells.new _ _ _) (by simp [Value.oneCell']) (by decide)) (by simp [maxLen]; omega) (by omega) (by have := hb.size; simp; omega) ?_; intro a4 c4 w4 hown4 hap4; have hb4 := Lib.hid (((below_drewN hb nq).alloc hb.size _).trans (hap4.below ((hown.below (below_drewN (Below.refl _ _) nq)).alloc _) (by have := hb.size; simp; omega))); have HO4 := Lib.hid hown4; clear hown4 hap4 hown hb)
                    go_roundw
                    case rel =>
                      have e1 := HBT.out (i - 0) (by omega)
                      have e2 := HBT.out (i - 0 + 1) (by omega)
                      rw [show 0 + (i - 0) = i from by omega] at e1
                      rw [show 0 + (i - 0 + 1) = i + 1 from by omega] at e2
                      refine ⟨i + 2, a4, _, c4, by omega, by omega, by omega, by go_num, rfl, ?_, hb4.out⟩
                      have := HO4.out
                      rw [show (i + 2 - 0) / 2 = (i - 0) / 2 + 1 from by omega, readTo_succ, List.map_append, unitB_yes ho1.out, show 2 * ((i - 0) / 2) = i - 0 from by omega, e1, e2, Int.mul_comm _ 256]
                      exact this
                    case measure => simp [intOf]; omega
                · obtain rfl : s.size = i := by omega
                  have H2 := Lib.hid hown
                  have H3 := Lib.hid hb
                  clear hown hb
                  go_wp2
                  go_ret3
                  exact ⟨a2, n2, c2, rfl, by have h5 := H2.out; have h6 := HEND.out; rw [← h6]; exact h5, H3.out⟩
            · by_cases h5 : b0 = 255
              · subst h5
                have h4 : ((b1 : Int) == 254) = false := by simp; omega
                clear hA hB h3
                rw [readOf_none hk hodd hm]
                have HBT := Lib.hid (show ∀ j, 0 + j < s.size → byteN s j = byteN s (0 + j) from fun j _ => by rw [Nat.zero_add])
                have HSZ := Lib.hid (Nat.zero_le s.size)
                have HEND := Lib.hid (show readTo o s ((s.size - 0) / 2) = readTo o s (s.size / 2) from rfl)
                clear hm hk hodd
                go_enter Try.func43, Try.ntmps43
                go_wp2
                go_loopw [8, 9] (fun v x wr => ∃ (i : Nat) (a : Option Addr) (n c : Nat), 0 ≤ i ∧ i ≤ s.size ∧ i % 2 = 0 ∧ x = .int .i64 i ∧ v = .slice a n c ∧ Own wr w.heap.size 1 a n c ((readTo o s ((i - 0) / 2)).map (Value.int .u16)) ∧ Below w.heap.size w wr) (fun _ x _ => s.size - (intOf x).toNat)
                case atStart => exact ⟨0, none, 0, 0, Nat.le_refl _, HSZ.out, rfl, rfl, rfl, Own.nil _ _ _, Below.refl _ _⟩
                case round =>
                  obtain ⟨i, a2, n2, c2, hfi, hi2, hie, rfl, rfl, hown, hb⟩ := hrel
                  have hn2 : n2 = (i - 0) / 2 := by have := hown.len; rw [List.length_map, readTo_length] at this; simpa using this.symm
                  by_cases hlt : i < s.size
                  · have hlt1 : i + 1 < s.size := by have := HEV.out; omega
                    have hA := byteN_at s i hlt
                    have hB := byteN_at s (i + 1) hlt1
                    have hwA := wrap16 (byteN s i) (byteN_lt s i)
                    have hwB := wrap16 (byteN s (i + 1)) (byteN_lt s (i + 1))
                    have hlA := byteN_lt s i
                    have hlB := byteN_lt s (i + 1)
                    have h0 : (0 : Int) ≤ (i : Int) := by omega
                    have h1 : (i : Int) < (s.size : Int) := by omega
                    have h3 : (0 : Int) ≤ (i : Int) + 1 := by omega
                    have h4 : (i : Int) + 1 < (s.size : Int) := by omega
                    have hnb : n2 + 1 ≤ 35184372088832 := by omega
                    clear hn2
                    cases hob : (o == 1)
                    · have ho1 := Lib.hid (show ¬ o = 1 by simpa using hob)
                      go_wp2
                      go_quiet (fail)
                      go_wp2_with (at_builtin; refine wpList_app rfl _ _ 31 31 rfl 22 i0 (.int .u16 0) 1 2 Try.underlying31 hi hz0 hz1 hz2 rfl (by simp [Value.cells, Value.oneCell']) w.heap.size _ _ _ _ rfl ((hown.below (below_drewN (Below.refl _ _) nq)).alloc _) _ 1 [.int .u16 (256 * (byteN s i : Int) + (byteN s (i + 1) : Int))] rfl (Src.ofCells Try.underlying31 _ _ _ _ rfl (Cells.new _ _ _) (by simp [Value.oneCell']) (by decide)) (by simp [maxLen]; omega) (by omega) (by have := hb.size; simp; omega) ?_; intro a4 c4 w4 hown4 hap4; have hb4 := Lib.hid (((below_drewN hb nq).alloc hb.size _).trans (hap4.below ((hown.below (below_drewN (Below.refl _ _) nq)).alloc _) (by have := hb.size; simp; omega))); have HO4 := Lib.hid hown4; clear hown4 hap4 hown hb)
                      go_roundw
                      case rel =>
                        have e1 := HBT.out (i - 0) (by omega)
                        have e2 := HBT.out (i - 0 + 1) (by omega)
                        rw [show 0 + (i - 0) = i from by omega] at e1
                        rw [show 0 + (i - 0 + 1) = i + 1 from by omega] at e2
                        refine ⟨i + 2, a4, _, c4, by omega, by omega, by omega, by go_num, rfl, ?_, hb4.out⟩
                        have := HO4.out
                        rw [show (i + 2 - 0) / 2 = (i - 0) / 2 + 1 from by omega, readTo_succ, List.map_append, unitB_no ho1.out, show 2 * ((i - 0) / 2) = i - 0 from by omega, e1, e2, Int.mul_comm _ 256]
                        exact this
                      case measure => simp [intOf]; omega
                    · have ho1 := Lib.hid (show o = 1 by simpa using hob)
                      go_wp2
                      go_quiet (fail)
                      go_wp2_with (at_builtin; refine wpList_app rfl _ _ 31 31 rfl 22 i0 (.int .u16 0) 1 2 Try.underlying31 hi hz0 hz1 hz2 rfl (by simp [Value.cells, Value.oneCell']) w.heap.size _ _ _ _ rfl ((hown.below (below_drewN (Below.refl _ _) nq)).alloc _) _ 1 [.int .u16 (256 * (byteN s (i + 1) : Int) + (byteN s i : Int))] rfl (Src.ofCells Try.underlying31 _ _ _ _ rfl (Cells.new _ _ _) (by simp [Value.oneCell']) (by decide)) (by simp [maxLen]; omega) (by omega) (by have := hb.size; simp; omega) ?_; intro a4 c4 w4 hown4 hap4; have hb4 := Lib.hid (((below_drewN hb nq).alloc hb.size _).trans (hap4.below ((hown.below (below_drewN (Below.refl _ _) nq)).alloc _) (by have := hb.size; simp; omega))); have HO4 := Lib.hid hown4; clear hown4 hap4 hown hb)
                      go_roundw
                      case rel =>
                        have e1 := HBT.out (i - 0) (by omega)
                        have e2 := HBT.out (i - 0 + 1) (by omega)
                        rw [show 0 + (i - 0) = i from by omega] at e1
                        rw [show 0 + (i - 0 + 1) = i + 1 from by omega] at e2
                        refine ⟨i + 2, a4, _, c4, by omega, by omega, by omega, by go_num, rfl, ?_, hb4.out⟩
                        have := HO4.out
                        rw [show (i + 2 - 0) / 2 = (i - 0) / 2 + 1 from by omega, readTo_succ, List.map_append, unitB_yes ho1.out, show 2 * ((i - 0) / 2) = i - 0 from by omega, e1, e2, Int.mul_comm _ 256]
                        exact this
                      case measure => simp [intOf]; omega
                  · obtain rfl : s.size = i := by omega
                    have H2 := Lib.hid hown
                    have H3 := Lib.hid hb
                    clear hown hb
                    go_wp2
                    go_ret3
                    exact ⟨a2, n2, c2, rfl, by have h5 := H2.out; have h6 := HEND.out; rw [← h6]; exact h5, H3.out⟩
              · have h4 : ((b0 : Int) == 254) = false := by simp; omega
                have h6 : ((b0 : Int) == 255) = false := by simp; omega
                clear hA hB h3 h5
                rw [readOf_none hk hodd hm]
                have HBT := Lib.hid (show ∀ j, 0 + j < s.size → byteN s j = byteN s (0 + j) from fun j _ => by rw [Nat.zero_add])
                have HSZ := Lib.hid (Nat.zero_le s.size)
                have HEND := Lib.hid (show readTo o s ((s.size - 0) / 2) = readTo o s (s.size / 2) from rfl)
                clear hm hk hodd
                go_enter Try.func43, Try.ntmps43
                go_wp2
                go_loopw [8, 9] (fun v x wr => ∃ (i : Nat) (a : Option Addr) (n c : Nat), 0 ≤ i ∧ i ≤ s.size ∧ i % 2 = 0 ∧ x = .int .i64 i ∧ v = .slice a n c ∧ Own wr w.heap.size 1 a n c ((readTo o s ((i - 0) / 2)).map (Value.int .u16)) ∧ Below w.heap.size w wr) (fun _ x _ => s.size - (intOf x).toNat)
                case atStart => exact ⟨0, none, 0, 0, Nat.le_refl _, HSZ.out, rfl, rfl, rfl, Own.nil _ _ _, Below.refl _ _⟩
                case round =>
                  obtain ⟨i, a2, n2, c2, hfi, hi2, hie, rfl, rfl, hown, hb⟩ := hrel
                  have hn2 : n2 = (i - 0) / 2 := by have := hown.len; rw [List.length_map, readTo_length] at this; simpa using this.symm
                  by_cases hlt : i < s.size
                  · have hlt1 : i + 1 < s.size := by have := HEV.out; omega
                    have hA := byteN_at s i hlt
                    have hB := byteN_at s (i + 1) hlt1
                    have hwA := wrap16 (byteN s i) (byteN_lt s i)
                    have hwB := wrap16 (byteN s (i + 1)) (byteN_lt s (i + 1))
                    have hlA := byteN_lt s i
                    have hlB := byteN_lt s (i + 1)
                    have h0 : (0 : Int) ≤ (i : Int) := by omega
                    have h1 : (i : Int) < (s.size : Int) := by omega
                    have h3 : (0 : Int) ≤ (i : Int) + 1 := by omega
                    have h4 : (i : Int) + 1 < (s.size : Int) := by omega
                    have hnb : n2 + 1 ≤ 35184372088832 := by omega
                    clear hn2
                    cases hob : (o == 1)
                    · have ho1 := Lib.hid (show ¬ o = 1 by simpa using hob)
                      go_wp2
                      go_quiet (fail)
                      go_wp2_with (at_builtin; refine wpList_app rfl _ _ 31 31 rfl 22 i0 (.int .u16 0) 1 2 Try.underlying31 hi hz0 hz1 hz2 rfl (by simp [Value.cells, Value.oneCell']) w.heap.size _ _ _ _ rfl ((hown.below (below_drewN (Below.refl _ _) nq)).alloc _) _ 1 [.int .u16 (256 * (byteN s i : Int) + (byteN s (i + 1) : Int))] rfl (Src.ofCells Try.underlying31 _ _ _ _ rfl (Cells.new _ _ _) (by simp [Value.oneCell']) (by decide)) (by simp [maxLen]; omega) (by omega) (by have := hb.size; simp; omega) ?_; intro a4 c4 w4 hown4 hap4; have hb4 := Lib.hid (((below_drewN hb nq).alloc hb.size _).trans (hap4.below ((hown.below (below_drewN (Below.refl _ _) nq)).alloc _) (by have := hb.size; simp; omega))); have HO4 := Lib.hid hown4; clear hown4 hap4 hown hb)
                      go_roundw
                      case rel =>
                        have e1 := HBT.out (i - 0) (by omega)
                        have e2 := HBT.out (i - 0 + 1) (by omega)
                        rw [show 0 + (i - 0) = i from by omega] at e1
                        rw [show 0 + (i - 0 + 1) = i + 1 from by omega] at e2
                        refine ⟨i + 2, a4, _, c4, by omega, by omega, by omega, by go_num, rfl, ?_, hb4.out⟩
                        have := HO4.out
                        rw [show (i + 2 - 0) / 2 = (i - 0) / 2 + 1 from by omega, readTo_succ, List.map_append, unitB_no ho1.out, show 2 * ((i - 0) / 2) = i - 0 from by omega, e1, e2, Int.mul_comm _ 256]
                        exact this
                      case measure => simp [intOf]; omega
                    · have ho1 := Lib.hid (show o = 1 by simpa using hob)
                      go_wp2
                      go_quiet (fail)
                      go_wp2_with (at_builtin; refine wpList_app rfl _ _ 31 31 rfl 22 i0 (.int .u16 0) 1 2 Try.underlying31 hi hz0 hz1 hz2 rfl (by simp [Value.cells, Value.oneCell']) w.heap.size _ _ _ _ rfl ((hown.below (below_drewN (Below.refl _ _) nq)).alloc _) _ 1 [.int .u16 (256 * (byteN s (i + 1) : Int) + (byteN s i : Int))] rfl (Src.ofCells Try.underlying31 _ _ _ _ rfl (Cells.new _ _ _) (by simp [Value.oneCell']) (by decide)) (by simp [maxLen]; omega) (by omega) (by have := hb.size; simp; omega) ?_; intro a4 c4 w4 hown4 hap4; have hb4 := Lib.hid (((below_drewN hb nq).alloc hb.size _).trans (hap4.below ((hown.below (below_drewN (Below.refl _ _) nq)).alloc _) (by have := hb.size; simp; omega))); have HO4 := Lib.hid hown4; clear hown4 hap4 hown hb)
                      go_roundw
                      case rel =>
                        have e1 := HBT.out (i - 0) (by omega)
                        have e2 := HBT.out (i - 0 + 1) (by omega)
                        rw [show 0 + (i - 0) = i from by omega] at e1
                        rw [show 0 + (i - 0 + 1) = i + 1 from by omega] at e2
                        refine ⟨i + 2, a4, _, c4, by omega, by omega, by omega, by go_num, rfl, ?_, hb4.out⟩
                        have := HO4.out
                        rw [show (i + 2 - 0) / 2 = (i - 0) / 2 + 1 from by omega, readTo_succ, List.map_append, unitB_yes ho1.out, show 2 * ((i - 0) / 2) = i - 0 from by omega, e1, e2, Int.mul_comm _ 256]
                        exact this
                      case measure => simp [intOf]; omega
                  · obtain rfl : s.size = i := by omega
                    have H2 := Lib.hid hown
                    have H3 := Lib.hid hb
                    clear hown hb
                    go_wp2
                    go_ret3
                    exact ⟨a2, n2, c2, rfl, by have h5 := H2.out; have h6 := HEND.out; rw [← h6]; exact h5, H3.out⟩
      · have hm : markOf s = none := by unfold markOf; rw [if_neg h2]
        rw [readOf_none hk hodd hm]
        have h2d : decide ((2 : Int) ≤ (s.size : Int)) = false := decide_eq_false (by omega)
        have HZ := Lib.hid (show s.size = 0 by omega)
        clear hm hk hodd
        go_enter Try.func43, Try.ntmps43
        go_wp2
        go_loopw [8, 9] (fun v x wr => x = .int .i64 0 ∧ v = .slice none 0 0 ∧ w = wr) (fun _ _ _ => 0)
        case atStart => exact ⟨rfl, rfl, rfl⟩
        case round =>
          obtain ⟨rfl, rfl, rfl⟩ := hrel
          have hz := HZ.out
          have hz1 : ¬ (0 : Int) < (s.size : Int) := by omega
          have hz2 : ¬ 0 < s.size := by omega
          go_wp2
          go_ret3
          exact ⟨none, 0, 0, rfl, by exact Own.nil _ _ _, Below.refl _ _⟩
  · have hd : decide (1 < o) = true := decide_eq_true (by omega)
    have hd1 : 1 < o := by omega
    have hO : readOf o s = ([], 0, 2) := by simp [readOf, hk]
    rw [hO]
    clear hO hk
    go_enter Try.func43, Try.ntmps43
    go_wp2
    go_ret3
    exact ⟨none, 0, 0, rfl, Own.nil _ _ _, Below.refl _ _⟩

set_option maxHeartbeats 1000000 in
theorem rbytes_any (w : World) (o u : Int) (h0 : 0 ≤ u) (h1 : u ≤ 65535) (ho : o = 0 ∨ o = 1) :
    Calls Try.prog 62 #[.int .u8 o, .int .u16 u] w fun e w' => e = .returned (.string ⟨(layBytes o u).toArray⟩) ∧ Below w.heap.size w w' := by
  have cv : ∀ (l : List UInt8) (hl : l.length = 2) (V : List Value) (hV : V = l.map byteV), (convert 80 9 (.slice (some ⟨w.heap.size, 0, none⟩) 2 2)).run Try.prog (w.alloc (.cells V.toArray 5)) = .ok (.string ⟨l.toArray⟩) (w.alloc (.cells V.toArray 5)) := fun l hl V hV => by
    subst hV
    exact run_str (P := Try.prog) (w := w.alloc (.cells (l.map byteV).toArray 5)) 80 9 5 Try.underlying80 Try.underlying5 Try.underlying9 (some ⟨w.heap.size, 0, none⟩) 2 2 l hl (Cells.new w (l.map byteV) 5)
  have ew : IntKind.u16.wrap (u.tdiv 256) % 256 = u / 256 := by
    rw [Int.tdiv_eq_ediv_of_nonneg h0]
    simp [IntKind.wrap, IntKind.signed, IntKind.bits]
    omega
  rcases ho with rfl | rfl
  · have c1 := cv (layBytes 0 u) (layBytes_length _ _) [.int .u8 (IntKind.u16.wrap (u.tdiv 256) % 256), .int .u8 (u % 256)] (by rw [ew]; exact (layBytes_first u h0 h1).symm)
    clear cv ew
    go_enter Try.func62, Try.ntmps62
    go_wp2
    go_ret
    exact ⟨rfl, (Below.refl _ _).alloc (Nat.le_refl _) _⟩
  · have c1 := cv (layBytes 1 u) (layBytes_length _ _) [.int .u8 (u % 256), .int .u8 (IntKind.u16.wrap (u.tdiv 256) % 256)] (by rw [ew]; exact (layBytes_second 1 u (by decide) h0 h1).symm)
    clear cv ew
    go_enter Try.func62, Try.ntmps62
    go_wp2
    go_ret
    exact ⟨rfl, (Below.refl _ _).alloc (Nat.le_refl _) _⟩

theorem str_append (l m : List UInt8) : (⟨l.toArray⟩ : ByteArray) ++ ⟨m.toArray⟩ = ⟨(l ++ m).toArray⟩ := by
  apply ByteArray.ext
  simp

set_option maxHeartbeats 2000000 in
theorem rlay_any (w : World) (o : Int) (ho : 0 ≤ o) (m : Bool) (a : Option Addr) (c : Nat) (us : List Int) (hn : us.length ≤ 17592186044416) (hr : Cells w a (us.map (Value.int .u16))) (hwf : ∀ u ∈ us, 0 ≤ u ∧ u ≤ 65535) :
    Calls Try.prog 40 #[.int .u8 o, .bool m, .slice a us.length c] w fun e w' => e = .returned (.tuple #[.string (layOf o m us).1, .int .i64 (layOf o m us).2]) ∧ Below w.heap.size w w' := by
  by_cases hk : o = 0 ∨ o = 1
  · have hd : decide (1 < o) = false := decide_eq_false (by omega)
    rw [layOf_good m us hk]
    have HR := Lib.hid hr
    have HWF := Lib.hid hwf
    have HK := Lib.hid hk
    clear hr hwf hk
    cases m
    · go_enter Try.func40, Try.ntmps40
      go_wp2
      go_loopw [8, 9] (fun v i wr => ∃ (k : Nat), k ≤ us.length ∧ i = .int .i64 k ∧ v = .string ⟨(markBytes o false ++ laidUnits o (us.take k)).toArray⟩ ∧ Below w.heap.size w wr) (fun _ i _ => us.length - (intOf i).toNat)
      case atStart => exact ⟨0, Nat.zero_le _, rfl, by simp [laidUnits, markBytes], Below.refl _ _⟩
      case round =>
        obtain ⟨k, hk, rfl, rfl, hb⟩ := hrel
        by_cases hlt : k < us.length
        · obtain ⟨b, off, u, rfl, huk, hck⟩ := (HR.out.below hb).at hlt
          have hu := HWF.out u (List.mem_of_getElem? huk)
          obtain ⟨hu0, hu1⟩ := hu
          obtain ⟨P, hP⟩ : ∃ P, P = markBytes o false ++ laidUnits o (us.take k) := ⟨_, rfl⟩
          have hPl : P.length ≤ 2 * us.length + 2 := by
            rw [hP, List.length_append, laidUnits_length, List.length_take, Nat.min_eq_left hk, markBytes_length]
            simp
            try omega
          have hPs : (⟨P.toArray⟩ : ByteArray).size ≤ 140737488355328 := by rw [laid_size]; omega
          rw [← hP]
          have hsz : (⟨(layBytes o u).toArray⟩ : ByteArray).size = 2 := by rw [laid_size, layBytes_length]
          have H1 := Lib.hid huk
          have H3 := Lib.hid hb
          have HP := Lib.hid hP
          clear huk hb hP
          have h0 : (0 : Int) ≤ (k : Int) := by omega
          have h1 : (k : Int) < (us.length : Int) := by omega
          go_wp2_with (go_at_call 62; refine (rbytes_any _ o u hu0 hu1 HK.out).mono ?_; rintro e w4 ⟨rfl, hb4⟩)
          have H5 := Lib.hid hb4
          clear hb4 hsz hPs
          go_roundw
          case rel => exact ⟨k + 1, by omega, by go_num, by rw [laidUnits_snoc o us k u H1.out, ← List.append_assoc, ← HP.out]; simp [str_append], after H3.out H5.out⟩
          case measure => simp [intOf]; omega
        · obtain rfl : us.length = k := by omega
          have H3 := Lib.hid hb
          clear hb
          go_wp2
          go_ret2
          exact ⟨by rw [List.take_of_length_le (Nat.le_refl _)]; rfl, H3.out⟩
    · go_enter Try.func40, Try.ntmps40
      go_wp2_with (go_at_call 62; refine (rbytes_any _ o 65279 (by omega) (by omega) HK.out).mono ?_; rintro e w1 ⟨rfl, hb1⟩)
      have HB1 := Lib.hid hb1
      clear hb1
      go_loopw [8, 9] (fun v i wr => ∃ (k : Nat), k ≤ us.length ∧ i = .int .i64 k ∧ v = .string ⟨(markBytes o true ++ laidUnits o (us.take k)).toArray⟩ ∧ Below w.heap.size w wr) (fun _ i _ => us.length - (intOf i).toNat)
      case atStart => exact ⟨0, Nat.zero_le _, rfl, by simp [laidUnits, markBytes], HB1.out⟩
      case round =>
        obtain ⟨k, hk, rfl, rfl, hb⟩ := hrel
        by_cases hlt : k < us.length
        · obtain ⟨b, off, u, rfl, huk, hck⟩ := (HR.out.below hb).at hlt
          have hu := HWF.out u (List.mem_of_getElem? huk)
          obtain ⟨hu0, hu1⟩ := hu
          obtain ⟨P, hP⟩ : ∃ P, P = markBytes o true ++ laidUnits o (us.take k) := ⟨_, rfl⟩
          have hPl : P.length ≤ 2 * us.length + 2 := by
            rw [hP, List.length_append, laidUnits_length, List.length_take, Nat.min_eq_left hk, markBytes_length]
            simp
            try omega
          have hPs : (⟨P.toArray⟩ : ByteArray).size ≤ 140737488355328 := by rw [laid_size]; omega
          rw [← hP]
          have hsz : (⟨(layBytes o u).toArray⟩ : ByteArray).size = 2 := by rw [laid_size, layBytes_length]
          have H1 := Lib.hid huk
          have H3 := Lib.hid hb
          have HP := Lib.hid hP
          clear huk hb hP
          have h0 : (0 : Int) ≤ (k : Int) := by omega
          have h1 : (k : Int) < (us.length : Int) := by omega
          go_wp2_with (go_at_call 62; refine (rbytes_any _ o u hu0 hu1 HK.out).mono ?_; rintro e w4 ⟨rfl, hb4⟩)
          have H5 := Lib.hid hb4
          clear hb4 hsz hPs
          go_roundw
          case rel => exact ⟨k + 1, by omega, by go_num, by rw [laidUnits_snoc o us k u H1.out, ← List.append_assoc, ← HP.out]; simp [str_append], after H3.out H5.out⟩
          case measure => simp [intOf]; omega
        · obtain rfl : us.length = k := by omega
          have H3 := Lib.hid hb
          clear hb
          go_wp2
          go_ret2
          exact ⟨by rw [List.take_of_length_le (Nat.le_refl _)]; rfl, H3.out⟩
  · have hd : decide (1 < o) = true := decide_eq_true (by omega)
    have hd1 : 1 < o := by omega
    rw [layOf_bad m us hk]
    clear hk hr
    go_enter Try.func40, Try.ntmps40
    go_wp2
    go_ret2
    exact ⟨rfl, Below.refl _ _⟩

end Go.Proofs.Ytmdcbpdmkonmlaa
