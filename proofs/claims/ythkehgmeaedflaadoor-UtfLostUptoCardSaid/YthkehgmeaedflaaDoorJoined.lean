/-
  The walk of the law UtfJoined.
-/
import Derived.Test.YthkehgmeaedflaaDoorLives
import Derived.Test.YthkehgmeaedflaaDoorJoinM
import Derived.IntWalk
namespace Go.Proofs.YthkehgmeaedflaaDoor
open Go.RowKit

theorem list_empty {s : ByteArray} (h : s.size = 0) : s = ⟨#[]⟩ := by
  cases s with
  | mk d =>
    have : d = #[] := Array.eq_empty_of_size_eq_zero h
    rw [this]
theorem not_empty {s : ByteArray} (h : 0 < s.size) : s.toList.isEmpty = false := by
  rw [Lib.toList_data]
  cases he : s.data.toList with
  | nil =>
    have := size_list s
    rw [he] at this
    simp at this
    omega
  | cons _ _ => rfl
theorem is_empty {s : ByteArray} (h : s.size = 0) : s.toList.isEmpty = true := by
  rw [Lib.toList_data, list_empty h]
  rfl

set_option maxRecDepth 20000 in
set_option maxHeartbeats 4000000 in
/-- A text that is not asked. -/
theorem joined_off (w : World) (s t : ByteArray) (hs : s.size ≤ 1048576) (ht : t.size ≤ 1048576) (hT : Lib.Utf8Tabs 0 1 w) (hc : (checkOf s).2 ≠ 0) (h0 : 0 < t.size) (hl : 128 ≤ t[0].toNat) (hh : t[0].toNat ≤ 191) :
    Calls Tryd.prog 3 #[.string s, .string t] w fun e w' => e = .returned (.bool true) ∧ Below w.heap.size w w' := by
  obtain ⟨b, hb⟩ : ∃ b, t[0].toNat = b := ⟨_, rfl⟩
  rw [hb] at hl hh
  have C := check_any w s (by omega) hT
  generalize checkOf s = c at *
  obtain ⟨p, q⟩ := c
  have hq : ((q : Int) != 0) = true := by have hc' : ¬ q = 0 := hc; simp [hc']
  have hz0 : (0 : Int) < (t.size : Int) := by omega
  have hli : (128 : Int) ≤ (b : Int) := by omega
  have hhi : (b : Int) ≤ 191 := by omega
  have e2 := not_empty h0
  have HT := Lib.hid hT
  have HC := Lib.hid C
  clear C hT hc hl hh
  go_enter Tryd.func3, Tryd.ntmps3
  go_wp2_with (first
    | (go_at_call 15; refine HC.out.mono ?_; rintro e w1 ⟨rfl, hb1⟩; have HB1 := Lib.hid hb1; clear hb1)
    | (go_at_call 16; refine (lives_any _ ?_).mono ?_; exact tabs_below HT.out HB1.out; rintro e w2 ⟨rfl, hb2⟩))
  go_ret
  exact ⟨rfl, after HB1.out hb2⟩

set_option maxRecDepth 20000 in
set_option maxHeartbeats 4000000 in
/-- A text that is asked. -/
theorem joined_on (w : World) (s t : ByteArray) (hs : s.size ≤ 1048576) (ht : t.size ≤ 1048576) (hT : Lib.Utf8Tabs 0 1 w) (hc : (checkOf s).2 = 0 ∨ t.size = 0 ∨ ∃ h : 0 < t.size, t[0].toNat < 128 ∨ 191 < t[0].toNat) :
    Calls Tryd.prog 3 #[.string s, .string t] w fun e w' => e = .returned (.bool true) ∧ Below w.heap.size w w' := by
  have hJ : textRunes (s ++ t) = textRunes s ++ textRunes t := by
    refine text_join s t ?_
    rcases hc with h | h | ⟨h0, h⟩
    · exact .inr h
    · exact .inl (fun h0 => by omega)
    · refine .inl (fun _ => ?_)
      rw [get_at2 t 0 h0]
      omega
  have C := check_any w s (by omega) hT
  have RS := fun W => runes_any W s (by omega)
  have RT := fun W => runes_any W t (by omega)
  have RST := fun W => runes_any W (s ++ t) (by rw [ByteArray.size_append]; omega)
  have ls := textRunes_le s
  have lt := textRunes_le t
  rw [hJ, List.length_append] at RST
  generalize textRunes s = A at *
  generalize textRunes t = D at *
  generalize checkOf s = c at *
  obtain ⟨p, q⟩ := c
  have HT := Lib.hid hT
  have HC := Lib.hid C
  have HRS := Lib.hid RS
  have HRT := Lib.hid RT
  have HRST := Lib.hid RST
  have HCC := Lib.hid hc
  clear C hT hc RS RT RST hJ
  go_enter Tryd.func3, Tryd.ntmps3
  go_wp2_with fail
  refine HC.out.mono ?_
  rintro e w1 ⟨rfl, hb1⟩
  have HB1 := Lib.hid hb1
  clear hb1 HC
  go_upto_region 2 with fail
  go_cut [31] from 16 (fun s31 wx => s31 = .bool false ∧ w1 = wx)
  case first =>
    rcases HCC.out with h | h | ⟨h0, h⟩
    · have hq : ((q : Int) != 0) = false := by have h' : q = 0 := h; simp [h']
      clear h
      go_wp2
      go_meet
      case rel => exact ⟨rfl, rfl⟩
    · have e2 := is_empty h
      clear h
      by_cases hq0 : q = 0
      · have hq : ((q : Int) != 0) = false := by simp [hq0]
        clear hq0
        go_wp2
        go_meet
        case rel => exact ⟨rfl, rfl⟩
      · have hq : ((q : Int) != 0) = true := by simp [hq0]
        clear hq0
        go_wp2
        go_meet
        case rel => exact ⟨rfl, rfl⟩
    · have e2 := not_empty h0
      obtain ⟨b, hb⟩ : ∃ b, t[0].toNat = b := ⟨_, rfl⟩
      rw [hb] at h
      have hz0 : (0 : Int) < (t.size : Int) := by omega
      by_cases hq0 : q = 0
      · have hq : ((q : Int) != 0) = false := by simp [hq0]
        clear hq0 h
        go_wp2
        go_meet
        case rel => exact ⟨rfl, rfl⟩
      · have hq : ((q : Int) != 0) = true := by simp [hq0]
        clear hq0
        rcases h with h | h
        · have hl : (b : Int) < 128 := by omega
          clear h
          go_wp2
          go_meet
          case rel => exact ⟨rfl, rfl⟩
        · have hl : decide ((b : Int) ≤ 191) = false := by simp; omega
          have hl2 : (128 : Int) ≤ (b : Int) := by omega
          clear h
          go_wp2
          go_meet
          case rel => exact ⟨rfl, rfl⟩
  case rest =>
  obtain ⟨rfl, rfl⟩ := hcut
  go_wp2_with fail
  refine (HRS.out _).mono ?_
  rintro e w2 ⟨a2, c2, rfl, hown2, hb2⟩
  have HO2 := Lib.hid hown2.toCells
  have HB2 := Lib.hid (after HB1.out hb2)
  clear hown2 hb2 HRS
  go_wp2_with fail
  refine (HRT.out _).mono ?_
  rintro e w3 ⟨a3, c3, rfl, hown3, hb3⟩
  have HO3 := Lib.hid hown3.toCells
  have HO2' := Lib.hid (HO2.out.below hb3)
  have HB3 := Lib.hid (after HB2.out hb3)
  clear hown3 hb3 HRT HO2
  go_wp2_with fail
  refine (HRST.out _).mono ?_
  rintro e w4 ⟨a4, c4, rfl, hown4, hb4⟩
  have HO4 := Lib.hid hown4.toCells
  have HA := Lib.hid (HO2'.out.below hb4)
  have HD := Lib.hid (HO3.out.below hb4)
  have HB4 := Lib.hid (after HB3.out hb4)
  clear hown4 hb4 HRST HO3 HO2'
  go_wp2_with fail
  go_loopw [10] (fun i wr => ∃ k : Nat, k ≤ A.length + D.length ∧ i = .int .i64 k ∧ Below w4.heap.size w4 wr) (fun i _ => A.length + D.length - (intOf i).toNat)
  case atStart => exact ⟨0, Nat.zero_le _, rfl, Below.refl _ _⟩
  case round =>
    obtain ⟨k, hk, rfl, hb⟩ := hrel
    have HB := Lib.hid hb
    clear hb
    have hk0 : (0 : Int) ≤ (k : Int) := by omega
    by_cases hlt : k < A.length + D.length
    · obtain ⟨b1, o1, y, rfl, hy, hc1⟩ := (HO4.out.below HB.out).at (k := k) (by rw [List.length_append]; exact hlt)
      have hlt2 : (k : Int) < (A.length : Int) + (D.length : Int) := by omega
      by_cases ha : k < A.length
      · obtain ⟨b2, o2, x, rfl, hx, hc2⟩ := (HA.out.below HB.out).at ha
        rw [List.getElem?_append_left ha] at hy
        obtain rfl : x = y := by rw [hx] at hy; exact Option.some.inj hy
        have ha2 : (k : Int) < (A.length : Int) := by omega
        have hxx : (x != x) = false := by simp
        have hd1 : decide ((k : Int) < (A.length : Int)) = true := by simp; omega
        have hd2 : decide (k < A.length) = true := by simp; omega
        have hd3 : decide ((A.length : Int) ≤ (k : Int)) = false := by simp; omega
        have hd4 : decide (A.length ≤ k) = false := by simp; omega
        clear hy hx
        go_wp2
        go_quiet (fail)
        go_wp2
        go_roundw
        case rel => exact ⟨k + 1, by omega, by go_num, below_drewN HB.out _⟩
        case measure => simp [intOf]; omega
      · obtain ⟨j, hj⟩ : ∃ j, k = A.length + j := ⟨k - A.length, by omega⟩
        obtain ⟨b2, o2, x, rfl, hx, hc2⟩ := (HD.out.below HB.out).at (k := j) (by omega)
        rw [List.getElem?_append_right (by omega), show k - A.length = j from by omega] at hy
        obtain rfl : x = y := by rw [hx] at hy; exact Option.some.inj hy
        have ha2 : (A.length : Int) ≤ (k : Int) := by omega
        have hsub : (k : Int) - (A.length : Int) = (j : Int) := by omega
        have hwr : IntKind.i64.wrap ((k : Int) - (A.length : Int)) = (j : Int) := by rw [hsub]; exact IntWalk.i64_in _ (by omega)
        have hj0 : (0 : Int) ≤ (j : Int) := by omega
        have hj1 : (j : Int) < (D.length : Int) := by omega
        have HJ := Lib.hid hj
        have hxx : (x != x) = false := by simp
        have hd1 : decide ((k : Int) < (A.length : Int)) = false := by simp; omega
        have hd2 : decide (k < A.length) = false := by simp; omega
        have hd3 : decide ((A.length : Int) ≤ (k : Int)) = true := by simp; omega
        have hd4 : decide (A.length ≤ k) = true := by simp; omega
        clear hy hx hj hsub
        go_wp2
        go_quiet (fail)
        go_wp2
        go_roundw
        case rel => exact ⟨k + 1, by omega, by go_num, below_drewN HB.out _⟩
        case measure => simp [intOf]; omega
    · have hlt2 : (A.length : Int) + (D.length : Int) ≤ (k : Int) := by omega
      have HT5 := Lib.hid (tabs_below HT.out (HB4.out.trans (HB.out.mono HB4.out.size)))
      go_wp2_with (go_at_call 16; refine (lives_any _ HT5.out).mono ?_; rintro e w6 ⟨rfl, hb6⟩)
      go_ret
      exact ⟨rfl, after (HB4.out.trans (HB.out.mono HB4.out.size)) hb6⟩

theorem joined_walk (w : World) (s : ByteArray) (hs : s.size ≤ 1048576) (t : ByteArray) (ht : t.size ≤ 1048576) (hT : Lib.Utf8Tabs 0 1 w) :
    Calls Tryd.prog 3 #[.string s, .string t] w fun e w' => e = .returned (.bool true) ∧ Below w.heap.size w w' := by
  by_cases hc : (checkOf s).2 = 0
  · exact joined_on w s t hs ht hT (.inl hc)
  · by_cases h0 : 0 < t.size
    · by_cases hl : 128 ≤ t[0].toNat
      · by_cases hh : t[0].toNat ≤ 191
        · exact joined_off w s t hs ht hT hc h0 hl hh
        · exact joined_on w s t hs ht hT (.inr (.inr ⟨h0, .inr (by omega)⟩))
      · exact joined_on w s t hs ht hT (.inr (.inr ⟨h0, .inl (by omega)⟩))
    · exact joined_on w s t hs ht hT (.inr (.inl (by omega)))

end Go.Proofs.YthkehgmeaedflaaDoor
