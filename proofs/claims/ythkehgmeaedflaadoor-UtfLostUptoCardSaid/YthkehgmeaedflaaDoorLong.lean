/-
  How long a wrong part is: second, longest; walked.
-/
import Derived.Test.YthkehgmeaedflaaDoorPieceM
namespace Go.Proofs.YthkehgmeaedflaaDoor
open Go.RowKit

theorem second_is (f b lo hi : Nat) (hl : (if f = 224 then 160 else if f = 240 then 144 else 128) = lo) (hh : (if f = 237 then 159 else if f = 244 then 143 else 191) = hi) : secondB f b = decide (lo ≤ b ∧ b ≤ hi) := by
  unfold secondB
  rw [hl, hh]

set_option maxRecDepth 20000 in
set_option maxHeartbeats 4000000 in
theorem second_any (f b : Nat) (w : World) (hf : f < 256) (hb : b < 256) : Calls Tryd.prog 76 #[.int .u8 f, .int .u8 b] w fun e w' => e = .returned (.bool (secondB f b)) ∧ w = w' := by
  rcases (show f = 224 ∨ f = 237 ∨ f = 240 ∨ f = 244 ∨ (f ≠ 224 ∧ f ≠ 237 ∧ f ≠ 240 ∧ f ≠ 244) from by omega) with rfl | rfl | rfl | rfl | ⟨n1, n2, n3, n4⟩
  · rw [second_is 224 b 160 191 rfl rfl]
    by_cases h1 : 160 ≤ b
    · by_cases h2 : b ≤ 191
      · rw [decide_eq_true ⟨h1, h2⟩]
        go_enter Tryd.func76, Tryd.ntmps76
        go_wp2
        go_ret
        exact ⟨ret_bool (by first | rfl | (simp; omega)), rfl⟩
      · rw [decide_eq_false (fun h => h2 h.2)]
        have h2 : 191 < b := by omega
        go_enter Tryd.func76, Tryd.ntmps76
        go_wp2
        go_ret
        exact ⟨ret_bool (by first | rfl | (simp; omega)), rfl⟩
    · rw [decide_eq_false (fun h => h1 h.1)]
      have h1 : b < 160 := by omega
      go_enter Tryd.func76, Tryd.ntmps76
      go_wp2
      go_ret
      exact ⟨ret_bool (by first | rfl | (simp; omega)), rfl⟩
  · rw [second_is 237 b 128 159 rfl rfl]
    by_cases h1 : 128 ≤ b
    · by_cases h2 : b ≤ 159
      · rw [decide_eq_true ⟨h1, h2⟩]
        go_enter Tryd.func76, Tryd.ntmps76
        go_wp2
        go_ret
        exact ⟨ret_bool (by first | rfl | (simp; omega)), rfl⟩
      · rw [decide_eq_false (fun h => h2 h.2)]
        have h2 : 159 < b := by omega
        go_enter Tryd.func76, Tryd.ntmps76
        go_wp2
        go_ret
        exact ⟨ret_bool (by first | rfl | (simp; omega)), rfl⟩
    · rw [decide_eq_false (fun h => h1 h.1)]
      have h1 : b < 128 := by omega
      go_enter Tryd.func76, Tryd.ntmps76
      go_wp2
      go_ret
      exact ⟨ret_bool (by first | rfl | (simp; omega)), rfl⟩
  · rw [second_is 240 b 144 191 rfl rfl]
    by_cases h1 : 144 ≤ b
    · by_cases h2 : b ≤ 191
      · rw [decide_eq_true ⟨h1, h2⟩]
        go_enter Tryd.func76, Tryd.ntmps76
        go_wp2
        go_ret
        exact ⟨ret_bool (by first | rfl | (simp; omega)), rfl⟩
      · rw [decide_eq_false (fun h => h2 h.2)]
        have h2 : 191 < b := by omega
        go_enter Tryd.func76, Tryd.ntmps76
        go_wp2
        go_ret
        exact ⟨ret_bool (by first | rfl | (simp; omega)), rfl⟩
    · rw [decide_eq_false (fun h => h1 h.1)]
      have h1 : b < 144 := by omega
      go_enter Tryd.func76, Tryd.ntmps76
      go_wp2
      go_ret
      exact ⟨ret_bool (by first | rfl | (simp; omega)), rfl⟩
  · rw [second_is 244 b 128 143 rfl rfl]
    by_cases h1 : 128 ≤ b
    · by_cases h2 : b ≤ 143
      · rw [decide_eq_true ⟨h1, h2⟩]
        go_enter Tryd.func76, Tryd.ntmps76
        go_wp2
        go_ret
        exact ⟨ret_bool (by first | rfl | (simp; omega)), rfl⟩
      · rw [decide_eq_false (fun h => h2 h.2)]
        have h2 : 143 < b := by omega
        go_enter Tryd.func76, Tryd.ntmps76
        go_wp2
        go_ret
        exact ⟨ret_bool (by first | rfl | (simp; omega)), rfl⟩
    · rw [decide_eq_false (fun h => h1 h.1)]
      have h1 : b < 128 := by omega
      go_enter Tryd.func76, Tryd.ntmps76
      go_wp2
      go_ret
      exact ⟨ret_bool (by first | rfl | (simp; omega)), rfl⟩
  · rw [second_is f b 128 191 (by rw [if_neg n1, if_neg n3]) (by rw [if_neg n2, if_neg n4])]
    have e1 : ((f : Int) == 224) = false := by simp; omega
    have e2 : ((f : Int) == 237) = false := by simp; omega
    have e3 : ((f : Int) == 240) = false := by simp; omega
    have e4 : ((f : Int) == 244) = false := by simp; omega
    by_cases h1 : 128 ≤ b
    · by_cases h2 : b ≤ 191
      · rw [decide_eq_true ⟨h1, h2⟩]
        clear n1 n2 n3 n4
        go_enter Tryd.func76, Tryd.ntmps76
        go_wp2
        go_ret
        exact ⟨ret_bool (by first | rfl | (simp; omega)), rfl⟩
      · rw [decide_eq_false (fun h => h2 h.2)]
        have h2 : 191 < b := by omega
        clear n1 n2 n3 n4
        go_enter Tryd.func76, Tryd.ntmps76
        go_wp2
        go_ret
        exact ⟨ret_bool (by first | rfl | (simp; omega)), rfl⟩
    · rw [decide_eq_false (fun h => h1 h.1)]
      have h1 : b < 128 := by omega
      clear n1 n2 n3 n4
      go_enter Tryd.func76, Tryd.ntmps76
      go_wp2
      go_ret
      exact ⟨ret_bool (by first | rfl | (simp; omega)), rfl⟩

theorem get_one (s : ByteArray) (i : Nat) (h : i < s.size) : (s.get! i).toNat = s[i].toNat := get_at2 s i h

set_option maxRecDepth 20000 in
set_option maxHeartbeats 4000000 in
theorem longest_any (s : ByteArray) (w : World) (hs : s.size ≤ 140737488355328) (h0 : 0 < s.size) :
    Calls Tryd.prog 62 #[.string s] w fun e w' => e = .returned (.int .i64 (longestOf s 0)) ∧ w = w' := by
  obtain ⟨b0, hb0⟩ : ∃ b, s[0].toNat = b := ⟨_, rfl⟩
  have hbb : b0 < 256 := by rw [← hb0]; exact s[0].toNat_lt
  have hg0 := get_zero s 0 h0 b0 hb0
  have hz0 : (0 : Int) < (s.size : Int) := by omega
  by_cases h1 : b0 < 194
  · rw [longest_no (fun h => by have := h.1; omega)]
    clear hg0
    go_enter Tryd.func62, Tryd.ntmps62
    go_wp2
    go_ret
    exact ⟨rfl, rfl⟩
  · have h1 : 194 ≤ b0 := by omega
    by_cases h2 : 244 < b0
    · rw [longest_no (fun h => by have := h.2.1; omega)]
      clear hg0
      go_enter Tryd.func62, Tryd.ntmps62
      go_wp2
      go_ret
      exact ⟨rfl, rfl⟩
    · have h2 : b0 ≤ 244 := by omega
      by_cases h3 : s.size < 2
      · rw [longest_no (fun h => by have := h.2.2.1; omega)]
        clear hg0
        have h3i : (s.size : Int) < 2 := by omega
        go_enter Tryd.func62, Tryd.ntmps62
        go_wp2
        go_ret
        exact ⟨rfl, rfl⟩
      · have h3 : 1 < s.size := by omega
        have h3i : (1 : Int) < (s.size : Int) := by omega
        have h3j : (2 : Int) ≤ (s.size : Int) := by omega
        obtain ⟨b1, hb1⟩ : ∃ b, s[1].toNat = b := ⟨_, rfl⟩
        have hbb1 : b1 < 256 := by rw [← hb1]; exact s[1].toNat_lt
        have hg1 := get_zero s 1 h3 b1 hb1
        have S := second_any b0 b1 w hbb hbb1
        by_cases h4 : secondB b0 b1 = true
        · have ho : opensP s 0 := ⟨by omega, by omega, by omega, by rw [hg0, show 0 + 1 = 1 from rfl, hg1]; exact h4⟩
          rw [h4] at S
          have HS := Lib.hid S
          have HG0 := Lib.hid hg0
          have HO := Lib.hid ho
          clear S hg0 hg1 ho h4
          go_enter Tryd.func62, Tryd.ntmps62
          go_wp2_with (go_at_call 76; refine HS.out.mono ?_; rintro e w' ⟨rfl, rfl⟩)
          go_loop [4] (fun n => ∃ m : Nat, n = .int .i64 m ∧ Hid (m = 2 ∨ (m = 3 ∧ longestOf s 0 = 3))) (fun n => 3 - (intOf n).toNat)
          case atStart => exact ⟨2, rfl, Lib.hid (.inl rfl)⟩
          case round =>
            obtain ⟨m, rfl, HM⟩ := hrel
            rcases HM.out with rfl | ⟨rfl, hl⟩
            · clear HM
              by_cases h5 : 240 ≤ b0
              · have hn : needOf b0 = 4 := by unfold needOf; rw [if_neg (by omega), if_neg (by omega), if_neg (by omega), if_neg (by omega), if_pos (by omega)]
                have HN := Lib.hid (need_any b0 w hbb)
                rw [hn] at HN
                clear hn
                by_cases h6 : s.size ≤ 2
                · have hl := longest_two HO.out (fun h => by have := h.2.1; omega)
                  have h6i : (s.size : Int) ≤ 2 := by omega
                  have HL := Lib.hid hl
                  clear hl
                  go_wp2_with (go_at_call 77; refine HN.out.mono ?_; rintro e w' ⟨rfl, rfl⟩)
                  go_ret
                  exact ⟨ret_int (by rw [HL.out]; rfl), rfl⟩
                · have h6 : 2 < s.size := by omega
                  have h6i : (2 : Int) < (s.size : Int) := by omega
                  obtain ⟨b2, hb2⟩ : ∃ b, s[2].toNat = b := ⟨_, rfl⟩
                  have hbb2 : b2 < 256 := by rw [← hb2]; exact s[2].toNat_lt
                  have hg2 := get_zero s 2 h6 b2 hb2
                  have c1 := and_192 ⟨b2, hbb2⟩
                  simp only at c1
                  by_cases h7 : b2 / 64 = 2
                  · have hl := longest_three HO.out ⟨by rw [HG0.out]; exact h5, by omega, by rw [show 0 + 2 = 2 from rfl, hg2]; exact h7⟩
                    have HL := Lib.hid hl
                    rw [h7] at c1
                    clear hl hg2 h7
                    go_wp2_with (go_at_call 77; refine HN.out.mono ?_; rintro e w' ⟨rfl, rfl⟩)
                    go_round
                    case rel => exact ⟨3, rfl, Lib.hid (.inr ⟨rfl, HL.out⟩)⟩
                    case measure => simp [intOf]
                  · have hl := longest_two HO.out (fun h => by have := h.2.2; rw [show 0 + 2 = 2 from rfl, hg2] at this; exact h7 this)
                    have c4 : (bits BinOp.and IntKind.u8 (b2 : Int) 192 == 128) = false := by
                      rw [c1, beq_eq_false_iff_ne]
                      omega
                    have HL := Lib.hid hl
                    clear hl hg2 h7 c1
                    go_wp2_with (go_at_call 77; refine HN.out.mono ?_; rintro e w' ⟨rfl, rfl⟩)
                    go_ret
                    exact ⟨ret_int (by rw [HL.out]; rfl), rfl⟩
              · have hl := longest_two HO.out (fun h => by have := h.1; rw [HG0.out] at this; omega)
                have HL := Lib.hid hl
                clear hl
                rcases (show b0 < 224 ∨ 224 ≤ b0 by omega) with h6 | h6
                · have hn : needOf b0 = 2 := by unfold needOf; rw [if_neg (by omega), if_neg (by omega), if_pos (by omega)]
                  have HN := Lib.hid (need_any b0 w hbb)
                  rw [hn] at HN
                  clear hn
                  go_wp2_with (go_at_call 77; refine HN.out.mono ?_; rintro e w' ⟨rfl, rfl⟩)
                  go_ret
                  exact ⟨ret_int (by rw [HL.out]; rfl), rfl⟩
                · have hn : needOf b0 = 3 := by unfold needOf; rw [if_neg (by omega), if_neg (by omega), if_neg (by omega), if_pos (by omega)]
                  have HN := Lib.hid (need_any b0 w hbb)
                  rw [hn] at HN
                  clear hn
                  go_wp2_with (go_at_call 77; refine HN.out.mono ?_; rintro e w' ⟨rfl, rfl⟩)
                  go_ret
                  exact ⟨ret_int (by rw [HL.out]; rfl), rfl⟩
            · clear HM
              have HL := Lib.hid hl
              have HN := Lib.hid (need_any b0 w hbb)
              have hn : (needOf b0 : Int) ≤ 4 := by
                unfold needOf
                repeat' split
                all_goals decide
              have hn0 : (0 : Int) ≤ (needOf b0 : Int) := by omega
              clear hl
              generalize needOf b0 = N at *
              go_wp2_with (go_at_call 77; refine HN.out.mono ?_; rintro e w' ⟨rfl, rfl⟩)
              go_ret
              exact ⟨ret_int (by rw [HL.out]; rfl), rfl⟩
        · rw [Bool.not_eq_true] at h4
          rw [longest_no (fun h => by have := h.2.2.2; rw [hg0, show 0 + 1 = 1 from rfl, hg1, h4] at this; cases this)]
          rw [h4] at S
          have HS := Lib.hid S
          clear S hg0 hg1 h4
          go_enter Tryd.func62, Tryd.ntmps62
          go_wp2_with (go_at_call 76; refine HS.out.mono ?_; rintro e w' ⟨rfl, rfl⟩)
          go_ret
          exact ⟨rfl, rfl⟩

end Go.Proofs.YthkehgmeaedflaaDoor
