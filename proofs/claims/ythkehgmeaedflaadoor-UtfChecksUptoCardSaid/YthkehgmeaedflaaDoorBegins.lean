/-
  Does a right sequence begin so: the reference's begins, walked.
-/
import Derived.Test.YthkehgmeaedflaaDoorNum
namespace Go.Proofs.YthkehgmeaedflaaDoor
open Go.RowKit
set_option linter.unusedVariables false

set_option maxRecDepth 20000 in
set_option maxHeartbeats 4000000 in
/-- The first byte begins a shorter sequence, or none. -/
theorem begins_short (t : ByteArray) (w : World) (h2 : 2 ≤ t.size) (h4 : t.size ≤ 4) (hn : longOf (t.get! 0).toNat < t.size) :
    Calls Tryd.prog 78 #[.string t] w fun e w' => e = .returned (.bool false) ∧ Below w.heap.size w w' := by
  have h0 : 0 < t.size := by omega
  obtain ⟨b0, hb0⟩ : ∃ b, t[0].toNat = b := ⟨_, rfl⟩
  have hbb : b0 < 256 := by rw [← hb0]; exact t[0].toNat_lt
  have hg0 := get_zero t 0 h0 b0 hb0
  rw [hg0] at hn
  have hz0 : (0 : Int) < (t.size : Int) := by omega
  have hz4 : (t.size : Int) ≤ 4 := by omega
  have HL := Lib.hid (fun w => long_any b0 w hbb)
  have hni : (longOf b0 : Int) < (t.size : Int) := by omega
  clear hg0 hn
  generalize longOf b0 = n at *
  go_enter Tryd.func78, Tryd.ntmps78
  go_wp2_with (go_at_call 63; refine (HL.out _).mono ?_; rintro e w' ⟨rfl, rfl⟩)
  go_ret
  exact ⟨rfl, Below.refl _ _⟩

set_option maxRecDepth 20000 in
set_option maxHeartbeats 4000000 in
/-- A byte behind the first one is none. -/
theorem begins_bad (t : ByteArray) (w : World) (n k : Nat) (h2 : 2 ≤ t.size) (hk : t.size + k = n) (h4 : n ≤ 4) (hn : longOf (t.get! 0).toNat = n) (hlo : numOf (padB t 128 k) = -1) (hhi : numOf (padB t 191 k) = -1) :
    Calls Tryd.prog 78 #[.string t] w fun e w' => e = .returned (.bool false) ∧ Below w.heap.size w w' := by
  have h0 : 0 < t.size := by omega
  obtain ⟨b0, hb0⟩ : ∃ b, t[0].toNat = b := ⟨_, rfl⟩
  have hbb : b0 < 256 := by rw [← hb0]; exact t[0].toNat_lt
  have hg0 := get_zero t 0 h0 b0 hb0
  rw [hg0] at hn
  have hz0 : (0 : Int) < (t.size : Int) := by omega
  have hz4 : (t.size : Int) ≤ 4 := by omega
  have HL := Lib.hid (fun w => long_any b0 w hbb)
  rw [hn] at HL
  have HA := Lib.hid (fun w => number_any (padB t 128 k) w (by rw [pad_size]; omega) (by rw [pad_size]; omega))
  have HB := Lib.hid (fun w => number_any (padB t 191 k) w (by rw [pad_size]; omega) (by rw [pad_size]; omega))
  rw [hlo] at HA
  rw [hhi] at HB
  have hni : (t.size : Int) ≤ (n : Int) := by omega
  have HS := Lib.hid (fun b j => pad_size t b j)
  have HK := Lib.hid hk
  clear hg0 hn hlo hhi hk
  go_enter Tryd.func78, Tryd.ntmps78
  go_wp2_with (go_at_call 63; refine (HL.out _).mono ?_; rintro e w' ⟨rfl, rfl⟩)
  go_loop [4, 5] (fun x y => ∃ j : Nat, j ≤ k ∧ x = .string (padB t 128 j) ∧ y = .string (padB t 191 j)) (fun x _ => n - (match x with | .string s => s.size | _ => 0))
  case atStart => exact ⟨0, Nat.zero_le _, rfl, rfl⟩
  case round =>
    obtain ⟨j, hj, rfl, rfl⟩ := hrel
    have e1 := HS.out 128 j
    have e2 := HS.out 191 j
    have HKK := HK.out
    by_cases hlt : j < k
    · have HJ : Hid ((padB t 128 (j + 1)) = (padB t 128 j ++ ⟨#[128]⟩) ∧ (padB t 191 (j + 1)) = (padB t 191 j ++ ⟨#[191]⟩)) := Lib.hid ⟨rfl, rfl⟩
      have hlti : ((padB t 128 j).size : Int) < (n : Int) := by omega
      have hm1 : (padB t 128 j).size ≤ 4 := by omega
      have hm2 : (padB t 191 j).size ≤ 4 := by omega
      have E1 := Lib.hid e1
      clear e1 e2 HKK
      go_wp2
      go_round
      case rel => exact ⟨j + 1, by omega, by rw [HJ.out.1], by rw [HJ.out.2]⟩
      case measure =>
        have := E1.out
        have := HK.out
        have := push_size (padB t 128 j) 128
        simp only
        omega
    · obtain rfl : j = k := by omega
      have hlti : (n : Int) ≤ ((padB t 128 j).size : Int) := by omega
      clear e1 e2 HKK hlt hj
      go_wp2_with fail
      refine (HA.out _).mono ?_
      rintro e w1 ⟨rfl, hb1⟩
      have HB1 := Lib.hid hb1
      clear hb1
      go_wp2_with fail
      refine (HB.out _).mono ?_
      rintro e w2 ⟨rfl, hb2⟩
      have HB2 := Lib.hid (after HB1.out hb2)
      clear hb2
      go_wp2
      go_ret
      exact ⟨rfl, HB2.out⟩

set_option maxRecDepth 20000 in
set_option maxHeartbeats 4000000 in
/-- Between the lowest and the highest number: is there one? -/
theorem begins_some (t : ByteArray) (w : World) (n k a b : Nat) (R : Bool) (h2 : 2 ≤ t.size) (hk : t.size + k = n) (h4 : n ≤ 4) (hn : longOf (t.get! 0).toNat = n) (hlo : numOf (padB t 128 k) = (a : Int)) (hhi : numOf (padB t 191 k) = (b : Int)) (hab : a ≤ b + 1) (hb : b ≤ 2097151) (hR : R = true ↔ charIn n a b) :
    Calls Tryd.prog 78 #[.string t] w fun e w' => e = .returned (.bool R) ∧ Below w.heap.size w w' := by
  have h0 : 0 < t.size := by omega
  obtain ⟨b0, hb0⟩ : ∃ b, t[0].toNat = b := ⟨_, rfl⟩
  have hbb : b0 < 256 := by rw [← hb0]; exact t[0].toNat_lt
  have hg0 := get_zero t 0 h0 b0 hb0
  rw [hg0] at hn
  have hz0 : (0 : Int) < (t.size : Int) := by omega
  have hz4 : (t.size : Int) ≤ 4 := by omega
  have HL := Lib.hid (fun w => long_any b0 w hbb)
  rw [hn] at HL
  have HA := Lib.hid (fun w => number_any (padB t 128 k) w (by rw [pad_size]; omega) (by rw [pad_size]; omega))
  have HB := Lib.hid (fun w => number_any (padB t 191 k) w (by rw [pad_size]; omega) (by rw [pad_size]; omega))
  rw [hlo] at HA
  rw [hhi] at HB
  have hni : (t.size : Int) ≤ (n : Int) := by omega
  have HS := Lib.hid (fun b j => pad_size t b j)
  have HK := Lib.hid hk
  have HR := Lib.hid hR
  clear hg0 hn hlo hhi hk hR
  go_enter Tryd.func78, Tryd.ntmps78
  go_wp2_with (go_at_call 63; refine (HL.out _).mono ?_; rintro e w' ⟨rfl, rfl⟩)
  go_loop [4, 5] (fun x y => ∃ j : Nat, j ≤ k ∧ x = .string (padB t 128 j) ∧ y = .string (padB t 191 j)) (fun x _ => n - (match x with | .string s => s.size | _ => 0))
  case atStart => exact ⟨0, Nat.zero_le _, rfl, rfl⟩
  case round =>
    obtain ⟨j, hj, rfl, rfl⟩ := hrel
    have e1 := HS.out 128 j
    have e2 := HS.out 191 j
    have HKK := HK.out
    by_cases hlt : j < k
    · have HJ : Hid ((padB t 128 (j + 1)) = (padB t 128 j ++ ⟨#[128]⟩) ∧ (padB t 191 (j + 1)) = (padB t 191 j ++ ⟨#[191]⟩)) := Lib.hid ⟨rfl, rfl⟩
      have hlti : ((padB t 128 j).size : Int) < (n : Int) := by omega
      have hm1 : (padB t 128 j).size ≤ 4 := by omega
      have hm2 : (padB t 191 j).size ≤ 4 := by omega
      have E1 := Lib.hid e1
      clear e1 e2 HKK
      go_wp2
      go_round
      case rel => exact ⟨j + 1, by omega, by rw [HJ.out.1], by rw [HJ.out.2]⟩
      case measure =>
        have := E1.out
        have := HK.out
        have := push_size (padB t 128 j) 128
        simp only
        omega
    · obtain rfl : j = k := by omega
      have hlti : (n : Int) ≤ ((padB t 128 j).size : Int) := by omega
      have ha0 : (0 : Int) ≤ (a : Int) := by omega
      have hb0 : (0 : Int) ≤ (b : Int) := by omega
      clear e1 e2 HKK hlt hj
      go_wp2_with fail
      refine (HA.out _).mono ?_
      rintro e w1 ⟨rfl, hb1⟩
      have HB1 := Lib.hid hb1
      clear hb1
      go_wp2_with fail
      refine (HB.out _).mono ?_
      rintro e w2 ⟨rfl, hb2⟩
      have HB2 := Lib.hid (after HB1.out hb2)
      clear hb2
      go_wp2_with fail
      go_loop [8] (fun x => ∃ y : Nat, a ≤ y ∧ y ≤ b + 1 ∧ x = .int .i64 y ∧ Hid (∀ z, a ≤ z → z < y → ¬ (scalarB (z : Int) = true ∧ widthOf (z : Int) = n))) (fun x => b + 1 - (intOf x).toNat)
      case atStart => exact ⟨a, Nat.le_refl _, hab, rfl, Lib.hid (fun z h1 h2 => by omega)⟩
      case round =>
        obtain ⟨y, hy1, hy2, rfl, HY⟩ := hrel
        have hy0 : (0 : Int) ≤ (y : Int) := by omega
        by_cases hle : y ≤ b
        · have hli : (y : Int) ≤ (b : Int) := by omega
          have hyb : (y : Int) ≤ 2097151 := by omega
          obtain ⟨S, hS⟩ : ∃ S, scalarB (y : Int) = S := ⟨_, rfl⟩
          have HSC := Lib.hid (fun w => rscalar_is hS w)
          obtain ⟨wd, hwd⟩ : ∃ d, widthOf (y : Int) = d := ⟨_, rfl⟩
          have HWD := Lib.hid (fun w => rwidth_is hwd w)
          cases S
          · have HN : Hid (∀ z, a ≤ z → z < y + 1 → ¬ (scalarB (z : Int) = true ∧ widthOf (z : Int) = n)) := Lib.hid (fun z h1 h2 => by
              rcases Nat.lt_or_eq_of_le (show z ≤ y by omega) with h | h
              · exact HY.out z h1 h
              · subst h; rw [hS]; simp)
            clear hS hwd
            go_wp2_with (first | (go_at_call 32; refine (HSC.out _).mono ?_; rintro e w' ⟨rfl, rfl⟩) | (go_at_call 34; refine (HWD.out _).mono ?_; rintro e w' ⟨rfl, rfl⟩))
            go_round
            case rel => exact ⟨y + 1, by omega, by omega, by go_num, HN⟩
            case measure => simp [intOf]; omega
          · by_cases hw : wd = n
            · subst hw
              have hRt : R = true := HR.out.2 ⟨y, by omega, hli, hS, hwd⟩
              subst hRt
              have hww : ((wd : Int) == (wd : Int)) = true := by simp
              clear hS hwd
              go_wp2_with (first | (go_at_call 32; refine (HSC.out _).mono ?_; rintro e w' ⟨rfl, rfl⟩) | (go_at_call 34; refine (HWD.out _).mono ?_; rintro e w' ⟨rfl, rfl⟩))
              go_ret
              exact ⟨rfl, HB2.out⟩
            · have HN : Hid (∀ z, a ≤ z → z < y + 1 → ¬ (scalarB (z : Int) = true ∧ widthOf (z : Int) = n)) := Lib.hid (fun z h1 h2 => by
                rcases Nat.lt_or_eq_of_le (show z ≤ y by omega) with h | h
                · exact HY.out z h1 h
                · subst h; rw [hwd]; exact fun h => hw h.2)
              have hww : ((wd : Int) == (n : Int)) = false := by simp; omega
              clear hS hwd hw
              go_wp2_with (first | (go_at_call 32; refine (HSC.out _).mono ?_; rintro e w' ⟨rfl, rfl⟩) | (go_at_call 34; refine (HWD.out _).mono ?_; rintro e w' ⟨rfl, rfl⟩))
              go_round
              case rel => exact ⟨y + 1, by omega, by omega, by go_num, HN⟩
              case measure => simp [intOf]; omega
        · have hli : (b : Int) < (y : Int) := by omega
          have hRf : R = false := by
            rw [Bool.eq_false_iff]
            intro h
            obtain ⟨z, z1, z2, z3, z4⟩ := HR.out.1 h
            exact HY.out z (by omega) (by omega) ⟨z3, z4⟩
          subst hRf
          go_wp2
          go_ret
          exact ⟨rfl, HB2.out⟩

end Go.Proofs.YthkehgmeaedflaaDoor
