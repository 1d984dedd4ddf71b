/-
  The walk of the law UtfBack.
-/
import Derived.Test.YthkehgmeaedflaaDoorSmalls
import Derived.Test.YthkehgmeaedflaaDoorLives
import Derived.IntWalk
import Derived.Deep.CutBlock
namespace Go.Proofs.YthkehgmeaedflaaDoor
open Go.RowKit

theorem info21 : (Tryd.prog.info? 21).map (fun i => (i.zero, i.size, i.bytes)) = some (some (.int .i32 0), 1, 4) := by kernel_rfl

theorem quiet_scalar (r : Int) (w : World) : Calls Tryd.prog 18 #[.int .i32 r] w fun e w' => e = .returned (.bool (scalarB r)) ∧ w' = w := (scalar_any r w).mono fun _ _ ⟨h1, h2⟩ => ⟨h1, h2.symm⟩

set_option maxRecDepth 100000 in
set_option maxHeartbeats 8000000 in
theorem back_walk (w : World) (s : ByteArray) (hs : s.size ≤ 1048576) (a : Option Addr) (c : Nat) (xs : List Int) (hle : xs.length ≤ c) (hc : c ≤ 1048576) (hr : Cells w a (xs.map (Value.int .i32))) (hwf : ∀ x ∈ xs, (Lit.int .i32 x).wf = true) (hT : Lib.Utf8Tabs 0 1 w) :
    Calls Tryd.prog 6 #[.string s, .slice a xs.length c] w fun e w' => e = .returned (.bool true) ∧ Below w.heap.size w w' := by
  have hn : xs.length ≤ 1048576 := by omega
  obtain ⟨i0, hi, hz0, hz1, hz2⟩ := info_parts info21
  have hbl := bytes_le xs
  have hml := mend_le s
  have F1 := fun W => runes_any W (runesBytes xs) (by omega)
  rw [text_enc, List.length_map] at F1
  have HF1 := Lib.hid F1
  have HR := Lib.hid hr
  have HT := Lib.hid hT
  clear hr hT F1 hwf hle hc
  go_enter Tryd.func6, Tryd.ntmps6
  go_wp2_with fail
  go_loop [5, 6] (fun v i => ∃ (k : Nat) (b : Bool), k ≤ xs.length ∧ v = .bool b ∧ i = .int .i64 k) (fun _ i => xs.length - (intOf i).toNat)
  case atStart => exact ⟨0, true, Nat.zero_le _, rfl, rfl⟩
  case round =>
    obtain ⟨k, b, hk, rfl, rfl⟩ := hrel
    have hk0 : (0 : Int) ≤ (k : Int) := by omega
    by_cases hlt : k < xs.length
    · obtain ⟨b1, o1, x, rfl, hx, hc1⟩ := HR.out.at hlt
      have hlt2 : (k : Int) < (xs.length : Int) := by omega
      clear hx
      cases b with
      | true =>
        go_wp2_with (go_at_call 18; refine (scalar_any _ _).mono ?_; rintro e w' ⟨rfl, rfl⟩)
        go_round
        case rel => exact ⟨k + 1, _, by omega, rfl, by go_num⟩
        case measure => simp [intOf]; omega
      | false =>
        go_wp2
        go_round
        case rel => exact ⟨k + 1, false, by omega, rfl, by go_num⟩
        case measure => simp [intOf]; omega
    · obtain rfl : k = xs.length := by omega
      go_wp2_with (at_builtin; refine wpList_app rfl _ _ 26 26 rfl 21 i0 (.int .i32 0) 1 4 Tryd.underlying26 hi hz0 hz1 hz2 rfl (by simp [Value.cells, Value.oneCell']) w.heap.size _ _ _ _ rfl (Own.nil _ _ _) _ _ _ rfl (Src.ofCells Tryd.underlying26 _ _ _ _ (by simp) HR.out (ints_one _ _) (by decide)) (by simp [maxLen]; omega) (by omega) (Nat.le_refl _) ?_; intro a1 c1 w1 hown1 hap1; rw [Nat.zero_add, List.nil_append] at hown1; have HB1 := Lib.hid (hap1.below (Own.nil w w.heap.size 1) (Nat.le_refl _)); have HO1 := Lib.hid hown1; clear hap1 hown1)
      refine (encode_any w1 a1 c1 xs HO1.out.toCells).mono ?_
      rintro e w2 ⟨rfl, rfl⟩
      go_wp2_with fail
      refine (HF1.out w1).mono ?_
      rintro e w3 ⟨a3, c3, rfl, hown3, hb3⟩
      have HO3 := Lib.hid hown3.toCells
      have HB3 := Lib.hid (after HB1.out hb3)
      have HR3 := Lib.hid (HR.out.below (after HB1.out hb3))
      clear hown3 hb3
      go_wp2_with fail
      go_loopw [9] (fun i wr => ∃ k : Nat, k ≤ xs.length ∧ i = .int .i64 k ∧ Below w3.heap.size w3 wr) (fun i _ => xs.length - (intOf i).toNat)
      case atStart => exact ⟨0, Nat.zero_le _, rfl, Below.refl _ _⟩
      case round =>
        obtain ⟨k, hk, rfl, hb⟩ := hrel
        have HB := Lib.hid hb
        clear hb
        have hk0 : (0 : Int) ≤ (k : Int) := by omega
        by_cases hlt : k < xs.length
        · obtain ⟨b1, o1, x, rfl, hx, hc1⟩ := (HR3.out.below HB.out).at hlt
          obtain ⟨b2, o2, y, rfl, hy, hc2⟩ := (HO3.out.below HB.out).at (k := k) (by rw [List.length_map]; exact hlt)
          rw [List.getElem?_map, hx] at hy
          simp only [Option.map_some, Option.some.injEq] at hy
          subst hy
          have hlt2 : (k : Int) < (xs.length : Int) := by omega
          clear hx
          by_cases hsc : scalarB x = true
          · have hm : mendR x = x := by unfold mendR; rw [if_pos hsc]
            have hxx : (x != x) = false := by simp
            have HS := Lib.hid hsc
            rw [hm] at hc2
            have C := fun W => quiet_scalar x W
            rw [hsc] at C
            have HC := Lib.hid C
            clear hsc hm C
            go_wp2
            go_quiet ((go_at_call 18; exact Calls.quiet_of_same (HC.out _)))
            go_wp2
            go_roundw
            case rel => exact ⟨k + 1, by omega, by go_num, below_drewN HB.out _⟩
            case measure => simp [intOf]; omega
          · have hsf : scalarB x = false := by simpa using hsc
            have hm : mendR x = 65533 := by unfold mendR; rw [if_neg hsc]
            rw [hm] at hc2
            have C := fun W => quiet_scalar x W
            rw [hsf] at C
            have HC := Lib.hid C
            clear hsc hsf hm C
            go_wp2
            go_quiet ((go_at_call 18; exact Calls.quiet_of_same (HC.out _)))
            go_wp2
            go_roundw
            case rel => exact ⟨k + 1, by omega, by go_num, below_drewN HB.out _⟩
            case measure => simp [intOf]; omega
        · have HW := Lib.hid (HB3.out.trans (HB.out.mono HB3.out.size))
          obtain rfl : k = xs.length := by omega
          clear HR3 HO3 HB HB3 HO1 HB1 HF1 HR hk hlt
          go_wp2_with fail
          refine (check_any _ s (by omega) (tabs_below HT.out HW.out)).mono ?_
          rintro e w4 ⟨rfl, hb4⟩
          have HB4 := Lib.hid (after HW.out hb4)
          clear hb4
          go_wp2_with fail
          refine (mend_any _ s (by omega)).mono ?_
          rintro e w5 ⟨rfl, hb5⟩
          have HB5 := Lib.hid (after HB4.out hb5)
          clear hb5
          have C6 := check_any w5 (mendS s) (by omega) (tabs_below HT.out HB5.out)
          rw [check_mend] at C6
          have HC6 := Lib.hid C6
          clear C6
          go_wp2_with fail
          refine HC6.out.mono ?_
          rintro e w6 ⟨rfl, hb6⟩
          have HB6 := Lib.hid (after HB5.out hb6)
          clear hb6
          have C7 := count_any w6 (mendS s) (by omega)
          rw [count_mend] at C7
          have HC7 := Lib.hid C7
          clear C7
          go_wp2_with fail
          refine HC7.out.mono ?_
          rintro e w7 ⟨rfl, hb7⟩
          have HB7 := Lib.hid (after HB6.out hb7)
          clear hb7
          go_wp2_with fail
          refine (count_any w7 s (by omega)).mono ?_
          rintro e w8 ⟨rfl, hb8⟩
          have HB8 := Lib.hid (after HB7.out hb8)
          clear hb8
          have C9 := mend_any w8 (mendS s) (by omega)
          rw [mend_mend] at C9
          have HC9 := Lib.hid C9
          clear C9
          go_wp2_with fail
          refine HC9.out.mono ?_
          rintro e w9 ⟨rfl, hb9⟩
          have HB9 := Lib.hid (after HB8.out hb9)
          clear hb9
          by_cases hq : (checkOf s).2 = 0
          · have hc := check_size hq
            have hmd := mend_right hq
            rw [hc, hmd]
            have CR := fun W => runes_any W s (by omega)
            have CE := fun W a c h => encode_any W a c (textRunes s) h
            rw [show runesBytes (textRunes s) = s from hmd] at CE
            have HCR := Lib.hid CR
            have HCE := Lib.hid CE
            clear hq hc hmd CR CE
            go_wp2_with fail
            refine (HCR.out w9).mono ?_
            rintro e w10 ⟨a10, c10, rfl, hown10, hb10⟩
            have HO10 := Lib.hid hown10.toCells
            have HB10 := Lib.hid (after HB9.out hb10)
            clear hown10 hb10
            go_wp2_with fail
            refine (HCE.out w10 a10 c10 HO10.out).mono ?_
            rintro e w11 ⟨rfl, rfl⟩
            go_wp2_with fail
            refine (lives_any _ (tabs_below HT.out HB10.out)).mono ?_
            rintro e w12 ⟨rfl, hb12⟩
            go_wp2
            go_ret
            exact ⟨rfl, after HB10.out hb12⟩
          · have hne := mt (mend_iff s).1 hq
            generalize checkOf s = cs at *
            obtain ⟨p, q⟩ := cs
            simp only at hq
            have hq1 : ((q : Int) == 0) = false := by simp [hq]
            have hq2 : ((q : Int) != 0) = true := by simp [hq]
            generalize mendS s = M at *
            have hm1 : (M.toList == s.toList) = false := by
              rw [Lib.toList_data, Lib.toList_data]
              simpa using fun h => hne (bytes_ext (by simpa using h))
            clear hq hne
            go_wp2_with fail
            refine (lives_any _ (tabs_below HT.out HB9.out)).mono ?_
            rintro e w12 ⟨rfl, hb12⟩
            go_wp2
            go_ret
            exact ⟨ret_bool (by simp [hm1]), after HB9.out hb12⟩

end Go.Proofs.YthkehgmeaedflaaDoor
