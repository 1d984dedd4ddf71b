/-
  The reference's bytes of a character, and of many: walked.
-/
import Derived.Test.YthkehgmeaedflaaDoorSmalls
import Derived.Test.YthkehgmeaedflaaDoorRSame
namespace Go.Proofs.YthkehgmeaedflaaDoor
open Go.RowKit

set_option maxHeartbeats 1000000 in
theorem rone_any (x : Int) (w : World) (h0 : 0 ≤ x) (h1 : x < 256) : Calls Tryd.prog 75 #[.int .i64 x] w fun e w' => e = .returned (.string ⟨#[UInt8.ofNat x.toNat]⟩) ∧ Below w.heap.size w w' := by
  have hx : x % 256 = x := by omega
  have hv : byteV (UInt8.ofNat x.toNat) = .int .u8 x := by
    unfold byteV
    rw [ofNat_to _ (by omega)]
    congr 1
    omega
  have hcs := Cells.new w [byteV (UInt8.ofNat x.toNat)] 5
  have cv : (convert 104 9 (.slice (some ⟨w.heap.size, 0, none⟩) 1 1)).run Tryd.prog (w.alloc (.cells #[.int .u8 x] 5)) = .ok (.string ⟨#[UInt8.ofNat x.toNat]⟩) (w.alloc (.cells #[.int .u8 x] 5)) := by
    rw [hv] at hcs
    exact run_str (P := Tryd.prog) (w := w.alloc (.cells #[.int .u8 x] 5)) 104 9 5 Tryd.underlying104 Tryd.underlying5 Tryd.underlying9 (some ⟨w.heap.size, 0, none⟩) 1 1 [UInt8.ofNat x.toNat] rfl (by rw [List.map_singleton, hv]; exact hcs)
  clear hcs hv
  go_enter Tryd.func75, Tryd.ntmps75
  go_wp2
  go_ret
  exact ⟨rfl, (Below.refl _ _).alloc (Nat.le_refl _) _⟩

set_option maxHeartbeats 1000000 in
theorem rscalar_any (r : Int) (w : World) : Calls Tryd.prog 32 #[.int .i32 r] w fun e w' => e = .returned (.bool (scalarB r)) ∧ w = w' := by
  by_cases h0 : 0 ≤ r
  · by_cases h1 : r ≤ 1114111
    · by_cases h2 : r < 55296
      · have hb : scalarB r = true := by unfold scalarB; rw [decide_eq_true]; omega
        rw [hb]
        clear hb
        go_enter Tryd.func32, Tryd.ntmps32
        go_wp2
        go_ret
        exact ⟨rfl, rfl⟩
      · have h2' : 55296 ≤ r := by omega
        by_cases h3 : 57343 < r
        · have hb : scalarB r = true := by unfold scalarB; rw [decide_eq_true]; omega
          rw [hb]
          clear hb h2
          go_enter Tryd.func32, Tryd.ntmps32
          go_wp2
          go_ret
          exact ⟨rfl, rfl⟩
        · have h3' : r ≤ 57343 := by omega
          have hb : scalarB r = false := by unfold scalarB; rw [decide_eq_false]; omega
          rw [hb]
          clear hb h2 h3
          go_enter Tryd.func32, Tryd.ntmps32
          go_wp2
          go_ret
          exact ⟨ret_bool (by simp; omega), rfl⟩
    · have h1' : 1114111 < r := by omega
      have hb : scalarB r = false := by unfold scalarB; rw [decide_eq_false]; omega
      rw [hb]
      clear hb h1
      go_enter Tryd.func32, Tryd.ntmps32
      go_wp2
      go_ret
      exact ⟨rfl, rfl⟩
  · have h0' : r < 0 := by omega
    have hb : scalarB r = false := by unfold scalarB; rw [decide_eq_false]; omega
    rw [hb]
    clear hb h0
    go_enter Tryd.func32, Tryd.ntmps32
    go_wp2
    go_ret
    exact ⟨rfl, rfl⟩

theorem rscalar_is {r : Int} {b : Bool} (h : scalarB r = b) (w : World) : Calls Tryd.prog 32 #[.int .i32 r] w fun e w' => e = .returned (.bool b) ∧ w = w' := by
  subst h
  exact rscalar_any r w

set_option maxHeartbeats 1000000 in
theorem rwidth_any (r : Int) (w : World) : Calls Tryd.prog 34 #[.int .i32 r] w fun e w' => e = .returned (.int .i64 (widthOf r)) ∧ w = w' := by
  cases hs : scalarB r
  · have hw : widthOf r = 0 := by unfold widthOf; rw [hs]; rfl
    rw [hw]
    have HS := Lib.hid (rscalar_is hs)
    clear hs hw
    go_enter Tryd.func34, Tryd.ntmps34
    go_wp2_with (go_at_call 32; refine (HS.out _).mono ?_; rintro e w' ⟨rfl, rfl⟩)
    go_ret
    exact ⟨rfl, rfl⟩
  · have HS := Lib.hid (rscalar_is hs)
    have HW := Lib.hid (show widthOf r = if r < 128 then 1 else if r < 2048 then 2 else if r < 65536 then 3 else 4 by unfold widthOf; rw [hs]; rfl)
    clear hs
    rcases (show r < 128 ∨ (128 ≤ r ∧ r < 2048) ∨ (2048 ≤ r ∧ r < 65536) ∨ 65536 ≤ r by omega) with h | ⟨h, h'⟩ | ⟨h, h'⟩ | h
    all_goals
      go_enter Tryd.func34, Tryd.ntmps34
      go_wp2_with (go_at_call 32; refine (HS.out _).mono ?_; rintro e w' ⟨rfl, rfl⟩)
      go_ret
      refine ⟨ret_int ?_, rfl⟩
      rw [HW.out]
      repeat' split
      all_goals first | rfl | omega

theorem rwidth_is {r : Int} {n : Nat} (h : widthOf r = n) (w : World) : Calls Tryd.prog 34 #[.int .i32 r] w fun e w' => e = .returned (.int .i64 n) ∧ w = w' := by
  subst h
  exact rwidth_any r w

theorem ret_str {a b : ByteArray} (h : a = b) : Ending.returned (.string a) = .returned (.string b) := by rw [h]

set_option maxRecDepth 20000 in
set_option maxHeartbeats 4000000 in
theorem rseq_any (r : Int) (w : World) : Calls Tryd.prog 59 #[.int .i32 r] w fun e w' => e = .returned (.string (Utf8.encode r)) ∧ Below w.heap.size w w' := by
  cases hs : scalarB r
  · have he : Utf8.encode r = ⟨#[239, 191, 189]⟩ := by
      have hv : ¬ Utf8.valid r = true := by
        intro hv
        have : scalarB r = true := by
          unfold Utf8.valid at hv
          unfold scalarB
          simp at hv ⊢
          omega
        rw [hs] at this
        cases this
      unfold Utf8.encode
      rw [if_neg hv]
      decide
    rw [he]
    have HW := Lib.hid (rwidth_is (r := r) (n := 0) (by unfold widthOf; rw [hs]; rfl))
    clear hs he
    go_enter Tryd.func59, Tryd.ntmps59
    go_wp2_with (go_at_call 34; refine (HW.out _).mono ?_; rintro e w' ⟨rfl, rfl⟩)
    go_ret
    exact ⟨rfl, Below.refl _ _⟩
  · obtain ⟨c, rfl, hv, hc⟩ := scalar_valid hs
    have HV := Lib.hid hv
    clear hv
    have hc0 : (0 : Int) ≤ (c : Int) := by omega
    have hc1 : (c : Int) ≤ 1114111 := by omega
    rcases (show c < 128 ∨ (128 ≤ c ∧ c < 2048) ∨ (2048 ≤ c ∧ c < 65536) ∨ 65536 ≤ c by omega) with h | ⟨h, h'⟩ | ⟨h, h'⟩ | h
    · have HW := Lib.hid (rwidth_is (r := (c : Int)) (n := 1) (by unfold widthOf; rw [hs, if_pos rfl, if_pos (by omega)]))
      have HE := Lib.hid (encL_1 h)
      have hi : (c : Int) < 128 := by omega
      clear hs
      go_enter Tryd.func59, Tryd.ntmps59
      go_wp2_with (first | (go_at_call 34; refine (HW.out _).mono ?_; rintro e w' ⟨rfl, rfl⟩) | (go_at_call 75; refine (rone_any _ _ (by omega) (by omega)).mono ?_; rintro e w2 ⟨rfl, hb2⟩))
      go_ret
      refine ⟨ret_str (bytes_ext ?_), hb2⟩
      rw [show (Utf8.encode (c : Int)).data.toList = encL (c : Int) from rfl, HE.out]
    · have HW := Lib.hid (rwidth_is (r := (c : Int)) (n := 2) (by unfold widthOf; rw [hs, if_pos rfl, if_neg (by omega), if_pos (by omega)]))
      have HE := Lib.hid (encL_2 h h')
      have hi : (c : Int) < 2048 := by omega
      have hj : 128 ≤ (c : Int) := by omega
      clear hs
      go_enter Tryd.func59, Tryd.ntmps59
      go_wp2_with (go_at_call 34; refine (HW.out _).mono ?_; rintro e w' ⟨rfl, rfl⟩)
      refine (rone_any _ _ (by omega) (by omega)).mono ?_
      rintro e w2 ⟨rfl, hb2⟩
      have HB2 := Lib.hid hb2
      clear hb2
      go_wp2_with fail
      refine (rone_any _ _ (by omega) (by omega)).mono ?_
      rintro e w3 ⟨rfl, hb3⟩
      have HB3 := Lib.hid (after HB2.out hb3)
      clear hb3
      go_wp2
      go_ret
      refine ⟨ret_str (bytes_ext ?_), HB3.out⟩
      rw [show (Utf8.encode (c : Int)).data.toList = encL (c : Int) from rfl, HE.out]
      simp [ByteArray.data_append, UInt8.ofNat_add]
    · have HW := Lib.hid (rwidth_is (r := (c : Int)) (n := 3) (by unfold widthOf; rw [hs, if_pos rfl, if_neg (by omega), if_neg (by omega), if_pos (by omega)]))
      have HE := Lib.hid (encL_3 h h' HV.out)
      have hi : (c : Int) < 65536 := by omega
      have hj : 2048 ≤ (c : Int) := by omega
      clear hs
      go_enter Tryd.func59, Tryd.ntmps59
      go_wp2_with (go_at_call 34; refine (HW.out _).mono ?_; rintro e w' ⟨rfl, rfl⟩)
      refine (rone_any _ _ (by omega) (by omega)).mono ?_
      rintro e w2 ⟨rfl, hb2⟩
      have HB2 := Lib.hid hb2
      clear hb2
      go_wp2_with fail
      refine (rone_any _ _ (by omega) (by omega)).mono ?_
      rintro e w3 ⟨rfl, hb3⟩
      have HB3 := Lib.hid (after HB2.out hb3)
      clear hb3
      go_wp2_with fail
      refine (rone_any _ _ (by omega) (by omega)).mono ?_
      rintro e w4 ⟨rfl, hb4⟩
      have HB4 := Lib.hid (after HB3.out hb4)
      clear hb4
      go_wp2
      go_ret
      refine ⟨ret_str (bytes_ext ?_), HB4.out⟩
      rw [show (Utf8.encode (c : Int)).data.toList = encL (c : Int) from rfl, HE.out]
      simp [ByteArray.data_append, UInt8.ofNat_add]
    · have HW := Lib.hid (rwidth_is (r := (c : Int)) (n := 4) (by unfold widthOf; rw [hs, if_pos rfl, if_neg (by omega), if_neg (by omega), if_neg (by omega)]))
      have HE := Lib.hid (encL_4 h HV.out)
      have hj : 65536 ≤ (c : Int) := by omega
      clear hs
      go_enter Tryd.func59, Tryd.ntmps59
      go_wp2_with (go_at_call 34; refine (HW.out _).mono ?_; rintro e w' ⟨rfl, rfl⟩)
      refine (rone_any _ _ (by omega) (by omega)).mono ?_
      rintro e w2 ⟨rfl, hb2⟩
      have HB2 := Lib.hid hb2
      clear hb2
      go_wp2_with fail
      refine (rone_any _ _ (by omega) (by omega)).mono ?_
      rintro e w3 ⟨rfl, hb3⟩
      have HB3 := Lib.hid (after HB2.out hb3)
      clear hb3
      go_wp2_with fail
      refine (rone_any _ _ (by omega) (by omega)).mono ?_
      rintro e w4 ⟨rfl, hb4⟩
      have HB4 := Lib.hid (after HB3.out hb4)
      clear hb4
      go_wp2_with fail
      refine (rone_any _ _ (by omega) (by omega)).mono ?_
      rintro e w5 ⟨rfl, hb5⟩
      have HB5 := Lib.hid (after HB4.out hb5)
      clear hb5
      go_wp2
      go_ret
      refine ⟨ret_str (bytes_ext ?_), HB5.out⟩
      rw [show (Utf8.encode (c : Int)).data.toList = encL (c : Int) from rfl, HE.out]
      simp [ByteArray.data_append, UInt8.ofNat_add]

end Go.Proofs.YthkehgmeaedflaaDoor
