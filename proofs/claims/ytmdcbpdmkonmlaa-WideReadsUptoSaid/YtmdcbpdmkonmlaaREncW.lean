/-
  The reference's bytes of a character, and of many: walked (layer 1's).
-/
import Derived.Test.YtmdcbpdmkonmlaaBackM
namespace Go.Proofs.Ytmdcbpdmkonmlaa
open Go.RowKit

/-- A character's bytes. -/
def encL (r : Int) : List UInt8 := (Utf8.encode r).data.toList
theorem enc_of (c : Nat) (hv : Utf8.valid (c : Int) = true) : Utf8.encode (c : Int) = if c < 0x80 then ⟨#[UInt8.ofNat c]⟩ else if c < 0x800 then ⟨#[UInt8.ofNat (0xC0 + c / 64), UInt8.ofNat (0x80 + c % 64)]⟩ else if c < 0x10000 then ⟨#[UInt8.ofNat (0xE0 + c / 4096), UInt8.ofNat (0x80 + c / 64 % 64), UInt8.ofNat (0x80 + c % 64)]⟩ else ⟨#[UInt8.ofNat (0xF0 + c / 262144), UInt8.ofNat (0x80 + c / 4096 % 64), UInt8.ofNat (0x80 + c / 64 % 64), UInt8.ofNat (0x80 + c % 64)]⟩ := by
  unfold Utf8.encode
  rw [if_pos hv]
  rfl
theorem valid_of {c : Nat} (h : c < 55296 ∨ (57343 < c ∧ c ≤ 1114111)) : Utf8.valid (c : Int) = true := by
  unfold Utf8.valid
  simp
  omega
set_option maxRecDepth 20000 in
theorem encL_1 {c : Nat} (h : c < 0x80) : encL (c : Int) = [UInt8.ofNat c] := by
  unfold encL
  rw [enc_of c (valid_of (by omega)), if_pos h]
set_option maxRecDepth 20000 in
theorem encL_2 {c : Nat} (h0 : 0x80 ≤ c) (h : c < 0x800) : encL (c : Int) = [UInt8.ofNat (0xC0 + c / 64), UInt8.ofNat (0x80 + c % 64)] := by
  unfold encL
  rw [enc_of c (valid_of (by omega)), if_neg (by omega), if_pos h]
set_option maxRecDepth 20000 in
theorem encL_3 {c : Nat} (h0 : 0x800 ≤ c) (h : c < 0x10000) (hv : Utf8.valid (c : Int) = true) : encL (c : Int) = [UInt8.ofNat (0xE0 + c / 4096), UInt8.ofNat (0x80 + c / 64 % 64), UInt8.ofNat (0x80 + c % 64)] := by
  unfold encL
  rw [enc_of c hv, if_neg (by omega), if_neg (by omega), if_pos h]
set_option maxRecDepth 20000 in
theorem encL_4 {c : Nat} (h0 : 0x10000 ≤ c) (hv : Utf8.valid (c : Int) = true) : encL (c : Int) = [UInt8.ofNat (0xF0 + c / 262144), UInt8.ofNat (0x80 + c / 4096 % 64), UInt8.ofNat (0x80 + c / 64 % 64), UInt8.ofNat (0x80 + c % 64)] := by
  unfold encL
  rw [enc_of c hv, if_neg (by omega), if_neg (by omega), if_neg (by omega)]

theorem scalar_valid {r : Int} (h : scalarB r = true) : ∃ n : Nat, r = n ∧ Utf8.valid (n : Int) = true ∧ n ≤ 1114111 := by
  obtain ⟨h0, h1, h2⟩ := scalar_of h
  obtain ⟨n, rfl⟩ := Int.eq_ofNat_of_zero_le h0
  exact ⟨n, rfl, valid_of (by omega), by omega⟩

/-- How many bytes a character's right sequence has. -/
def longW (r : Int) : Nat := if scalarB r then (if r < 128 then 1 else if r < 2048 then 2 else if r < 65536 then 3 else 4) else 0

theorem enc_le (r : Int) : (Utf8.encode r).size ≤ 4 := by
  unfold Utf8.encode
  dsimp only
  generalize (if Utf8.valid r = true then r.toNat else Utf8.runeError) = c
  split
  · show 1 ≤ 4; omega
  · split
    · show 2 ≤ 4; omega
    · split
      · show 3 ≤ 4; omega
      · show 4 ≤ 4; omega
theorem bytes_le (l : List Int) : (runesBytes l).size ≤ 4 * l.length := by
  induction l with
  | nil => show 0 ≤ 0; omega
  | cons r l ih =>
    rw [runesBytes_cons, ByteArray.size_append, List.length_cons]
    have := enc_le r
    omega
theorem bytes_ext {s t : ByteArray} (h : s.data.toList = t.data.toList) : s = t := by
  cases s; cases t
  congr 1
  exact Array.ext' h
theorem ret_bool' {a b : Bool} (h : a = b) : Ending.returned (.bool a) = .returned (.bool b) := by rw [h]
set_option maxHeartbeats 1000000 in
theorem rone_any (x : Int) (w : World) (h0 : 0 ≤ x) (h1 : x < 256) : Calls Try.prog 71 #[.int .i64 x] w fun e w' => e = .returned (.string ⟨#[UInt8.ofNat x.toNat]⟩) ∧ Below w.heap.size w w' := by
  have hx : x % 256 = x := by omega
  have hv : byteV (UInt8.ofNat x.toNat) = .int .u8 x := by
    unfold byteV
    rw [ofNat_to _ (by omega)]
    congr 1
    omega
  have hcs := Cells.new w [byteV (UInt8.ofNat x.toNat)] 5
  have cv : (convert 80 9 (.slice (some ⟨w.heap.size, 0, none⟩) 1 1)).run Try.prog (w.alloc (.cells #[.int .u8 x] 5)) = .ok (.string ⟨#[UInt8.ofNat x.toNat]⟩) (w.alloc (.cells #[.int .u8 x] 5)) := by
    rw [hv] at hcs
    exact run_str (P := Try.prog) (w := w.alloc (.cells #[.int .u8 x] 5)) 80 9 5 Try.underlying80 Try.underlying5 Try.underlying9 (some ⟨w.heap.size, 0, none⟩) 1 1 [UInt8.ofNat x.toNat] rfl (by rw [List.map_singleton, hv]; exact hcs)
  clear hcs hv
  go_enter Try.func71, Try.ntmps71
  go_wp2
  go_ret
  exact ⟨rfl, (Below.refl _ _).alloc (Nat.le_refl _) _⟩

theorem rscalar_is {r : Int} {b : Bool} (h : scalarB r = b) (w : World) : Calls Try.prog 56 #[.int .i32 r] w fun e w' => e = .returned (.bool b) ∧ w = w' := by
  subst h
  exact rscalar_any r w

set_option maxHeartbeats 1000000 in
theorem r1width_any (r : Int) (w : World) : Calls Try.prog 70 #[.int .i32 r] w fun e w' => e = .returned (.int .i64 (longW r)) ∧ w = w' := by
  cases hs : scalarB r
  · have hw : longW r = 0 := by unfold longW; rw [hs]; rfl
    rw [hw]
    have HS := Lib.hid (rscalar_is hs)
    clear hs hw
    go_enter Try.func70, Try.ntmps70
    go_wp2_with (go_at_call 56; refine (HS.out _).mono ?_; rintro e w' ⟨rfl, rfl⟩)
    go_ret
    exact ⟨rfl, rfl⟩
  · have HS := Lib.hid (rscalar_is hs)
    have HW := Lib.hid (show longW r = if r < 128 then 1 else if r < 2048 then 2 else if r < 65536 then 3 else 4 by unfold longW; rw [hs]; rfl)
    clear hs
    rcases (show r < 128 ∨ (128 ≤ r ∧ r < 2048) ∨ (2048 ≤ r ∧ r < 65536) ∨ 65536 ≤ r by omega) with h | ⟨h, h'⟩ | ⟨h, h'⟩ | h
    all_goals
      go_enter Try.func70, Try.ntmps70
      go_wp2_with (go_at_call 56; refine (HS.out _).mono ?_; rintro e w' ⟨rfl, rfl⟩)
      go_ret
      refine ⟨ret_int ?_, rfl⟩
      rw [HW.out]
      repeat' split
      all_goals first | rfl | omega

theorem r1width_is {r : Int} {n : Nat} (h : longW r = n) (w : World) : Calls Try.prog 70 #[.int .i32 r] w fun e w' => e = .returned (.int .i64 n) ∧ w = w' := by
  subst h
  exact r1width_any r w

theorem ret_str {a b : ByteArray} (h : a = b) : Ending.returned (.string a) = .returned (.string b) := by rw [h]

set_option maxRecDepth 20000 in
set_option maxHeartbeats 4000000 in
theorem rseq_any (r : Int) (w : World) : Calls Try.prog 63 #[.int .i32 r] w fun e w' => e = .returned (.string (Utf8.encode r)) ∧ Below w.heap.size w w' := by
  cases hs : scalarB r
  · have he : Utf8.encode r = ⟨#[239, 191, 189]⟩ := by
      have hv : ¬ Utf8.valid r = true := by
        intro hv
        have : scalarB r = true := by
          unfold Utf8.valid at hv
          unfold scalarB
          simp at hv ⊢
          omega
        rw [hs] at this
        cases this
      unfold Utf8.encode
      rw [if_neg hv]
      decide
    rw [he]
    have HW := Lib.hid (r1width_is (r := r) (n := 0) (by unfold longW; rw [hs]; rfl))
    clear hs he
    go_enter Try.func63, Try.ntmps63
    go_wp2_with (go_at_call 70; refine (HW.out _).mono ?_; rintro e w' ⟨rfl, rfl⟩)
    go_ret
    exact ⟨rfl, Below.refl _ _⟩
  · obtain ⟨c, rfl, hv, hc⟩ := scalar_valid hs
    have HV := Lib.hid hv
    clear hv
    have hc0 : (0 : Int) ≤ (c : Int) := by omega
    have hc1 : (c : Int) ≤ 1114111 := by omega
    rcases (show c < 128 ∨ (128 ≤ c ∧ c < 2048) ∨ (2048 ≤ c ∧ c < 65536) ∨ 65536 ≤ c by omega) with h | ⟨h, h'⟩ | ⟨h, h'⟩ | h
    · have HW := Lib.hid (r1width_is (r := (c : Int)) (n := 1) (by unfold longW; rw [hs, if_pos rfl, if_pos (by omega)]))
      have HE := Lib.hid (encL_1 h)
      have hi : (c : Int) < 128 := by omega
      clear hs
      go_enter Try.func63, Try.ntmps63
      go_wp2_with (first | (go_at_call 70; refine (HW.out _).mono ?_; rintro e w' ⟨rfl, rfl⟩) | (go_at_call 71; refine (rone_any _ _ (by omega) (by omega)).mono ?_; rintro e w2 ⟨rfl, hb2⟩))
      go_ret
      refine ⟨ret_str (bytes_ext ?_), hb2⟩
      rw [show (Utf8.encode (c : Int)).data.toList = encL (c : Int) from rfl, HE.out]
    · have HW := Lib.hid (r1width_is (r := (c : Int)) (n := 2) (by unfold longW; rw [hs, if_pos rfl, if_neg (by omega), if_pos (by omega)]))
      have HE := Lib.hid (encL_2 h h')
      have hi : (c : Int) < 2048 := by omega
      have hj : 128 ≤ (c : Int) := by omega
      clear hs
      go_enter Try.func63, Try.ntmps63
      go_wp2_with (go_at_call 70; refine (HW.out _).mono ?_; rintro e w' ⟨rfl, rfl⟩)
      refine (rone_any _ _ (by omega) (by omega)).mono ?_
      rintro e w2 ⟨rfl, hb2⟩
      have HB2 := Lib.hid hb2
      clear hb2
      go_wp2_with fail
      refine (rone_any _ _ (by omega) (by omega)).mono ?_
      rintro e w3 ⟨rfl, hb3⟩
      have HB3 := Lib.hid (after HB2.out hb3)
      clear hb3
      go_wp2
      go_ret
      refine ⟨ret_str (bytes_ext ?_), HB3.out⟩
      rw [show (Utf8.encode (c : Int)).data.toList = encL (c : Int) from rfl, HE.out]
      simp [ByteArray.data_append, UInt8.ofNat_add]
    · have HW := Lib.hid (r1width_is (r := (c : Int)) (n := 3) (by unfold longW; rw [hs, if_pos rfl, if_neg (by omega), if_neg (by omega), if_pos (by omega)]))
      have HE := Lib.hid (encL_3 h h' HV.out)
      have hi : (c : Int) < 65536 := by omega
      have hj : 2048 ≤ (c : Int) := by omega
      clear hs
      go_enter Try.func63, Try.ntmps63
      go_wp2_with (go_at_call 70; refine (HW.out _).mono ?_; rintro e w' ⟨rfl, rfl⟩)
      refine (rone_any _ _ (by omega) (by omega)).mono ?_
      rintro e w2 ⟨rfl, hb2⟩
      have HB2 := Lib.hid hb2
      clear hb2
      go_wp2_with fail
      refine (rone_any _ _ (by omega) (by omega)).mono ?_
      rintro e w3 ⟨rfl, hb3⟩
      have HB3 := Lib.hid (after HB2.out hb3)
      clear hb3
      go_wp2_with fail
      refine (rone_any _ _ (by omega) (by omega)).mono ?_
      rintro e w4 ⟨rfl, hb4⟩
      have HB4 := Lib.hid (after HB3.out hb4)
      clear hb4
      go_wp2
      go_ret
      refine ⟨ret_str (bytes_ext ?_), HB4.out⟩
      rw [show (Utf8.encode (c : Int)).data.toList = encL (c : Int) from rfl, HE.out]
      simp [ByteArray.data_append, UInt8.ofNat_add]
    · have HW := Lib.hid (r1width_is (r := (c : Int)) (n := 4) (by unfold longW; rw [hs, if_pos rfl, if_neg (by omega), if_neg (by omega), if_neg (by omega)]))
      have HE := Lib.hid (encL_4 h HV.out)
      have hj : 65536 ≤ (c : Int) := by omega
      clear hs
      go_enter Try.func63, Try.ntmps63
      go_wp2_with (go_at_call 70; refine (HW.out _).mono ?_; rintro e w' ⟨rfl, rfl⟩)
      refine (rone_any _ _ (by omega) (by omega)).mono ?_
      rintro e w2 ⟨rfl, hb2⟩
      have HB2 := Lib.hid hb2
      clear hb2
      go_wp2_with fail
      refine (rone_any _ _ (by omega) (by omega)).mono ?_
      rintro e w3 ⟨rfl, hb3⟩
      have HB3 := Lib.hid (after HB2.out hb3)
      clear hb3
      go_wp2_with fail
      refine (rone_any _ _ (by omega) (by omega)).mono ?_
      rintro e w4 ⟨rfl, hb4⟩
      have HB4 := Lib.hid (after HB3.out hb4)
      clear hb4
      go_wp2_with fail
      refine (rone_any _ _ (by omega) (by omega)).mono ?_
      rintro e w5 ⟨rfl, hb5⟩
      have HB5 := Lib.hid (after HB4.out hb5)
      clear hb5
      go_wp2
      go_ret
      refine ⟨ret_str (bytes_ext ?_), HB5.out⟩
      rw [show (Utf8.encode (c : Int)).data.toList = encL (c : Int) from rfl, HE.out]
      simp [ByteArray.data_append, UInt8.ofNat_add]

theorem bytes_snoc (l : List Int) (x : Int) : runesBytes (l ++ [x]) = runesBytes l ++ Utf8.encode x := by
  unfold runesBytes
  rw [List.foldl_append]
  rfl

set_option maxHeartbeats 2000000 in
theorem rencode_any (w : World) (a : Option Addr) (c : Nat) (xs : List Int) (hn : xs.length ≤ 17592186044416) (hr : Cells w a (xs.map (Value.int .i32))) :
    Calls Try.prog 47 #[.slice a xs.length c] w fun e w' => e = .returned (.string (runesBytes xs)) ∧ Below w.heap.size w w' := by
  have HR := Lib.hid hr
  clear hr
  go_enter Try.func47, Try.ntmps47
  go_wp2
  go_loopw [3, 4] (fun v i wr => ∃ k : Nat, k ≤ xs.length ∧ v = .string (runesBytes (xs.take k)) ∧ i = .int .i64 k ∧ Below w.heap.size w wr) (fun _ i _ => xs.length - (intOf i).toNat)
  case atStart => exact ⟨0, Nat.zero_le _, rfl, rfl, Below.refl _ _⟩
  case round =>
    obtain ⟨k, hk, rfl, rfl, hb⟩ := hrel
    have HB := Lib.hid hb
    clear hb
    have hk0 : (0 : Int) ≤ (k : Int) := by omega
    by_cases hlt : k < xs.length
    · obtain ⟨b1, o1, x, rfl, hx, hc1⟩ := (HR.out.below HB.out).at hlt
      have hlt2 : (k : Int) < (xs.length : Int) := by omega
      have hs := bytes_snoc (xs.take k) x
      rw [show xs.take k ++ [x] = xs.take (k + 1) by rw [List.take_add_one, hx]; rfl] at hs
      have HS := Lib.hid hs
      have hl := bytes_le (xs.take k)
      have hl2 : (xs.take k).length ≤ k := List.length_take_le _ _
      have hsz : (runesBytes (xs.take k)).size ≤ 70368744177664 := by omega
      have hen := enc_le x
      clear hx hs hl hl2
      generalize runesBytes (xs.take k) = S at *
      go_wp2_with (go_at_call 63; refine (rseq_any _ _).mono ?_; rintro e w1 ⟨rfl, hb1⟩)
      go_roundw
      case rel => exact ⟨k + 1, by omega, by rw [HS.out], by go_num, after HB.out hb1⟩
      case measure => simp [intOf]; omega
    · obtain rfl : k = xs.length := by omega
      rw [List.take_of_length_le (Nat.le_refl _)]
      go_wp2
      go_ret
      exact ⟨rfl, HB.out⟩

end Go.Proofs.Ytmdcbpdmkonmlaa
