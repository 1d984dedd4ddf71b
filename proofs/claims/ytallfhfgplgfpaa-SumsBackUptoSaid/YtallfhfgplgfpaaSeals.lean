/-
  Sealing and opening, the program's and the reference's, walked; and that the layer is awake.
-/
import Derived.Test.YtallfhfgplgfpaaPuts
namespace Go.Proofs.Ytallfhfgplgfpaa
open Go.RowKit

/-- Bytes, sealed. -/
def sumOf (s : ByteArray) : Nat := (Crc.more 0#32 s.data.toList).toNat
def numStr (n x : Nat) : ByteArray := ⟨(numBytes n x).toArray⟩
theorem numStr_size (n x : Nat) : (numStr n x).size = n := by
  show (numBytes n x).toArray.size = n
  simp [numBytes_length]
def sumBytes (s : ByteArray) : ByteArray := numStr 4 (sumOf s)
def sealOf (s : ByteArray) : ByteArray := s ++ sumBytes s

theorem sumOf_lt (s : ByteArray) : sumOf s < 4294967296 := (Crc.more 0#32 s.data.toList).isLt
theorem sumBytes_size (s : ByteArray) : (sumBytes s).size = 4 := numStr_size 4 _
theorem crcOf_one (s : ByteArray) : (crcOf [s]).toNat = sumOf s := rfl
theorem laid_one (s : ByteArray) : laidAt 4 [] [sumOf s] = numBytes 4 (sumOf s) := by simp [laidAt]

set_option maxHeartbeats 400000 in
theorem seal_any (s : ByteArray) (w : World) (hs : s.size ≤ 140737488355328) :
    Calls Try.prog 28 #[.string s] w fun e w' => e = .returned (.string (sealOf s)) ∧ Below w.heap.size w w' := by
  have hsz := sumBytes_size s
  go_enter Try.func28, Try.ntmps28
  go_wp2_with (first
    | (go_at_call 15; refine (crc_any (some ⟨w.heap.size, 0, none⟩) 1 [s] _ (by simp [maxLen]) (by simp [maxLen]; omega) (Cells.new _ _ _)).mono ?_; rintro e w' ⟨rfl, rfl⟩; rw [crcOf_one]))
  refine (put_u32 none 0 [] (some ⟨w.heap.size + 1, 0, none⟩) 1 [sumOf s] _ (Cells.nil _ _) (by have := Cells.new (w.alloc (.cells #[.string s] 9)) [numV .u32 (sumOf s)] 23; simpa [numV] using this) (by simpa using sumOf_lt s) (by simp)).mono ?_
  rintro e w' ⟨a, n, c, rfl, hown, hb⟩
  rw [laid_one] at hown
  have hlen : (numBytes 4 (sumOf s)).length = n := by have := hown.len; simpa using this
  have hcv : (convert 50 9 (.slice a n c)).run Try.prog w' = .ok (.string (sumBytes s)) w' := run_str 50 9 5 Try.underlying50 Try.underlying5 Try.underlying9 a n c (numBytes 4 (sumOf s)) hlen hown.toCells
  clear hown hlen
  have HB := Lib.hid (((Below.refl _ w).alloc (Nat.le_refl _) _ |>.alloc (by simp) _).trans (hb.mono (by simp; omega)))
  clear hb
  go_wp2
  go_ret
  exact ⟨rfl, HB.out⟩

/-- The reference's bytes of a number of four bytes. -/
theorem numBytes_set (x j wd : Nat) (hj : j < wd) :
    ((numBytes j x ++ List.replicate (wd - j) 0).map byteV).set j (.int .u8 ((x : Int) / 2 ^ (8 * j) % 256)) = (numBytes (j + 1) x ++ List.replicate (wd - (j + 1)) 0).map byteV := by
  have hv : Value.int .u8 ((x : Int) / 2 ^ (8 * j) % 256) = byteV (UInt8.ofNat (x / 256 ^ j)) := by
    rw [Int.pow_mul]
    have := byte_cell x j
    simp only [List.map_cons, List.map_nil, List.cons.injEq, and_true] at this
    exact this
  rw [hv, numBytes_succ, show wd - j = (wd - (j + 1)) + 1 from by omega, List.replicate_succ]
  rw [List.map_append, List.set_append]
  simp [numBytes_length]

set_option maxHeartbeats 400000 in
theorem rbytes_any (x wd : Nat) (w : World) (_hx : x < 4294967296) (hw : wd ≤ 4) :
    Calls Try.prog 52 #[.int .u32 x, .int .i64 wd] w fun e w' => e = .returned (.string (numStr wd x)) ∧ Below w.heap.size w w' := by
  obtain ⟨i0, hi, hz0, hz1, hz2⟩ := info_parts info5
  go_enter Try.func52, Try.ntmps52
  go_wp2_with (at_make; refine wpList_mk rfl _ _ 50 5 rfl i0 (.int .u8 0) 1 Try.underlying50 hi hz0 hz1 hz2 rfl wd rfl rfl (by omega) (by simp [maxLen]; omega) ?_; intro g w1 hown hb)
  go_loopw [6] (fun i wr => ∃ j : Nat, j ≤ wd ∧ i = .int .i64 j ∧ Own wr w.heap.size 1 (some ⟨g, 0, none⟩) wd wd ((numBytes j x ++ List.replicate (wd - j) 0).map byteV) ∧ Below w.heap.size w wr) (fun i _ => wd - (intOf i).toNat)
  case atStart => exact ⟨0, Nat.zero_le _, rfl, by simpa [numBytes, byteV] using hown, hb⟩
  case round =>
    obtain ⟨j, hj, rfl, hown2, hb2⟩ := hrel
    by_cases hlt : j < wd
    · obtain ⟨g', hg', h1, h2, h3, h4⟩ := hown2.addr (by omega)
      simp at hg'
      subst hg'
      have h5 := h4 j (by omega)
      obtain ⟨u, hu⟩ := Option.isSome_iff_exists.1 h5.1
      have hf := h5.2
      have HO := Lib.hid hown2
      have HB := Lib.hid hb2
      clear hown2 hb2 h5 h3 h4 hown hb
      go_wp2
      go_roundw
      case rel => exact ⟨j + 1, by omega, by go_num, by have := HO.out.stored j hlt (.int .u8 ((x : Int) / 2 ^ (8 * j) % 256)); rwa [numBytes_set x j wd hlt] at this, HB.out.setCell (p := ⟨g, j, none⟩) h1 _⟩
      case measure => simp [intOf]; omega
    · obtain rfl : j = wd := by omega
      have hcv : (convert 50 9 (.slice (some ⟨g, 0, none⟩) j j)).run Try.prog wr = .ok (.string (numStr j x)) wr := run_str 50 9 5 Try.underlying50 Try.underlying5 Try.underlying9 _ j j (numBytes j x) (numBytes_length _ _) (by have := hown2.toCells; simpa using this)
      have HB := Lib.hid hb2
      clear hown2 hb2 hown hb
      go_wp2
      go_ret
      exact ⟨rfl, HB.out⟩

set_option maxHeartbeats 400000 in
theorem rseal_any (s : ByteArray) (w : World) (hs : s.size ≤ 140737488355328) :
    Calls Try.prog 29 #[.string s] w fun e w' => e = .returned (.string (sealOf s)) ∧ Below w.heap.size w w' := by
  have hsz := numStr_size 4 (sumOf s)
  go_enter Try.func29, Try.ntmps29
  go_wp2_with (first
    | (go_at_call 18; refine (rmore_any 0#32 s _ (by simp [maxLen]; omega)).mono ?_; rintro e w' ⟨rfl, rfl⟩)
    | (go_at_call 52; refine (rbytes_any (sumOf s) 4 _ (sumOf_lt s) (by omega)).mono ?_; rintro e w' ⟨rfl, hb⟩))
  go_ret
  exact ⟨rfl, hb⟩

theorem sealOf_size (s : ByteArray) : (sealOf s).size = s.size + 4 := by
  unfold sealOf; rw [ByteArray.size_append, sumBytes_size]

/-- What Open answers: the bytes ahead of the sum, and the number of the error. -/
def openOf (s : ByteArray) : ByteArray × Int :=
  if s.size < 4 then (.empty, 120) else if sealOf (s.extract 0 (s.size - 4)) = s then (s.extract 0 (s.size - 4), 0) else (.empty, 121)

theorem toList_iff (a b : ByteArray) : (a.toList == b.toList) = decide (a = b) := by
  rw [Bool.eq_iff_iff]
  simp only [beq_iff_eq, decide_eq_true_eq, ByteArray.toList_eq]
  constructor
  · intro h
    exact ByteArray.ext (Array.ext' h)
  · rintro rfl
    rfl

set_option maxHeartbeats 400000 in
theorem open_any (s : ByteArray) (w : World) (hs : s.size ≤ 140737488355328) :
    Calls Try.prog 26 #[.string s] w fun e w' => e = .returned (.tuple #[.string (openOf s).1, .int .i64 (openOf s).2]) ∧ Below w.heap.size w w' := by
  by_cases h4 : s.size < 4
  · go_enter Try.func26, Try.ntmps26
    go_wp2
    go_ret2
    exact ⟨by simp [openOf, h4]; rfl, Below.refl _ _⟩
  · go_enter Try.func26, Try.ntmps26
    go_wp2_with (first
    | (go_at_call 28; refine (seal_any _ _ (by simp; omega)).mono ?_; rintro e w' ⟨rfl, hb⟩))
    · rename_i hne
      rw [toList_iff] at hne
      go_ret2
      exact ⟨by rw [openOf, if_neg h4, if_neg (by simpa using hne)]; rfl, hb⟩
    · rename_i heq
      rw [toList_iff] at heq
      go_ret2
      exact ⟨by rw [openOf, if_neg h4, if_pos (by simpa using heq)]; rfl, hb⟩

set_option maxHeartbeats 400000 in
theorem ropen_any (s : ByteArray) (w : World) (hs : s.size ≤ 140737488355328) :
    Calls Try.prog 27 #[.string s] w fun e w' => e = .returned (.tuple #[.string (openOf s).1, .int .i64 (openOf s).2]) ∧ Below w.heap.size w w' := by
  by_cases h4 : s.size < 4
  · go_enter Try.func27, Try.ntmps27
    go_wp2
    go_ret2
    exact ⟨by simp [openOf, h4]; rfl, Below.refl _ _⟩
  · go_enter Try.func27, Try.ntmps27
    go_wp2_with (first
    | (go_at_call 29; refine (rseal_any _ _ (by simp; omega)).mono ?_; rintro e w' ⟨rfl, hb⟩))
    · rename_i hne
      rw [toList_iff] at hne
      go_ret2
      exact ⟨by rw [openOf, if_neg h4, if_neg (by simpa using hne)]; rfl, hb⟩
    · rename_i heq
      rw [toList_iff] at heq
      go_ret2
      exact ⟨by rw [openOf, if_neg h4, if_pos (by simpa using heq)]; rfl, hb⟩

theorem extract_append_left (s t : ByteArray) : (s ++ t).extract 0 s.size = s := by
  apply ByteArray.ext
  simp [ByteArray.data_extract, ByteArray.data_append]

theorem openOf_sealOf (s : ByteArray) : openOf (sealOf s) = (s, 0) := by
  have h := sealOf_size s
  have he : (sealOf s).extract 0 ((sealOf s).size - 4) = s := by
    rw [h, Nat.add_sub_cancel]
    exact extract_append_left s _
  unfold openOf
  rw [if_neg (by omega), he, if_pos rfl]

theorem open_abcde : openOf ⟨#[97, 98, 99, 100, 101]⟩ = (.empty, 121) := by decide +kernel
theorem crc_digits : (crcOf [⟨#[49, 50, 51, 52]⟩, ⟨#[53, 54, 55, 56, 57]⟩]).toNat = 3421780262 := by decide +kernel
theorem open_ab : openOf (sealOf ⟨#[97, 98]⟩) = (⟨#[97, 98]⟩, 0) := openOf_sealOf _

set_option maxHeartbeats 400000 in
theorem awake_any (w : World) : Calls Try.prog 19 #[] w fun e w' => e = .returned (.bool true) ∧ Below w.heap.size w w' := by
  go_enter Try.func19, Try.ntmps19
  go_wp2_with (first
    | (go_at_call 28; refine (seal_any _ _ (by decide)).mono ?_; rintro e w1 ⟨rfl, hb1⟩)
    | (go_at_call 26; have hz := sealOf_size ⟨#[97, 98]⟩; refine (open_any _ _ (by decide)).mono ?_; rw [open_abcde]; rintro e w3 ⟨rfl, hb3⟩)
    | (go_at_call 26; refine (open_any _ _ (by rw [sealOf_size]; decide)).mono ?_; rw [open_ab]; rintro e w2 ⟨rfl, hb2⟩)
    | (go_at_call 15; refine (crc_any (some ⟨_, 0, none⟩) 2 [⟨#[49, 50, 51, 52]⟩, ⟨#[53, 54, 55, 56, 57]⟩] _ (by decide) (by decide) (Cells.new _ _ _)).mono ?_; rw [crc_digits]; rintro e w4 ⟨rfl, rfl⟩))
  all_goals go_ret
  exact ⟨rfl, (((hb1.trans (hb2.mono hb1.size)).trans (hb3.mono (Nat.le_trans hb1.size hb2.size))).alloc (Nat.le_trans hb1.size (Nat.le_trans hb2.size hb3.size)) _)⟩

end Go.Proofs.Ytallfhfgplgfpaa
