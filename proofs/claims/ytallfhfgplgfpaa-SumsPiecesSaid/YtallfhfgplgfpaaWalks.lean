/-
  The walks of the laws on sums, on sealing and on sums that are added.
-/
import Derived.Test.YtallfhfgplgfpaaSeals
import Derived.BigQuiet
import Derived.Deep.QuietTactic
namespace Go.Proofs.Ytallfhfgplgfpaa
open Go.RowKit

set_option maxHeartbeats 400000 in
theorem names_walk (w : World) : Calls Try.prog 7 #[] w fun e w' => e = .returned (.bool true) ∧ Below w.heap.size w w' := by
  go_enter Try.func7, Try.ntmps7
  go_wp2_with (go_at_call 19; refine (awake_any _).mono ?_; rintro e w1 ⟨rfl, hb1⟩)
  go_ret
  exact ⟨rfl, hb1⟩

set_option maxHeartbeats 400000 in
theorem opens_walk (w : World) (s : ByteArray) (hs : s.size ≤ 140737488351232) : Calls Try.prog 5 #[.string s] w fun e w' => e = .returned (.bool true) ∧ Below w.heap.size w w' := by
  have hs' : s.size ≤ 140737488355328 := by omega
  go_enter Try.func5, Try.ntmps5
  go_wp2_with (first
    | (go_at_call 26; refine (open_any _ _ hs').mono ?_; rintro e w1 ⟨rfl, hb1⟩)
    | (go_at_call 27; refine (ropen_any _ _ hs').mono ?_; rintro e w2 ⟨rfl, hb2⟩)
    | (go_at_call 28; refine (seal_any _ _ hs').mono ?_; rintro e w3 ⟨rfl, hb3⟩)
    | (go_at_call 29; refine (rseal_any _ _ hs').mono ?_; rintro e w4 ⟨rfl, hb4⟩)
    | (go_at_call 19; refine (awake_any _).mono ?_; rintro e w5 ⟨rfl, hb5⟩))
  go_ret
  exact ⟨rfl, after (after (after (after hb1 hb2) hb3) hb4) hb5⟩

theorem u32_of (x : Int) (h : (Lit.int .u32 x).wf = true) : ∃ b : BitVec 32, x = b.toNat := by
  have hx : 0 ≤ x ∧ x ≤ 4294967295 := by simpa [Lit.wf, IntKind.min, IntKind.max, IntKind.signed, IntKind.bits] using h
  refine ⟨BitVec.ofNat 32 x.toNat, ?_⟩
  simp only [BitVec.toNat_ofNat]
  omega

theorem info9 : (Try.prog.info? 9).map (fun i => (i.zero, i.size, i.bytes)) = some (some (.string .empty), 1, 16) := by kernel_rfl
theorem bytes9 : Try.prog.bytesOf 9 = 16 := by kernel_rfl

theorem strs_one (l : List ByteArray) : ∀ u ∈ l.map Value.string, u.oneCell' = true := by
  intro u hu
  obtain ⟨_, _, rfl⟩ := List.mem_map.1 hu
  rfl

set_option maxHeartbeats 1000000 in
theorem crc_walk (w : World) (a : Option Addr) (c : Nat) (ss : List ByteArray) (hle : ss.length ≤ c) (hc : c * Try.prog.bytesOf 9 ≤ 140737488351232) (hr : Cells w a (ss.map Value.string)) (hsz : ∀ s ∈ ss, s.size ≤ maxLen)
    (x : Int) (hx : (Lit.int .u32 x).wf = true) (s : ByteArray) (hs : s.size ≤ 140737488351232) :
    Calls Try.prog 3 #[.slice a ss.length c, .int .u32 x, .string s] w fun e w' => e = .returned (.bool true) ∧ Below w.heap.size w w' := by
  obtain ⟨cr, rfl⟩ := u32_of x hx
  clear hx
  rw [bytes9] at hc
  obtain ⟨i0, hi, hz0, hz1, hz2⟩ := info_parts info9
  go_enter Try.func3, Try.ntmps3
  go_wp2_with (first
    | (at_builtin; refine wpList_app rfl _ _ 22 22 rfl 9 i0 (.string .empty) 1 16 Try.underlying22 hi hz0 hz1 hz2 rfl (by simp [Value.cells, Value.oneCell']) w.heap.size _ _ _ _ rfl (Own.nil _ _ _) _ _ _ rfl (Src.ofCells Try.underlying22 _ _ _ _ (by simp) hr (strs_one _) (by decide)) (by simp [maxLen]; omega) (by omega) (Nat.le_refl _) ?_; intro a1 c1 w1 hown1 hap1; have hb1 := hap1.below (Own.nil w w.heap.size 1) (Nat.le_refl _); simp only [Nat.zero_add, List.nil_append] at hown1)
    | (at_builtin; refine wpList_app rfl _ _ 22 22 rfl 9 i0 (.string .empty) 1 16 Try.underlying22 hi hz0 hz1 hz2 rfl (by simp [Value.cells, Value.oneCell']) w.heap.size _ _ _ _ rfl (hown1.alloc _) _ 1 [.string ⟨#[109, 97, 114, 107]⟩] rfl (Src.ofCells Try.underlying22 _ _ _ _ rfl (Cells.new _ _ _) (by simp [Value.oneCell']) (by decide)) (by simp [maxLen]; omega) (by omega) (by have := hb1.size; simp; omega) ?_; intro a2 c2 w2 hown2 hap2; have hle2 := hown2.le; have hb2 := (hb1.alloc hb1.size _).trans (hap2.below (hown1.alloc _) (by have := hb1.size; simp; omega)); have hpre := hown2.prefix ss.length (by omega); rw [Nat.mul_one, List.take_left' (by simp)] at hpre; obtain ⟨g, rfl, hg1, hg2, hg3, hg4⟩ := hown2.addr (by omega); have HC := Lib.hid hg3; clear hg3 hg4 hap2 hap1 hown1)
    | (go_at_call 15; refine (crc_any _ c2 ss _ (by simp [maxLen]; omega) hsz hpre.toCells).mono ?_; rintro e w' ⟨rfl, rfl⟩)
    | (go_at_call 16; refine (rcrc_any a c ss _ (by simp [maxLen]; omega) hsz (hr.below hb2)).mono ?_; rintro e w' ⟨rfl, rfl⟩)
    | (go_at_call 17; refine (more_any _ _ _ (by simp [maxLen]; omega)).mono ?_; rintro e w' ⟨rfl, rfl⟩)
    | (go_at_call 18; refine (rmore_any _ _ _ (by simp [maxLen]; omega)).mono ?_; rintro e w' ⟨rfl, rfl⟩))
  have HR := Lib.hid (hr.below hb2)
  have HB := Lib.hid hb2
  clear hr hb2 hpre hown2 hb1 hsz
  go_loopw [9] (fun i wr => ∃ k : Nat, k ≤ ss.length ∧ i = .int .i64 k ∧ Below w2.heap.size w2 wr) (fun i _ => ss.length - (intOf i).toNat)
  case atStart => exact ⟨0, Nat.zero_le _, rfl, Below.refl _ _⟩
  case round =>
    obtain ⟨k, hk, rfl, hbr⟩ := hrel
    by_cases hlt : k < ss.length
    · obtain ⟨b, off, t, rfl, htk, hck⟩ := (HR.out.below hbr).at hlt
      have hck2 : wr.cell? ⟨g, k, none⟩ = some (.string t) := by
        rw [hbr.cell hg2]
        exact HC.out k _ (by rw [List.getElem?_append_left (by simpa using hlt), List.getElem?_map, htk]; rfl)
      have HBR := Lib.hid hbr
      clear hbr htk
      have h0 : (0 : Int) ≤ (k : Int) := by omega
      have h1 : (k : Int) < (ss.length : Int) := by omega
      go_wp2
      go_quiet (fail)
      go_wp2
      go_roundw
      case rel => exact ⟨k + 1, by omega, by go_num, below_drewN HBR.out _⟩
      case measure => simp [intOf]; omega
    · have hck2 : wr.cell? ⟨g, ss.length, none⟩ = some (.string ⟨#[109, 97, 114, 107]⟩) := by
        rw [hbr.cell hg2]
        exact HC.out _ _ (by rw [List.getElem?_append_right (by simp)]; simp)
      have HBR := Lib.hid hbr
      clear hbr
      go_wp2_with (go_at_call 19; refine (awake_any _).mono ?_; rintro e w5 ⟨rfl, hb5⟩)
      go_ret
      exact ⟨rfl, after (after HB.out HBR.out) hb5⟩

theorem bits_xor_u8 (x y : UInt8) : bits BinOp.xor IntKind.u8 (x.toNat : Int) (y.toNat : Int) = ((x ^^^ y).toNat : Int) := by
  have e : ∀ z : UInt8, BitVec.ofInt 8 (z.toNat : Int) = z.toBitVec := fun z => by
    apply BitVec.eq_of_toNat_eq
    have := z.toNat_lt
    simp only [BitVec.toNat_ofInt, UInt8.toNat_toBitVec]
    omega
  simp only [bits, IntKind.bits, e]
  have h := (x ^^^ y).toNat_lt
  show IntKind.u8.wrap (((x ^^^ y).toBitVec.toNat : Nat) : Int) = _
  rw [UInt8.toNat_toBitVec]
  simp [IntKind.wrap, IntKind.signed, IntKind.bits, -UInt8.toNat_xor]
  omega

/-- Texts added bit by bit, as far as k. -/
def xorAt (la lb : List UInt8) (k : Nat) : List UInt8 := List.zipWith (· ^^^ ·) (la.take k) lb ++ la.drop k
def xorOf (a b : ByteArray) : ByteArray := ⟨(List.zipWith (· ^^^ ·) a.data.toList b.data.toList).toArray⟩

theorem xorAt_length (la lb : List UInt8) (k : Nat) (h : la.length ≤ lb.length) : (xorAt la lb k).length = la.length := by
  simp [xorAt]
  omega

theorem xorAt_at (la lb : List UInt8) (k : Nat) (h : la.length ≤ lb.length) (hk : k < la.length) : (xorAt la lb k)[k]? = la[k]? := by
  unfold xorAt
  rw [List.getElem?_append_right (by simp; omega)]
  simp
  congr 1
  omega

theorem xorAt_step (la lb : List UInt8) (k : Nat) (x y : UInt8) (h : la.length ≤ lb.length) (hx : la[k]? = some x) (hy : lb[k]? = some y) : (xorAt la lb k).set k (x ^^^ y) = xorAt la lb (k + 1) := by
  have hk := (List.getElem?_eq_some_iff.1 hx).1
  have hkb := (List.getElem?_eq_some_iff.1 hy).1
  apply List.ext_getElem?
  intro i
  have hl : (List.zipWith (fun a b => a ^^^ b) (la.take k) lb).length = k := by simp; omega
  have hl2 : (List.zipWith (fun a b => a ^^^ b) (la.take (k + 1)) lb).length = k + 1 := by simp; omega
  by_cases hi : i = k
  · subst hi
    rw [List.getElem?_set_self (by rw [xorAt_length _ _ _ h]; exact hk)]
    unfold xorAt
    rw [List.getElem?_append_left (by omega), List.getElem?_zipWith, List.getElem?_take_of_lt (by omega), hx, hy]
  · rw [List.getElem?_set_ne (by omega)]
    unfold xorAt
    by_cases hlt : i < k
    · rw [List.getElem?_append_left (by omega), List.getElem?_append_left (by omega), List.getElem?_zipWith, List.getElem?_zipWith, List.getElem?_take_of_lt (by omega), List.getElem?_take_of_lt (by omega)]
    · rw [List.getElem?_append_right (by omega), List.getElem?_append_right (by omega), hl, hl2, List.getElem?_drop, List.getElem?_drop]
      congr 1
      omega

theorem xorAt_end (la lb : List UInt8) (k : Nat) (h : la.length ≤ k) : xorAt la lb k = List.zipWith (· ^^^ ·) la lb := by
  simp [xorAt, List.take_of_length_le h, List.drop_eq_nil_of_le h]

set_option maxHeartbeats 1000000 in
theorem added_any (w : World) (a b : ByteArray) (hab : a.size ≤ b.size) (hb : b.size ≤ 140737488355328) :
    Calls Try.prog 30 #[.string a, .string b] w fun e w' => e = .returned (.string (xorOf a b)) ∧ Below w.heap.size w w' := by
  have hab' : a.data.toList.length ≤ b.data.toList.length := by simpa using hab
  go_enter Try.func30, Try.ntmps30
  go_wp2_with (with_reducible refine wpList_bytes rfl _ 9 50 5 rfl Try.underlying9 Try.underlying50 Try.underlying5 a rfl (by simp [maxLen]; omega) ?_; intro g c w1 hown1 hb1)
  go_loopw [6] (fun i wr => ∃ k : Nat, k ≤ a.size ∧ i = .int .i64 k ∧ Own wr w.heap.size 1 (some ⟨g, 0, none⟩) a.size c ((xorAt a.data.toList b.data.toList k).map byteV) ∧ Below w.heap.size w wr) (fun i _ => a.size - (intOf i).toNat)
  case atStart => exact ⟨0, Nat.zero_le _, rfl, by simpa [xorAt] using hown1, hb1⟩
  case round =>
    obtain ⟨k, hk, rfl, hown, hbr⟩ := hrel
    by_cases hlt : k < a.size
    · have hkb : k < b.size := by omega
      have hx : a.data.toList[k]? = some a[k] := by rw [List.getElem?_eq_getElem (by simpa using hlt)]; rfl
      have hy : b.data.toList[k]? = some b[k] := by rw [List.getElem?_eq_getElem (by simpa using hkb)]; rfl
      obtain ⟨g', hg', h1, h2, h3, h4⟩ := hown.addr (by have := hown.le; omega)
      simp at hg'
      subst hg'
      have hck : wr.cell? ⟨g, k, none⟩ = some (.int .u8 a[k].toNat) := h3 k _ (by rw [List.getElem?_map, xorAt_at _ _ _ hab' (by simpa using hlt), hx]; rfl)
      have hf := (h4 k (by have := hown.le; omega)).2
      have HO := Lib.hid hown
      have HBR := Lib.hid hbr
      have HX := Lib.hid hx
      have HY := Lib.hid hy
      clear hown hbr h3 h4 hx hy hown1 hb1
      have h0 : (0 : Int) ≤ (k : Int) := by omega
      have h5 : (k : Int) < (a.size : Int) := by omega
      have h6 : (k : Int) < (b.size : Int) := by omega
      go_wp2
      go_region
      go_wp2
      go_roundw
      case rel =>
        refine ⟨k + 1, by omega, by go_num, ?_, (HBR.out.setCell (p := ⟨g, k, none⟩) h1 _).drew⟩
        have := (HO.out.stored k hlt (.int .u8 ((a[k] ^^^ b[k]).toNat : Int))).drew
        rw [bits_xor_u8]
        rw [← xorAt_step _ _ _ _ _ hab' HX.out HY.out, List.map_set]
        exact this
      case measure => simp [intOf]; omega
    · have hcv : (convert 50 9 (.slice (some ⟨g, 0, none⟩) a.size c)).run Try.prog wr = .ok (.string (xorOf a b)) wr := by
        have := run_str (w := wr) (P := Try.prog) 50 9 5 Try.underlying50 Try.underlying5 Try.underlying9 (some ⟨g, 0, none⟩) a.size c (xorAt a.data.toList b.data.toList k) (by rw [xorAt_length _ _ _ hab']; simp) hown.toCells
        rw [xorAt_end _ _ _ (by simp; omega)] at this
        exact this
      have HBR := Lib.hid hbr
      clear hown hbr hown1 hb1
      go_wp2
      go_ret
      exact ⟨rfl, HBR.out⟩

theorem crc_of_one (w : World) (b off : Nat) (s : ByteArray) (hs : s.size ≤ 9223372036854775807) (hc : w.cell? ⟨b, off, none⟩ = some (.string s)) :
    Calls Try.prog 15 #[.slice (some ⟨b, off, none⟩) 1 1] w fun e w' => e = .returned (.int .u32 (Crc.more 0#32 s.data.toList).toNat) ∧ w = w' :=
  crc_any (some ⟨b, off, none⟩) 1 [s] w (by simp [maxLen]) (by simpa [maxLen] using hs) (fun _ => ⟨b, off, rfl, fun j u hu => by
    cases j with
    | zero => simp at hu; subst hu; exact hc
    | succ j => simp at hu⟩)

theorem xorOf_size (a b : ByteArray) : (xorOf a b).size = min a.size b.size := by
  show (List.zipWith (· ^^^ ·) a.data.toList b.data.toList).toArray.size = _
  simp

theorem crc_three (a b c : ByteArray) (h1 : a.size = b.size) (h2 : b.size = c.size) :
    bits BinOp.xor IntKind.u32 (bits BinOp.xor IntKind.u32 ↑(Crc.more 0#32 a.data.toList).toNat ↑(Crc.more 0#32 b.data.toList).toNat) ↑(Crc.more 0#32 c.data.toList).toNat = ((Crc.more 0#32 (xorOf (xorOf a b) c).data.toList).toNat : Int) := by
  simp only [bits_xor_u32, ofInt_toNat]
  have := Crc.more_three a.data.toList b.data.toList c.data.toList (by simpa using h1) (by simpa using h2)
  rw [this]
  rfl

set_option maxHeartbeats 1000000 in
theorem added_walk1 (w : World) (a : ByteArray) (ha : a.size ≤ 140737488351232) (b : ByteArray) (_hb : b.size ≤ 140737488351232) (c : ByteArray) (hc : c.size ≤ 140737488351232) (h1 : c.size < a.size) (h2 : c.size < b.size) :
    Calls Try.prog 6 #[.string a, .string b, .string c] w fun e w' => e = .returned (.bool true) ∧ Below w.heap.size w w' := by
  obtain ⟨A, hA⟩ : ∃ x, x = a.extract 0 c.size := ⟨_, rfl⟩
  obtain ⟨B, hB⟩ : ∃ x, x = b.extract 0 c.size := ⟨_, rfl⟩
  obtain ⟨C, hC⟩ : ∃ x, x = c := ⟨_, rfl⟩
  have s1 : A.size = B.size := by subst hA hB; simp only [ByteArray.size_extract]; omega
  have s2 : B.size = C.size := by subst hB hC; simp only [ByteArray.size_extract]; omega
  have s3 : A.size ≤ 140737488351232 := by subst hA; first | omega | (simp only [ByteArray.size_extract]; omega)
  have s4 := xorOf_size A B
  have s5 := xorOf_size (xorOf A B) C
  have HE := Lib.hid (crc_three A B C s1 s2)
  have HA := Lib.hid hA
  have HB := Lib.hid hB
  have HC := Lib.hid hC
  have l2 : B.size ≤ 140737488351232 := by omega
  have l3 : C.size ≤ 140737488351232 := by omega
  have l4 : (xorOf A B).size ≤ C.size := by omega
  have l5 : (xorOf (xorOf A B) C).size ≤ 140737488351232 := by omega
  have l6 : A.size ≤ B.size := by omega
  clear hA hB hC s1 s2 s4 s5
  go_enter Try.func6, Try.ntmps6
  go_wp2
  go_quiet (fail)
  go_wp2_with fail
  rw [← HA.out, ← HB.out, ← HC.out]
  have hs0 : w.heap.size = (w.drewN nq).heap.size := rfl
  have hb0 : Below w.heap.size w (w.drewN nq) := below_drewN (Below.refl _ _) nq
  generalize w.drewN nq = W0 at *
  rw [hs0]
  refine (crc_of_one _ W0.heap.size 0 A (by omega) (by simp)).mono ?_
  rintro e w1 ⟨rfl, rfl⟩
  go_wp2_with fail
  refine (crc_of_one _ (W0.heap.size + 1) 0 B (by omega) (by rw [World.cell?_alloc_at _ _ _ _ (by simp)]; rfl)).mono ?_
  rintro e w1 ⟨rfl, rfl⟩
  go_wp2_with fail
  refine (crc_of_one _ (W0.heap.size + 1 + 1) 0 C (by omega) (by rw [World.cell?_alloc_at _ _ _ _ (by simp)]; rfl)).mono ?_
  rintro e w1 ⟨rfl, rfl⟩
  have HE2 := HE.out
  go_wp2_with fail
  refine (added_any _ A B l6 (by omega)).mono ?_
  rintro e w2 ⟨rfl, hb2⟩
  go_wp2_with fail
  refine (added_any _ (xorOf A B) C l4 (by omega)).mono ?_
  rintro e w3 ⟨rfl, hb3⟩
  go_wp2_with fail
  refine (crc_of_one _ w3.heap.size 0 (xorOf (xorOf A B) C) (by omega) (by simp)).mono ?_
  rintro e w1 ⟨rfl, rfl⟩
  go_wp2_with (go_at_call 19; refine (awake_any _).mono ?_; rintro e w5 ⟨rfl, hb5⟩)
  go_ret
  have h3 : Below W0.heap.size W0 (((W0.alloc (.cells #[.string A] 9)).alloc (.cells #[.string B] 9)).alloc (.cells #[.string C] 9)) := (((Below.refl _ _).alloc (Nat.le_refl _) _).alloc (by simp) _).alloc (by simp; omega) _
  have h5 := after (after h3 hb2) hb3
  exact ⟨rfl, after hb0 (after (h5.alloc h5.size _) hb5)⟩

set_option maxHeartbeats 1000000 in
theorem added_walk2 (w : World) (a : ByteArray) (ha : a.size ≤ 140737488351232) (b : ByteArray) (hb : b.size ≤ 140737488351232) (c : ByteArray) (_hc : c.size ≤ 140737488351232) (h1 : b.size < a.size) (h2 : b.size ≤ c.size) :
    Calls Try.prog 6 #[.string a, .string b, .string c] w fun e w' => e = .returned (.bool true) ∧ Below w.heap.size w w' := by
  obtain ⟨A, hA⟩ : ∃ x, x = a.extract 0 b.size := ⟨_, rfl⟩
  obtain ⟨B, hB⟩ : ∃ x, x = b := ⟨_, rfl⟩
  obtain ⟨C, hC⟩ : ∃ x, x = c.extract 0 b.size := ⟨_, rfl⟩
  have s1 : A.size = B.size := by subst hA hB; simp only [ByteArray.size_extract]; omega
  have s2 : B.size = C.size := by subst hB hC; simp only [ByteArray.size_extract]; omega
  have s3 : A.size ≤ 140737488351232 := by subst hA; first | omega | (simp only [ByteArray.size_extract]; omega)
  have s4 := xorOf_size A B
  have s5 := xorOf_size (xorOf A B) C
  have HE := Lib.hid (crc_three A B C s1 s2)
  have HA := Lib.hid hA
  have HB := Lib.hid hB
  have HC := Lib.hid hC
  have l2 : B.size ≤ 140737488351232 := by omega
  have l3 : C.size ≤ 140737488351232 := by omega
  have l4 : (xorOf A B).size ≤ C.size := by omega
  have l5 : (xorOf (xorOf A B) C).size ≤ 140737488351232 := by omega
  have l6 : A.size ≤ B.size := by omega
  clear hA hB hC s1 s2 s4 s5
  go_enter Try.func6, Try.ntmps6
  go_wp2
  go_quiet (fail)
  go_wp2_with fail
  rw [← HA.out, ← HC.out, ← HB.out]
  have hs0 : w.heap.size = (w.drewN nq).heap.size := rfl
  have hb0 : Below w.heap.size w (w.drewN nq) := below_drewN (Below.refl _ _) nq
  generalize w.drewN nq = W0 at *
  rw [hs0]
  refine (crc_of_one _ W0.heap.size 0 A (by omega) (by simp)).mono ?_
  rintro e w1 ⟨rfl, rfl⟩
  go_wp2_with fail
  refine (crc_of_one _ (W0.heap.size + 1) 0 B (by omega) (by rw [World.cell?_alloc_at _ _ _ _ (by simp)]; rfl)).mono ?_
  rintro e w1 ⟨rfl, rfl⟩
  go_wp2_with fail
  refine (crc_of_one _ (W0.heap.size + 1 + 1) 0 C (by omega) (by rw [World.cell?_alloc_at _ _ _ _ (by simp)]; rfl)).mono ?_
  rintro e w1 ⟨rfl, rfl⟩
  have HE2 := HE.out
  go_wp2_with fail
  refine (added_any _ A B l6 (by omega)).mono ?_
  rintro e w2 ⟨rfl, hb2⟩
  go_wp2_with fail
  refine (added_any _ (xorOf A B) C l4 (by omega)).mono ?_
  rintro e w3 ⟨rfl, hb3⟩
  go_wp2_with fail
  refine (crc_of_one _ w3.heap.size 0 (xorOf (xorOf A B) C) (by omega) (by simp)).mono ?_
  rintro e w1 ⟨rfl, rfl⟩
  go_wp2_with (go_at_call 19; refine (awake_any _).mono ?_; rintro e w5 ⟨rfl, hb5⟩)
  go_ret
  have h3 : Below W0.heap.size W0 (((W0.alloc (.cells #[.string A] 9)).alloc (.cells #[.string B] 9)).alloc (.cells #[.string C] 9)) := (((Below.refl _ _).alloc (Nat.le_refl _) _).alloc (by simp) _).alloc (by simp; omega) _
  have h5 := after (after h3 hb2) hb3
  exact ⟨rfl, after hb0 (after (h5.alloc h5.size _) hb5)⟩

set_option maxHeartbeats 1000000 in
theorem added_walk3 (w : World) (a : ByteArray) (ha : a.size ≤ 140737488351232) (b : ByteArray) (_hb : b.size ≤ 140737488351232) (c : ByteArray) (_hc : c.size ≤ 140737488351232) (h1 : a.size ≤ b.size) (h2 : a.size ≤ c.size) :
    Calls Try.prog 6 #[.string a, .string b, .string c] w fun e w' => e = .returned (.bool true) ∧ Below w.heap.size w w' := by
  obtain ⟨A, hA⟩ : ∃ x, x = a := ⟨_, rfl⟩
  obtain ⟨B, hB⟩ : ∃ x, x = b.extract 0 a.size := ⟨_, rfl⟩
  obtain ⟨C, hC⟩ : ∃ x, x = c.extract 0 a.size := ⟨_, rfl⟩
  have s1 : A.size = B.size := by subst hA hB; simp only [ByteArray.size_extract]; omega
  have s2 : B.size = C.size := by subst hB hC; simp only [ByteArray.size_extract]; omega
  have s3 : A.size ≤ 140737488351232 := by subst hA; first | omega | (simp only [ByteArray.size_extract]; omega)
  have s4 := xorOf_size A B
  have s5 := xorOf_size (xorOf A B) C
  have HE := Lib.hid (crc_three A B C s1 s2)
  have HA := Lib.hid hA
  have HB := Lib.hid hB
  have HC := Lib.hid hC
  have l2 : B.size ≤ 140737488351232 := by omega
  have l3 : C.size ≤ 140737488351232 := by omega
  have l4 : (xorOf A B).size ≤ C.size := by omega
  have l5 : (xorOf (xorOf A B) C).size ≤ 140737488351232 := by omega
  have l6 : A.size ≤ B.size := by omega
  clear hA hB hC s1 s2 s4 s5
  go_enter Try.func6, Try.ntmps6
  go_wp2
  go_quiet (fail)
  go_wp2_with fail
  rw [← HB.out, ← HC.out, ← HA.out]
  have hs0 : w.heap.size = (w.drewN nq).heap.size := rfl
  have hb0 : Below w.heap.size w (w.drewN nq) := below_drewN (Below.refl _ _) nq
  generalize w.drewN nq = W0 at *
  rw [hs0]
  refine (crc_of_one _ W0.heap.size 0 A (by omega) (by simp)).mono ?_
  rintro e w1 ⟨rfl, rfl⟩
  go_wp2_with fail
  refine (crc_of_one _ (W0.heap.size + 1) 0 B (by omega) (by rw [World.cell?_alloc_at _ _ _ _ (by simp)]; rfl)).mono ?_
  rintro e w1 ⟨rfl, rfl⟩
  go_wp2_with fail
  refine (crc_of_one _ (W0.heap.size + 1 + 1) 0 C (by omega) (by rw [World.cell?_alloc_at _ _ _ _ (by simp)]; rfl)).mono ?_
  rintro e w1 ⟨rfl, rfl⟩
  have HE2 := HE.out
  go_wp2_with fail
  refine (added_any _ A B l6 (by omega)).mono ?_
  rintro e w2 ⟨rfl, hb2⟩
  go_wp2_with fail
  refine (added_any _ (xorOf A B) C l4 (by omega)).mono ?_
  rintro e w3 ⟨rfl, hb3⟩
  go_wp2_with fail
  refine (crc_of_one _ w3.heap.size 0 (xorOf (xorOf A B) C) (by omega) (by simp)).mono ?_
  rintro e w1 ⟨rfl, rfl⟩
  go_wp2_with (go_at_call 19; refine (awake_any _).mono ?_; rintro e w5 ⟨rfl, hb5⟩)
  go_ret
  have h3 : Below W0.heap.size W0 (((W0.alloc (.cells #[.string A] 9)).alloc (.cells #[.string B] 9)).alloc (.cells #[.string C] 9)) := (((Below.refl _ _).alloc (Nat.le_refl _) _).alloc (by simp) _).alloc (by simp; omega) _
  have h5 := after (after h3 hb2) hb3
  exact ⟨rfl, after hb0 (after (h5.alloc h5.size _) hb5)⟩

theorem added_walk (w : World) (a : ByteArray) (ha : a.size ≤ 140737488351232) (b : ByteArray) (hb : b.size ≤ 140737488351232) (c : ByteArray) (hc : c.size ≤ 140737488351232) :
    Calls Try.prog 6 #[.string a, .string b, .string c] w fun e w' => e = .returned (.bool true) ∧ Below w.heap.size w w' := by
  rcases (show (c.size < a.size ∧ c.size < b.size) ∨ (b.size < a.size ∧ b.size ≤ c.size) ∨ (a.size ≤ b.size ∧ a.size ≤ c.size) from by omega) with ⟨h1, h2⟩ | ⟨h1, h2⟩ | ⟨h1, h2⟩
  · exact added_walk1 w a ha b hb c hc h1 h2
  · exact added_walk2 w a ha b hb c hc h1 h2
  · exact added_walk3 w a ha b hb c hc h1 h2

end Go.Proofs.Ytallfhfgplgfpaa
