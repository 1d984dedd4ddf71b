/-
  The bits in which two texts are unlike: the program's Burst and the reference's, walked; both come to one plain function.
-/
import Derived.Test.YtallfhfgplgfpaaSeals
import Derived.BigQuiet
import Derived.Deep.QuietTactic
namespace Go.Proofs.Ytallfhfgplgfpaa
open Go.RowKit

/-- A bit of bytes. -/
def bitN (s : ByteArray) (i : Nat) : Nat := (s.data.toList.getD (i / 8) 0).toNat / 2 ^ (i % 8) % 2

theorem bitN_lt (s : ByteArray) (i : Nat) : bitN s i < 2 := Nat.mod_lt _ (by omega)

theorem bits_and1_u8 (x : Int) (h0 : 0 ≤ x) (h1 : x < 256) : bits BinOp.and IntKind.u8 x 1 = x % 2 := by
  obtain ⟨n, rfl⟩ := Int.eq_ofNat_of_zero_le h0
  show IntKind.u8.wrap ((BitVec.ofInt 8 (n : Int) &&& BitVec.ofInt 8 1).toNat : Int) = _
  have e1 : (BitVec.ofInt 8 (n : Int)).toNat = n := by simp only [BitVec.toNat_ofInt]; omega
  have e2 : (BitVec.ofInt 8 1).toNat = 1 := by decide
  rw [BitVec.toNat_and, e1, e2, Nat.and_one_is_mod]
  simp [IntKind.wrap, IntKind.signed, IntKind.bits]
  omega

theorem bit_walk (s : ByteArray) (i : Nat) (h : i / 8 < s.size) : bits BinOp.and IntKind.u8 ((s[i / 8].toNat : Int) / 2 ^ (i % 8)) 1 = (bitN s i : Int) := by
  have hb := s[i / 8].toNat_lt
  have e : (s[i / 8].toNat : Int) / 2 ^ (i % 8) = ((s[i / 8].toNat / 2 ^ (i % 8) : Nat) : Int) := by simp
  have hle := Nat.div_le_self s[i / 8].toNat (2 ^ (i % 8))
  have e0 : (0 : Int) ≤ ((s[i / 8].toNat / 2 ^ (i % 8) : Nat) : Int) := Int.natCast_nonneg _
  have e1 : ((s[i / 8].toNat / 2 ^ (i % 8) : Nat) : Int) < 256 := by generalize s[i / 8].toNat / 2 ^ (i % 8) = y at *; omega
  rw [bits_and1_u8 _ (by rw [e]; exact e0) (by rw [e]; exact e1), e]
  unfold bitN
  have : s.data.toList.getD (i / 8) 0 = s[i / 8] := by
    rw [List.getD_eq_getElem?_getD, List.getElem?_eq_getElem (by simpa using h)]
    rfl
  rw [this]
  simp

set_option maxHeartbeats 400000 in
theorem bit_any (s : ByteArray) (i : Nat) (w : World) (h : i / 8 < s.size) (hi : i ≤ 9007199254740992) :
    Calls Try.prog 60 #[.string s, .int .i64 i] w fun e w' => e = .returned (.int .u8 (bitN s i)) ∧ w = w' := by
  have h1 : (i : Int) / 8 < (s.size : Int) := by omega
  go_enter Try.func60, Try.ntmps60
  go_wp2
  go_ret
  exact ⟨ret_int (bit_walk s i h), rfl⟩

set_option maxHeartbeats 400000 in
theorem rbit_any (s : ByteArray) (i : Nat) (w : World) (h : i / 8 < s.size) (hi : i ≤ 9007199254740992) :
    Calls Try.prog 61 #[.string s, .int .i64 i] w fun e w' => e = .returned (.int .i64 (bitN s i)) ∧ w = w' := by
  have h1 : (i : Int) / 8 < (s.size : Int) := by omega
  have h2 := bitN_lt s i
  have h3 := bit_walk s i h
  go_enter Try.func61, Try.ntmps61
  go_wp2
  go_ret
  exact ⟨rfl, rfl⟩

/-- The first and the last bit, below i, in which two texts are unlike; -1 where there is none. -/
def unlike (a b : ByteArray) : Nat → Int × Int
  | 0 => (-1, -1)
  | i + 1 => if bitN a i = bitN b i then unlike a b i else (if (unlike a b i).1 < 0 then i else (unlike a b i).1, i)

theorem unlike_bounds (a b : ByteArray) (i : Nat) : -1 ≤ (unlike a b i).1 ∧ (unlike a b i).1 ≤ (unlike a b i).2 ∧ (unlike a b i).2 < i ∧ ((unlike a b i).1 < 0 → (unlike a b i).2 = -1) := by
  induction i with
  | zero => simp [unlike]
  | succ i ih =>
    simp only [unlike]
    split
    · omega
    · split <;> simp <;> omega

theorem unlike_same (a b : ByteArray) (i : Nat) (h : bitN a i = bitN b i) : unlike a b (i + 1) = unlike a b i := by simp [unlike, h]
theorem unlike_new (a b : ByteArray) (i : Nat) (h : ¬ bitN a i = bitN b i) (hf : (unlike a b i).1 < 0) : unlike a b (i + 1) = ((i : Int), (i : Int)) := by simp [unlike, h, hf]
theorem unlike_old (a b : ByteArray) (i : Nat) (h : ¬ bitN a i = bitN b i) (hf : ¬ (unlike a b i).1 < 0) : unlike a b (i + 1) = ((unlike a b i).1, (i : Int)) := by simp [unlike, h, hf]

theorem unlike_byte (a b : ByteArray) (k : Nat) (h : a.data.toList.getD k 0 = b.data.toList.getD k 0) : unlike a b (8 * (k + 1)) = unlike a b (8 * k) := by
  have : ∀ j, j < 8 → bitN a (8 * k + j) = bitN b (8 * k + j) := by
    intro j hj
    unfold bitN
    rw [show (8 * k + j) / 8 = k from by omega, h]
  rw [show 8 * (k + 1) = 8 * k + 1 + 1 + 1 + 1 + 1 + 1 + 1 + 1 from by omega]
  rw [unlike_same _ _ _ (this 7 (by omega)), unlike_same _ _ _ (this 6 (by omega)), unlike_same _ _ _ (this 5 (by omega)), unlike_same _ _ _ (this 4 (by omega)), unlike_same _ _ _ (this 3 (by omega)), unlike_same _ _ _ (this 2 (by omega)), unlike_same _ _ _ (this 1 (by omega)), show unlike a b (8 * k + 1) = unlike a b (8 * k) from unlike_same _ _ _ (this 0 (by omega))]

/-- What Burst answers. -/
def burstOf (a b : ByteArray) : Int × Int × Int :=
  if a.size ≠ b.size then (0, 0, 2) else if (unlike a b (8 * a.size)).1 < 0 then (0, 0, 0) else ((unlike a b (8 * a.size)).1, (unlike a b (8 * a.size)).2 - (unlike a b (8 * a.size)).1 + 1, 0)

theorem ret_three {a b c a' b' c' : Int} (h : (a, b, c) = (a', b', c')) : Ending.returned (.tuple #[.int .i64 a, .int .i64 b, .int .i64 c]) = .returned (.tuple #[.int .i64 a', .int .i64 b', .int .i64 c']) := by
  simp only [Prod.mk.injEq] at h
  rw [h.1, h.2.1, h.2.2]

set_option maxHeartbeats 2000000 in
theorem rburst_any (a b : ByteArray) (w : World) (ha : a.size ≤ 140737488355328) :
    Calls Try.prog 42 #[.string a, .string b] w fun e w' => e = .returned (.tuple #[.int .i64 (burstOf a b).1, .int .i64 (burstOf a b).2.1, .int .i64 (burstOf a b).2.2]) ∧ w = w' := by
  by_cases hab : a.size = b.size
  · have hne : ((a.size : Int) != (b.size : Int)) = false := by simp [hab]
    have HAB := Lib.hid hab
    clear hab
    go_enter Try.func42, Try.ntmps42
    go_wp2
    clear hne
    go_loop [7, 8, 9] (fun f l i => ∃ k : Nat, k ≤ 8 * a.size ∧ i = .int .i64 k ∧ f = .int .i64 (unlike a b k).1 ∧ l = .int .i64 (unlike a b k).2) (fun _ _ i => 8 * a.size - (intOf i).toNat)
    case atStart => exact ⟨0, Nat.zero_le _, rfl, rfl, rfl⟩
    case round =>
      obtain ⟨k, hk, rfl, rfl, rfl⟩ := hrel
      obtain ⟨b1, b2, b3, b4⟩ := unlike_bounds a b k
      by_cases hlt : k < 8 * a.size
      · have hka : k / 8 < a.size := by omega
        have hkb : k / 8 < b.size := by have := HAB.out; omega
        have hk9 : k ≤ 9007199254740992 := by omega
        by_cases hq : bitN a k = bitN b k
        · have hq2 : ((bitN a k : Int) != (bitN b k : Int)) = false := by simp [hq]
          have HQ := Lib.hid hq
          clear hq b4
          go_wp2_with (go_at_call 61; refine (rbit_any _ k _ (by assumption) hk9).mono ?_; rintro e w' ⟨rfl, rfl⟩)
          go_round
          case rel => exact ⟨k + 1, by omega, by go_num, by rw [unlike_same a b k HQ.out], by rw [unlike_same a b k HQ.out]⟩
          case measure => simp [intOf]; omega
        · have hq2 : ((bitN a k : Int) != (bitN b k : Int)) = true := by simp; omega
          have HQ := Lib.hid hq
          clear hq
          by_cases hf : (unlike a b k).1 < 0
          · have HF := Lib.hid hf
            clear b4
            go_wp2_with (go_at_call 61; refine (rbit_any _ k _ (by assumption) hk9).mono ?_; rintro e w' ⟨rfl, rfl⟩)
            go_round
            case rel => exact ⟨k + 1, by omega, by go_num, by rw [unlike_new a b k HQ.out HF.out], by rw [unlike_new a b k HQ.out HF.out]⟩
            case measure => simp [intOf]; omega
          · have HF := Lib.hid hf
            clear b4
            go_wp2_with (go_at_call 61; refine (rbit_any _ k _ (by assumption) hk9).mono ?_; rintro e w' ⟨rfl, rfl⟩)
            go_round
            case rel => exact ⟨k + 1, by omega, by go_num, by rw [unlike_old a b k HQ.out (by have := HF.out; omega)], by rw [unlike_old a b k HQ.out (by have := HF.out; omega)]⟩
            case measure => simp [intOf]; omega
      · obtain rfl : k = 8 * a.size := by omega
        by_cases hf : (unlike a b (8 * a.size)).1 < 0
        · have HF := Lib.hid hf
          clear b4
          go_wp2
          go_ret3
          exact ⟨ret_three (by unfold burstOf; rw [if_neg (by simpa using HAB.out), if_pos HF.out]), rfl⟩
        · have HF := Lib.hid hf
          clear b4
          go_wp2
          go_ret3
          exact ⟨ret_three (by unfold burstOf; rw [if_neg (by simpa using HAB.out), if_neg (by have := HF.out; omega)]), rfl⟩
  · have hne : ((a.size : Int) != (b.size : Int)) = true := by simp; omega
    go_enter Try.func42, Try.ntmps42
    go_wp2
    go_ret3
    exact ⟨ret_three (by unfold burstOf; rw [if_pos hab]), rfl⟩

theorem getD_at (s : ByteArray) (i : Nat) (h : i < s.size) : s.data.toList.getD i 0 = s[i] := by
  rw [List.getD_eq_getElem?_getD, List.getElem?_eq_getElem (by simpa using h)]
  rfl

set_option maxHeartbeats 2000000 in
theorem burst_any (a b : ByteArray) (w : World) (ha : a.size ≤ 140737488355328) :
    Calls Try.prog 41 #[.string a, .string b] w fun e w' => e = .returned (.tuple #[.int .i64 (burstOf a b).1, .int .i64 (burstOf a b).2.1, .int .i64 (burstOf a b).2.2]) ∧ Below w.heap.size w w' := by
  by_cases hab : a.size = b.size
  · have hne : ((a.size : Int) != (b.size : Int)) = false := by simp [hab]
    have HAB := Lib.hid hab
    clear hab
    go_enter Try.func41, Try.ntmps41
    go_wp2
    clear hne
    go_loopw [7, 8, 18] (fun f l i wr => ∃ k : Nat, k ≤ a.size ∧ i = .int .i64 k ∧ f = .int .i64 (unlike a b (8 * k)).1 ∧ l = .int .i64 (unlike a b (8 * k)).2 ∧ Below w.heap.size w wr) (fun _ _ i _ => a.size - (intOf i).toNat)
    case atStart => exact ⟨0, Nat.zero_le _, rfl, rfl, rfl, Below.refl _ _⟩
    case round =>
      obtain ⟨k, hk, rfl, rfl, rfl, hb⟩ := hrel
      have HB := Lib.hid hb
      clear hb
      by_cases hlt : k < a.size
      · have hlt2 : k < b.size := by have := HAB.out; omega
        have h0 : (0 : Int) ≤ (k : Int) := by omega
        have h1 : (k : Int) < (a.size : Int) := by omega
        have h2 : (k : Int) < (b.size : Int) := by omega
        by_cases hq : a[k] = b[k]
        · have hq2 : ((a[k].toNat : Int) == (b[k].toNat : Int)) = true := by simp [hq]
          have HQ := Lib.hid hq
          clear hq
          go_wp2
          go_quiet (fail)
          go_wp2
          go_roundw
          case rel =>
            have hu := unlike_byte a b k (by rw [getD_at a k hlt, getD_at b k hlt2, HQ.out])
            exact ⟨k + 1, by omega, by go_num, by rw [hu], by rw [hu], below_drewN HB.out _⟩
          case measure => simp [intOf]; omega
        · have hq2 : ((a[k].toNat : Int) == (b[k].toNat : Int)) = false := by
            rw [beq_eq_false_iff_ne]
            intro e
            exact hq (UInt8.toNat_inj.1 (by omega))
          clear hq
          go_wp2
          go_quiet (fail)
          go_wp2
          clear hq2
          have HB2 := Lib.hid (below_drewN HB.out nq)
          generalize wr.drewN nq = wq at *
          go_loopw [7, 8, 10] (fun f l i wx => wq = wx ∧ ∃ j : Nat, 8 * k ≤ j ∧ j ≤ 8 * k + 8 ∧ i = .int .i64 j ∧ f = .int .i64 (unlike a b j).1 ∧ l = .int .i64 (unlike a b j).2) (fun _ _ i _ => 8 * k + 8 - (intOf i).toNat)
          case atStart => exact ⟨rfl, 8 * k, Nat.le_refl _, by omega, by go_num, rfl, rfl⟩
          case round =>
            obtain ⟨rfl, j, hj1, hj2, rfl, rfl, rfl⟩ := hrel
            obtain ⟨b1, b2, b3, b4⟩ := unlike_bounds a b j
            clear b4
            by_cases hlj : j < 8 * k + 8
            · have hka : j / 8 < a.size := by omega
              have hkb : j / 8 < b.size := by omega
              have hk9 : j ≤ 9007199254740992 := by omega
              by_cases hq : bitN a j = bitN b j
              · have hq2 : ((bitN a j : Int) == (bitN b j : Int)) = true := by simp [hq]
                have HQ := Lib.hid hq
                clear hq
                go_wp2_with (go_at_call 60; refine (bit_any _ j _ (by assumption) hk9).mono ?_; rintro e w' ⟨rfl, rfl⟩)
                go_roundw
                case rel => exact ⟨by trivial, j + 1, by omega, by omega, by go_num, by rw [unlike_same a b j HQ.out], by rw [unlike_same a b j HQ.out]⟩
                case measure => simp [intOf]; omega
              · have hq2 : ((bitN a j : Int) == (bitN b j : Int)) = false := by simp; omega
                have HQ := Lib.hid hq
                clear hq
                by_cases hf : (unlike a b j).1 < 0
                · have HF := Lib.hid hf
                  go_wp2_with (go_at_call 60; refine (bit_any _ j _ (by assumption) hk9).mono ?_; rintro e w' ⟨rfl, rfl⟩)
                  go_roundw
                  case rel => exact ⟨by trivial, j + 1, by omega, by omega, by go_num, by rw [unlike_new a b j HQ.out HF.out], by rw [unlike_new a b j HQ.out HF.out]⟩
                  case measure => simp [intOf]; omega
                · have HF := Lib.hid hf
                  go_wp2_with (go_at_call 60; refine (bit_any _ j _ (by assumption) hk9).mono ?_; rintro e w' ⟨rfl, rfl⟩)
                  go_roundw
                  case rel => exact ⟨by trivial, j + 1, by omega, by omega, by go_num, by rw [unlike_old a b j HQ.out (by have := HF.out; omega)], by rw [unlike_old a b j HQ.out (by have := HF.out; omega)]⟩
                  case measure => simp [intOf]; omega
            · obtain rfl : j = 8 * k + 8 := by omega
              go_wp2
              go_roundw
              case rel => exact ⟨k + 1, by omega, by go_num, rfl, rfl, HB2.out⟩
              case measure => simp [intOf]; omega
      · obtain rfl : k = a.size := by omega
        by_cases hf : (unlike a b (8 * a.size)).1 < 0
        · have HF := Lib.hid hf
          obtain ⟨b1, b2, b3, b4⟩ := unlike_bounds a b (8 * a.size)
          clear b4
          go_wp2
          go_ret3
          exact ⟨ret_three (by unfold burstOf; rw [if_neg (by simpa using HAB.out), if_pos HF.out]), HB.out⟩
        · have HF := Lib.hid hf
          obtain ⟨b1, b2, b3, b4⟩ := unlike_bounds a b (8 * a.size)
          clear b4
          go_wp2
          go_ret3
          exact ⟨ret_three (by unfold burstOf; rw [if_neg (by simpa using HAB.out), if_neg (by have := HF.out; omega)]), HB.out⟩
  · have hne : ((a.size : Int) != (b.size : Int)) = true := by simp; omega
    go_enter Try.func41, Try.ntmps41
    go_wp2
    go_ret3
    exact ⟨ret_three (by unfold burstOf; rw [if_pos hab]), Below.refl _ _⟩

set_option maxHeartbeats 1000000 in
theorem bursts_walk (w : World) (a : ByteArray) (ha : a.size ≤ 140737488351232) (b : ByteArray) (_hb : b.size ≤ 140737488351232) :
    Calls Try.prog 10 #[.string a, .string b] w fun e w' => e = .returned (.bool true) ∧ Below w.heap.size w w' := by
  have ha' : a.size ≤ 140737488355328 := by omega
  go_enter Try.func10, Try.ntmps10
  go_wp2_with (first
    | (go_at_call 41; refine (burst_any a b _ ha').mono ?_; rintro e w1 ⟨rfl, hb1⟩)
    | (go_at_call 42; refine (rburst_any a b _ ha').mono ?_; rintro e w2 ⟨rfl, rfl⟩)
    | (go_at_call 19; refine (awake_any _).mono ?_; rintro e w5 ⟨rfl, hb5⟩))
  go_ret
  exact ⟨rfl, after hb1 hb5⟩

end Go.Proofs.Ytallfhfgplgfpaa
