/-
  Right texts: their bytes are their characters' bytes; order. Plain laws.
-/
import Derived.Test.YthkehgmeaedflaaDoorJoinM
import Derived.Test.YthkehgmeaedflaaDoorBase
namespace Go.Proofs.YthkehgmeaedflaaDoor
open Go.RowKit

/-- A character's bytes. -/
def encL (r : Int) : List UInt8 := (Utf8.encode r).data.toList
/-- Numbers' bytes. -/
def encsL (l : List Int) : List UInt8 := l.flatMap encL

theorem bytes_encs (l : List Int) : (runesBytes l).data.toList = encsL l := by
  induction l with
  | nil => rfl
  | cons r l ih =>
    rw [runesBytes_cons]
    show (Utf8.encode r ++ runesBytes l).data.toList = encL r ++ encsL l
    rw [← ih, ByteArray.data_append]
    simp [encL]

theorem ofNat_self (x : UInt8) (n : Nat) (h : x.toNat = n) : UInt8.ofNat n = x := by
  subst h
  simp

theorem drop_one (s : ByteArray) (i : Nat) (h : i < s.size) : s.data.toList.drop i = s.get! i :: s.data.toList.drop (i + 1) := by
  have hl : i < s.data.toList.length := by rw [Array.length_toList]; exact h
  rw [List.drop_eq_getElem_cons hl]
  congr 1
  rw [Array.getElem_toList]
  cases s with
  | mk d => exact (getElem!_pos d i h).symm

theorem enc_of (c : Nat) (hv : Utf8.valid (c : Int) = true) : Utf8.encode (c : Int) = if c < 0x80 then ⟨#[UInt8.ofNat c]⟩ else if c < 0x800 then ⟨#[UInt8.ofNat (0xC0 + c / 64), UInt8.ofNat (0x80 + c % 64)]⟩ else if c < 0x10000 then ⟨#[UInt8.ofNat (0xE0 + c / 4096), UInt8.ofNat (0x80 + c / 64 % 64), UInt8.ofNat (0x80 + c % 64)]⟩ else ⟨#[UInt8.ofNat (0xF0 + c / 262144), UInt8.ofNat (0x80 + c / 4096 % 64), UInt8.ofNat (0x80 + c / 64 % 64), UInt8.ofNat (0x80 + c % 64)]⟩ := by
  unfold Utf8.encode
  rw [if_pos hv]
  rfl
theorem valid_of {c : Nat} (h : c < 55296 ∨ (57343 < c ∧ c ≤ 1114111)) : Utf8.valid (c : Int) = true := by
  unfold Utf8.valid
  simp
  omega
set_option maxRecDepth 20000 in
theorem encL_1 {c : Nat} (h : c < 0x80) : encL (c : Int) = [UInt8.ofNat c] := by
  unfold encL
  rw [enc_of c (valid_of (by omega)), if_pos h]
set_option maxRecDepth 20000 in
theorem encL_2 {c : Nat} (h0 : 0x80 ≤ c) (h : c < 0x800) : encL (c : Int) = [UInt8.ofNat (0xC0 + c / 64), UInt8.ofNat (0x80 + c % 64)] := by
  unfold encL
  rw [enc_of c (valid_of (by omega)), if_neg (by omega), if_pos h]
set_option maxRecDepth 20000 in
theorem encL_3 {c : Nat} (h0 : 0x800 ≤ c) (h : c < 0x10000) (hv : Utf8.valid (c : Int) = true) : encL (c : Int) = [UInt8.ofNat (0xE0 + c / 4096), UInt8.ofNat (0x80 + c / 64 % 64), UInt8.ofNat (0x80 + c % 64)] := by
  unfold encL
  rw [enc_of c hv, if_neg (by omega), if_neg (by omega), if_pos h]
set_option maxRecDepth 20000 in
theorem encL_4 {c : Nat} (h0 : 0x10000 ≤ c) (hv : Utf8.valid (c : Int) = true) : encL (c : Int) = [UInt8.ofNat (0xF0 + c / 262144), UInt8.ofNat (0x80 + c / 4096 % 64), UInt8.ofNat (0x80 + c / 64 % 64), UInt8.ofNat (0x80 + c % 64)] := by
  unfold encL
  rw [enc_of c hv, if_neg (by omega), if_neg (by omega), if_neg (by omega)]

theorem back_1 (s : ByteArray) (i b0 : Nat) (h : i < s.size) (hb0 : (s.get! i).toNat = b0) (f : b0 < 128) : s.data.toList.drop i = encL (b0 : Int) ++ s.data.toList.drop (i + 1) := by
  rw [drop_one s i h, encL_1 f, ofNat_self _ _ hb0]
  rfl
theorem back_2 (s : ByteArray) (i b0 b1 x : Nat) (hb0 : (s.get! i).toNat = b0) (hb1 : (s.get! (i + 1)).toNat = b1) (l1 : i + 1 < s.size) (f : 192 ≤ b0) (f' : b0 < 224) (p1 : 128 ≤ b1) (q1 : b1 ≤ 191) (hx : x + 128 = (b0 % 32) * 64 + b1) (hc : 128 ≤ x) : s.data.toList.drop i = encL (x : Int) ++ s.data.toList.drop (i + 2) := by
  rw [drop_one s i (by omega), drop_one s (i + 1) l1, encL_2 hc (by omega), ofNat_self (s.get! i) _ (by omega), ofNat_self (s.get! (i + 1)) _ (by omega)]
  rfl
theorem back_3 (s : ByteArray) (i b0 b1 b2 x : Nat) (hb0 : (s.get! i).toNat = b0) (hb1 : (s.get! (i + 1)).toNat = b1) (hb2 : (s.get! (i + 2)).toNat = b2) (l2 : i + 2 < s.size) (f : 224 ≤ b0) (f' : b0 < 240) (p1 : 128 ≤ b1) (q1 : b1 ≤ 191) (p2 : 128 ≤ b2) (q2 : b2 ≤ 191) (hx : x = (b0 % 16) * 4096 + (b1 - 128) * 64 + (b2 - 128)) (hc : 2048 ≤ x) (hv : Utf8.valid (x : Int) = true) : s.data.toList.drop i = encL (x : Int) ++ s.data.toList.drop (i + 3) := by
  rw [drop_one s i (by omega), drop_one s (i + 1) (by omega), drop_one s (i + 2) l2, encL_3 hc (by omega) hv, ofNat_self (s.get! i) _ (by omega), ofNat_self (s.get! (i + 1)) _ (by omega), ofNat_self (s.get! (i + 2)) _ (by omega)]
  rfl
theorem back_4 (s : ByteArray) (i b0 b1 b2 b3 x : Nat) (hb0 : (s.get! i).toNat = b0) (hb1 : (s.get! (i + 1)).toNat = b1) (hb2 : (s.get! (i + 2)).toNat = b2) (hb3 : (s.get! (i + 3)).toNat = b3) (l3 : i + 3 < s.size) (f : 240 ≤ b0) (f' : b0 ≤ 247) (p1 : 128 ≤ b1) (q1 : b1 ≤ 191) (p2 : 128 ≤ b2) (q2 : b2 ≤ 191) (p3 : 128 ≤ b3) (q3 : b3 ≤ 191) (hx : x = (b0 % 8) * 262144 + (b1 - 128) * 4096 + (b2 - 128) * 64 + (b3 - 128)) (hc : 65536 ≤ x) (hv : Utf8.valid (x : Int) = true) : s.data.toList.drop i = encL (x : Int) ++ s.data.toList.drop (i + 4) := by
  rw [drop_one s i (by omega), drop_one s (i + 1) (by omega), drop_one s (i + 2) (by omega), drop_one s (i + 3) l3, encL_4 hc hv, ofNat_self (s.get! i) _ (by omega), ofNat_self (s.get! (i + 1)) _ (by omega), ofNat_self (s.get! (i + 2)) _ (by omega), ofNat_self (s.get! (i + 3)) _ (by omega)]
  rfl

theorem bad_of {s : ByteArray} {i : Nat} (h : Utf8.decode s i = (65533, 1)) : badB s i := by
  unfold badB
  rw [h]
  exact ⟨rfl, rfl⟩

/-- A right character's bytes are its own. -/
theorem enc_back (s : ByteArray) (i : Nat) (h : i < s.size) (hb : ¬ badB s i) : s.data.toList.drop i = encL ((Utf8.decode s i).1 : Int) ++ s.data.toList.drop (i + (Utf8.decode s i).2) := by
  obtain ⟨b0, hb0⟩ : ∃ b0, (s.get! i).toNat = b0 := ⟨_, rfl⟩
  have hbb : b0 < 256 := by rw [← hb0]; exact (s.get! i).toNat_lt
  obtain ⟨b1, hb1⟩ : ∃ b1, (s.get! (i + 1)).toNat = b1 := ⟨_, rfl⟩
  obtain ⟨b2, hb2⟩ : ∃ b2, (s.get! (i + 2)).toNat = b2 := ⟨_, rfl⟩
  obtain ⟨b3, hb3⟩ : ∃ b3, (s.get! (i + 3)).toNat = b3 := ⟨_, rfl⟩
  rcases (show b0 < 128 ∨ (128 ≤ b0 ∧ b0 < 192) ∨ (192 ≤ b0 ∧ b0 < 224) ∨ (224 ≤ b0 ∧ b0 < 240) ∨ (240 ≤ b0 ∧ b0 ≤ 247) ∨ 247 < b0 from by omega) with f | ⟨f, f'⟩ | ⟨f, f'⟩ | ⟨f, f'⟩ | ⟨f, f'⟩ | f
  · rw [dec_one hb0 f]
    exact back_1 s i b0 h hb0 f
  · exact (hb (bad_of (dec_lead hb0 f (.inl f') hbb))).elim
  · by_cases c1 : tailOk s i 1
    · obtain ⟨p1, q1⟩ := tail_range c1
      rw [hb1] at p1 q1
      obtain ⟨x, hx⟩ : ∃ x, x + 128 = (b0 % 32) * 64 + b1 := ⟨(b0 % 32) * 64 + b1 - 128, by omega⟩
      have hd := dec_two hb0 hb1 c1.1 f f' p1 q1 hx
      by_cases hc : 128 ≤ x
      · rw [if_pos hc] at hd
        rw [hd]
        exact back_2 s i b0 b1 x hb0 hb1 c1.1 f f' p1 q1 hx hc
      · rw [if_neg hc] at hd
        exact (hb (bad_of hd)).elim
    · exact (hb (bad_of (dec_two_no hb0 f f' c1))).elim
  · by_cases c : tailOk s i 1 ∧ tailOk s i 2
    · obtain ⟨c1, c2⟩ := c
      obtain ⟨p1, q1⟩ := tail_range c1
      obtain ⟨p2, q2⟩ := tail_range c2
      rw [hb1] at p1 q1
      rw [hb2] at p2 q2
      obtain ⟨x, hx⟩ : ∃ x, x = (b0 % 16) * 4096 + (b1 - 128) * 64 + (b2 - 128) := ⟨_, rfl⟩
      have hd := dec_three hb0 hb1 hb2 c1.1 c2.1 f f' p1 q1 p2 q2 hx
      by_cases hc : 2048 ≤ x ∧ Utf8.valid x = true
      · rw [if_pos hc] at hd
        rw [hd]
        exact back_3 s i b0 b1 b2 x hb0 hb1 hb2 c2.1 f f' p1 q1 p2 q2 hx hc.1 hc.2
      · rw [if_neg hc] at hd
        exact (hb (bad_of hd)).elim
    · exact (hb (bad_of (dec_three_no hb0 f f' c))).elim
  · by_cases c : (tailOk s i 1 ∧ tailOk s i 2) ∧ tailOk s i 3
    · obtain ⟨⟨c1, c2⟩, c3⟩ := c
      obtain ⟨p1, q1⟩ := tail_range c1
      obtain ⟨p2, q2⟩ := tail_range c2
      obtain ⟨p3, q3⟩ := tail_range c3
      rw [hb1] at p1 q1
      rw [hb2] at p2 q2
      rw [hb3] at p3 q3
      obtain ⟨x, hx⟩ : ∃ x, x = (b0 % 8) * 262144 + (b1 - 128) * 4096 + (b2 - 128) * 64 + (b3 - 128) := ⟨_, rfl⟩
      have hd := dec_four hb0 hb1 hb2 hb3 c1.1 c2.1 c3.1 f f' p1 q1 p2 q2 p3 q3 hx
      by_cases hc : 65536 ≤ x ∧ Utf8.valid x = true
      · rw [if_pos hc] at hd
        rw [hd]
        exact back_4 s i b0 b1 b2 b3 x hb0 hb1 hb2 hb3 c3.1 f f' p1 q1 p2 q2 p3 q3 hx hc.1 hc.2
      · rw [if_neg hc] at hd
        exact (hb (bad_of hd)).elim
    · exact (hb (bad_of (dec_four_no hb0 f f' c))).elim
  · exact (hb (bad_of (dec_lead hb0 (by omega) (.inr f) hbb))).elim

theorem list_back (s : ByteArray) (m pos : Nat) (hm : s.size ≤ pos + m) (h : ∀ p ∈ placesFrom s pos, ¬ badB s p) :
    s.data.toList.drop pos = encsL (((spotsFrom s pos).map Prod.snd).map (fun n : Nat => (n : Int))) := by
  induction m generalizing pos with
  | zero =>
    rw [spotsFrom_end s pos (by omega), List.drop_eq_nil_of_le (by rw [size_list]; omega)]
    rfl
  | succ m ih =>
    by_cases hlt : pos < s.size
    · have hw := decode_width s pos
      rw [placesFrom_more s pos hlt] at h
      rw [enc_back s pos hlt (h pos (List.mem_cons_self ..)), spotsFrom_more s pos hlt, ih _ (by omega) (fun p hp => h p (List.mem_cons_of_mem _ hp))]
      rfl
    · rw [spotsFrom_end s pos hlt, List.drop_eq_nil_of_le (by rw [size_list]; omega)]
      rfl

/-- A right text is its characters' bytes. -/
theorem right_back {s : ByteArray} (h : (checkOf s).2 = 0) : s.data.toList = encsL (textRunes s) := by
  have := list_back s s.size 0 (by omega) (fun p hp => code_zero (check_zero h p hp))
  rw [← runes_snd] at this
  exact this

/-! Order -/
/-- Lists of numbers, the lesser first. -/
def lessI : List Int → List Int → Bool
  | _, [] => false
  | [], _ :: _ => true
  | a :: x, b :: y => decide (a < b) || (decide (a = b) && lessI x y)

theorem less_same (p x y : List UInt8) : Op.bytesLess (p ++ x) (p ++ y) = Op.bytesLess x y := by
  induction p with
  | nil => rfl
  | cons a p ih =>
    show Op.bytesLess (a :: (p ++ x)) (a :: (p ++ y)) = _
    simp only [Op.bytesLess]
    rw [ih]
    simp
theorem less_asymm (x y : List UInt8) (h : Op.bytesLess x y = true) : Op.bytesLess y x = false := by
  induction x generalizing y with
  | nil =>
    cases y with
    | nil => simp [Op.bytesLess] at h
    | cons b y => simp [Op.bytesLess]
  | cons a x ih =>
    cases y with
    | nil => simp [Op.bytesLess] at h
    | cons b y =>
      simp only [Op.bytesLess] at h ⊢
      simp only [Bool.or_eq_true, decide_eq_true_eq, Bool.and_eq_true, beq_iff_eq] at h
      rcases h with h | ⟨rfl, h⟩
      · have h1 : ¬ b < a := by simp only [UInt8.lt_iff_toNat_lt] at *; omega
        have h2 : ¬ b = a := by rintro rfl; exact absurd h (by simp [UInt8.lt_iff_toNat_lt])
        simp [h1, h2]
      · rw [ih y h]
        simp

theorem less_first {a b : UInt8} {x y : List UInt8} (h : a.toNat < b.toNat) : Op.bytesLess (a :: x) (b :: y) = true := by
  simp [Op.bytesLess, UInt8.lt_iff_toNat_lt, h]
theorem less_next {a b : UInt8} {x y : List UInt8} (h : a.toNat = b.toNat) (h2 : Op.bytesLess x y = true) : Op.bytesLess (a :: x) (b :: y) = true := by
  have : a = b := UInt8.toNat_inj.1 h
  subst this
  simp [Op.bytesLess, h2]

theorem to_nat {n : Nat} (h : n < 256) : (UInt8.ofNat n).toNat = n := ofNat_to n h

/-- The lesser of two characters has the lesser bytes. -/
theorem less_enc (r q : Nat) (hr : Utf8.valid (r : Int) = true) (hq : Utf8.valid (q : Int) = true) (hq2 : q ≤ 1114111) (h : r < q) (x y : List UInt8) : Op.bytesLess (encL (r : Int) ++ x) (encL (q : Int) ++ y) = true := by
  rcases (show r < 0x80 ∨ (0x80 ≤ r ∧ r < 0x800) ∨ (0x800 ≤ r ∧ r < 0x10000) ∨ 0x10000 ≤ r from by omega) with a | ⟨a, a'⟩ | ⟨a, a'⟩ | a
  · rw [encL_1 a]
    rcases (show q < 0x80 ∨ (0x80 ≤ q ∧ q < 0x800) ∨ (0x800 ≤ q ∧ q < 0x10000) ∨ 0x10000 ≤ q from by omega) with b | ⟨b, b'⟩ | ⟨b, b'⟩ | b
    · rw [encL_1 b]; exact less_first (by rw [to_nat (by omega), to_nat (by omega)]; omega)
    · rw [encL_2 b b']; exact less_first (by rw [to_nat (by omega), to_nat (by omega)]; omega)
    · rw [encL_3 b b' hq]; exact less_first (by rw [to_nat (by omega), to_nat (by omega)]; omega)
    · rw [encL_4 b hq]; exact less_first (by rw [to_nat (by omega), to_nat (by omega)]; omega)
  · rw [encL_2 a a']
    rcases (show (0x80 ≤ q ∧ q < 0x800) ∨ (0x800 ≤ q ∧ q < 0x10000) ∨ 0x10000 ≤ q from by omega) with ⟨b, b'⟩ | ⟨b, b'⟩ | b
    · rw [encL_2 b b']
      by_cases c : r / 64 < q / 64
      · exact less_first (by rw [to_nat (by omega), to_nat (by omega)]; omega)
      · exact less_next (by rw [to_nat (by omega), to_nat (by omega)]; omega) (less_first (by rw [to_nat (by omega), to_nat (by omega)]; omega))
    · rw [encL_3 b b' hq]; exact less_first (by rw [to_nat (by omega), to_nat (by omega)]; omega)
    · rw [encL_4 b hq]; exact less_first (by rw [to_nat (by omega), to_nat (by omega)]; omega)
  · rw [encL_3 a a' hr]
    rcases (show (0x800 ≤ q ∧ q < 0x10000) ∨ 0x10000 ≤ q from by omega) with ⟨b, b'⟩ | b
    · rw [encL_3 b b' hq]
      by_cases c : r / 4096 < q / 4096
      · exact less_first (by rw [to_nat (by omega), to_nat (by omega)]; omega)
      · refine less_next (by rw [to_nat (by omega), to_nat (by omega)]; omega) ?_
        by_cases c2 : r / 64 % 64 < q / 64 % 64
        · exact less_first (by rw [to_nat (by omega), to_nat (by omega)]; omega)
        · exact less_next (by rw [to_nat (by omega), to_nat (by omega)]; omega) (less_first (by rw [to_nat (by omega), to_nat (by omega)]; omega))
    · rw [encL_4 b hq]; exact less_first (by rw [to_nat (by omega), to_nat (by omega)]; omega)
  · rw [encL_4 a hr, encL_4 (by omega) hq]
    by_cases c : r / 262144 < q / 262144
    · exact less_first (by rw [to_nat (by omega), to_nat (by omega)]; omega)
    · refine less_next (by rw [to_nat (by omega), to_nat (by omega)]; omega) ?_
      by_cases c2 : r / 4096 % 64 < q / 4096 % 64
      · exact less_first (by rw [to_nat (by omega), to_nat (by omega)]; omega)
      · refine less_next (by rw [to_nat (by omega), to_nat (by omega)]; omega) ?_
        by_cases c3 : r / 64 % 64 < q / 64 % 64
        · exact less_first (by rw [to_nat (by omega), to_nat (by omega)]; omega)
        · exact less_next (by rw [to_nat (by omega), to_nat (by omega)]; omega) (less_first (by rw [to_nat (by omega), to_nat (by omega)]; omega))

theorem scalar_valid {r : Int} (h : scalarB r = true) : ∃ n : Nat, r = n ∧ Utf8.valid (n : Int) = true ∧ n ≤ 1114111 := by
  obtain ⟨h0, h1, h2⟩ := scalar_of h
  obtain ⟨n, rfl⟩ := Int.eq_ofNat_of_zero_le h0
  exact ⟨n, rfl, valid_of (by omega), by omega⟩

theorem encL_some (r : Int) : encL r ≠ [] := by
  intro h
  have := enc_pos r
  unfold encL at h
  rw [← size_list, h] at this
  simp at this

theorem less_encs (a b : List Int) (ha : ∀ r ∈ a, scalarB r = true) (hb : ∀ r ∈ b, scalarB r = true) : Op.bytesLess (encsL a) (encsL b) = lessI a b := by
  induction a generalizing b with
  | nil =>
    cases b with
    | nil => rfl
    | cons q b =>
      show Op.bytesLess [] (encL q ++ encsL b) = true
      cases h : encL q with
      | nil => exact (encL_some q h).elim
      | cons z l => rfl
  | cons r a ih =>
    cases b with
    | nil =>
      show Op.bytesLess (encL r ++ encsL a) [] = false
      cases h : encL r ++ encsL a <;> rfl
    | cons q b =>
      show Op.bytesLess (encL r ++ encsL a) (encL q ++ encsL b) = (decide (r < q) || (decide (r = q) && lessI a b))
      obtain ⟨n, rfl, hn, hn2⟩ := scalar_valid (ha r (List.mem_cons_self ..))
      obtain ⟨m, rfl, hm, hm2⟩ := scalar_valid (hb q (List.mem_cons_self ..))
      rcases Nat.lt_trichotomy n m with h | rfl | h
      · rw [less_enc n m hn hm hm2 h]
        have : (n : Int) < m := by omega
        simp [this]
      · rw [less_same, ih b (fun x hx => ha x (List.mem_cons_of_mem _ hx)) (fun x hx => hb x (List.mem_cons_of_mem _ hx))]
        simp
      · rw [less_asymm _ _ (less_enc m n hm hn hn2 h _ _)]
        have h1 : ¬ (n : Int) < m := by omega
        have h2 : ¬ (n : Int) = m := by omega
        simp only [h1, h2, decide_false, Bool.false_and, Bool.or_false]

theorem less_text {s t : ByteArray} (hs : (checkOf s).2 = 0) (ht : (checkOf t).2 = 0) : Op.bytesLess s.toList t.toList = lessI (textRunes s) (textRunes t) := by
  rw [Lib.toList_data, Lib.toList_data, right_back hs, right_back ht, less_encs _ _ (text_scalar s) (text_scalar t)]

theorem lessI_take (a b : List Int) (k : Nat) (h : a.take k = b.take k) (ha : k ≤ a.length) (hb : k ≤ b.length) : lessI a b = lessI (a.drop k) (b.drop k) := by
  induction k generalizing a b with
  | zero => rfl
  | succ k ih =>
    cases a with
    | nil => simp at ha
    | cons x a =>
      cases b with
      | nil => simp at hb
      | cons y b =>
        simp only [List.take_succ_cons, List.cons.injEq] at h
        obtain ⟨rfl, h⟩ := h
        show (decide (x < x) || (decide (x = x) && lessI a b)) = _
        rw [ih a b h (by simpa using ha) (by simpa using hb)]
        simp

end Go.Proofs.YthkehgmeaedflaaDoor
