/-
  The language's own reading of one character, by its bytes; texts one behind the other; numbers as text and back. Plain laws.
-/
import Derived.Test.YthkehgmeaedflaaDoorSpots
namespace Go.Proofs.YthkehgmeaedflaaDoor
open Go.RowKit

theorem get_at2 (s : ByteArray) (i : Nat) (h : i < s.size) : (s.get! i).toNat = s[i].toNat := by
  cases s with
  | mk d => exact congrArg UInt8.toNat (getElem!_pos d i h)

theorem dec_one {s : ByteArray} {i b0 : Nat} (g0 : (s.get! i).toNat = b0) (h : b0 < 128) : Utf8.decode s i = (b0, 1) := by
  simp [Utf8.decode, g0, h]

theorem dec_lead {s : ByteArray} {i b0 : Nat} (g0 : (s.get! i).toNat = b0) (h1 : 128 ≤ b0) (h2 : b0 < 192 ∨ 247 < b0) (h3 : b0 < 256) : Utf8.decode s i = (65533, 1) := by
  have e1 : ¬ b0 < 128 := by omega
  have e2 : ¬ b0 / 32 = 6 := by omega
  have e3 : ¬ b0 / 16 = 14 := by omega
  have e4 : ¬ b0 / 8 = 30 := by omega
  simp [Utf8.decode, g0, e1, e2, e3, e4, Utf8.runeError]

theorem dec_two_no {s : ByteArray} {i b0 : Nat} (g0 : (s.get! i).toNat = b0) (h1 : 192 ≤ b0) (h2 : b0 < 224) (hc : ¬ (i + 1 < s.size ∧ (s.get! (i + 1)).toNat / 64 = 2)) : Utf8.decode s i = (65533, 1) := by
  have e1 : ¬ b0 < 128 := by omega
  have e3 : ¬ b0 / 16 = 14 := by omega
  have e4 : ¬ b0 / 8 = 30 := by omega
  have hc2 : (decide (i + 1 < s.size) && ((s.get! (i + 1)).toNat / 64 == 2)) = false := by
    rw [Bool.eq_false_iff]
    simpa using hc
  simp only [Utf8.decode, Nat.add_zero, g0, e1, if_false, hc2, Bool.and_false, Bool.false_and]
  simp [Utf8.runeError]

theorem dec_two {s : ByteArray} {i b0 b1 x : Nat} (g0 : (s.get! i).toNat = b0) (g1 : (s.get! (i + 1)).toNat = b1) (l1 : i + 1 < s.size) (h1 : 192 ≤ b0) (h2 : b0 < 224) (p1 : 128 ≤ b1) (q1 : b1 ≤ 191) (hx : x + 128 = (b0 % 32) * 64 + b1) : Utf8.decode s i = if 128 ≤ x then (x, 2) else (65533, 1) := by
  have e1 : ¬ b0 < 128 := by omega
  have e2 : b0 / 32 = 6 := by omega
  have e3 : b1 / 64 = 2 := by omega
  have e4 : b0 % 32 * 64 + b1 % 64 = x := by omega
  simp [Utf8.decode, g0, g1, e1, e2, e3, l1, e4, Utf8.runeError]

theorem dec_three_no {s : ByteArray} {i b0 : Nat} (g0 : (s.get! i).toNat = b0) (h1 : 224 ≤ b0) (h2 : b0 < 240) (hc : ¬ ((i + 1 < s.size ∧ (s.get! (i + 1)).toNat / 64 = 2) ∧ (i + 2 < s.size ∧ (s.get! (i + 2)).toNat / 64 = 2))) : Utf8.decode s i = (65533, 1) := by
  have e1 : ¬ b0 < 128 := by omega
  have e2 : ¬ b0 / 32 = 6 := by omega
  have e3 : b0 / 16 = 14 := by omega
  have e4 : ¬ b0 / 8 = 30 := by omega
  have hc2 : ((decide (i + 1 < s.size) && ((s.get! (i + 1)).toNat / 64 == 2)) && (decide (i + 2 < s.size) && ((s.get! (i + 2)).toNat / 64 == 2))) = false := by
    rw [Bool.eq_false_iff]
    simpa using hc
  simp only [Utf8.decode, Nat.add_zero, g0, e1, if_false]
  rw [if_neg (by simp [e2]), if_neg (by rw [Bool.and_assoc, hc2]; simp)]
  simp [e4, Utf8.runeError]

theorem dec_three {s : ByteArray} {i b0 b1 b2 x : Nat} (g0 : (s.get! i).toNat = b0) (g1 : (s.get! (i + 1)).toNat = b1) (g2 : (s.get! (i + 2)).toNat = b2) (l1 : i + 1 < s.size) (l2 : i + 2 < s.size) (h1 : 224 ≤ b0) (h2 : b0 < 240) (p1 : 128 ≤ b1) (q1 : b1 ≤ 191) (p2 : 128 ≤ b2) (q2 : b2 ≤ 191) (hx : x = (b0 % 16) * 4096 + (b1 - 128) * 64 + (b2 - 128)) : Utf8.decode s i = if 2048 ≤ x ∧ Utf8.valid x = true then (x, 3) else (65533, 1) := by
  have e1 : ¬ b0 < 128 := by omega
  have e2 : ¬ b0 / 32 = 6 := by omega
  have e3 : b0 / 16 = 14 := by omega
  have e5 : b1 / 64 = 2 := by omega
  have e6 : b2 / 64 = 2 := by omega
  have e4 : b0 % 16 * 4096 + b1 % 64 * 64 + b2 % 64 = x := by omega
  simp [Utf8.decode, g0, g1, g2, e1, e2, e3, e5, e6, l1, l2, Utf8.runeError]
  have e7 : (b0 : Int) % 16 * 4096 + (b1 : Int) % 64 * 64 + (b2 : Int) % 64 = (x : Int) := by omega
  rw [e4, e7]

theorem dec_four_no {s : ByteArray} {i b0 : Nat} (g0 : (s.get! i).toNat = b0) (h1 : 240 ≤ b0) (h2 : b0 ≤ 247) (hc : ¬ (((i + 1 < s.size ∧ (s.get! (i + 1)).toNat / 64 = 2) ∧ (i + 2 < s.size ∧ (s.get! (i + 2)).toNat / 64 = 2)) ∧ (i + 3 < s.size ∧ (s.get! (i + 3)).toNat / 64 = 2))) : Utf8.decode s i = (65533, 1) := by
  have e1 : ¬ b0 < 128 := by omega
  have e2 : ¬ b0 / 32 = 6 := by omega
  have e3 : ¬ b0 / 16 = 14 := by omega
  have e4 : b0 / 8 = 30 := by omega
  have hc2 : (((decide (i + 1 < s.size) && ((s.get! (i + 1)).toNat / 64 == 2)) && (decide (i + 2 < s.size) && ((s.get! (i + 2)).toNat / 64 == 2))) && (decide (i + 3 < s.size) && ((s.get! (i + 3)).toNat / 64 == 2))) = false := by
    rw [Bool.eq_false_iff]
    simpa using hc
  simp only [Utf8.decode, Nat.add_zero, g0, e1, if_false]
  rw [if_neg (by simp [e2]), if_neg (by simp [e3]), if_neg (by
    rw [Bool.and_assoc, Bool.and_assoc, ← Bool.and_assoc (decide (i + 1 < s.size) && _), hc2]
    simp)]
  simp [Utf8.runeError]

theorem dec_four {s : ByteArray} {i b0 b1 b2 b3 x : Nat} (g0 : (s.get! i).toNat = b0) (g1 : (s.get! (i + 1)).toNat = b1) (g2 : (s.get! (i + 2)).toNat = b2) (g3 : (s.get! (i + 3)).toNat = b3) (l1 : i + 1 < s.size) (l2 : i + 2 < s.size) (l3 : i + 3 < s.size) (h1 : 240 ≤ b0) (h2 : b0 ≤ 247) (p1 : 128 ≤ b1) (q1 : b1 ≤ 191) (p2 : 128 ≤ b2) (q2 : b2 ≤ 191) (p3 : 128 ≤ b3) (q3 : b3 ≤ 191) (hx : x = (b0 % 8) * 262144 + (b1 - 128) * 4096 + (b2 - 128) * 64 + (b3 - 128)) : Utf8.decode s i = if 65536 ≤ x ∧ Utf8.valid x = true then (x, 4) else (65533, 1) := by
  have e1 : ¬ b0 < 128 := by omega
  have e2 : ¬ b0 / 32 = 6 := by omega
  have e3 : ¬ b0 / 16 = 14 := by omega
  have e4 : b0 / 8 = 30 := by omega
  have e5 : b1 / 64 = 2 := by omega
  have e6 : b2 / 64 = 2 := by omega
  have e7 : b3 / 64 = 2 := by omega
  have e8 : b0 % 8 * 262144 + b1 % 64 * 4096 + b2 % 64 * 64 + b3 % 64 = x := by omega
  have e9 : (b0 : Int) % 8 * 262144 + (b1 : Int) % 64 * 4096 + (b2 : Int) % 64 * 64 + (b3 : Int) % 64 = (x : Int) := by omega
  simp [Utf8.decode, g0, g1, g2, g3, e1, e2, e3, e4, e5, e6, e7, l1, l2, l3, Utf8.runeError]
  rw [e8, e9]

/-- A tail at a place. -/
def tailOk (s : ByteArray) (i k : Nat) : Prop := i + k < s.size ∧ (s.get! (i + k)).toNat / 64 = 2

theorem tail_range {s : ByteArray} {i k : Nat} (h : tailOk s i k) : 128 ≤ (s.get! (i + k)).toNat ∧ (s.get! (i + k)).toNat ≤ 191 := by
  have := h.2
  omega

/-- What one text reads another reads, too, as far as the bytes are the same. -/
theorem decode_local (s t : ByteArray) (i : Nat) (same : ∀ k, i + k < s.size → s.get! (i + k) = t.get! (i + k)) (hsz : s.size ≤ t.size) (hi : i < s.size) (hfit : i + (Utf8.decode t i).2 ≤ s.size) : Utf8.decode s i = Utf8.decode t i := by
  have e0 : s.get! i = t.get! i := same 0 hi
  obtain ⟨b0, hb0⟩ : ∃ b0, (t.get! i).toNat = b0 := ⟨_, rfl⟩
  have g0 : (s.get! i).toNat = b0 := by rw [e0, hb0]
  have hbb : b0 < 256 := by rw [← hb0]; exact (t.get! i).toNat_lt
  have up : ∀ k, tailOk s i k → tailOk t i k := fun k h => ⟨by have := h.1; omega, by rw [← same k h.1]; exact h.2⟩
  have down : ∀ k, i + k < s.size → tailOk t i k → tailOk s i k := fun k hk h => ⟨hk, by rw [same k hk]; exact h.2⟩
  rcases (show b0 < 128 ∨ (128 ≤ b0 ∧ b0 < 192) ∨ (192 ≤ b0 ∧ b0 < 224) ∨ (224 ≤ b0 ∧ b0 < 240) ∨ (240 ≤ b0 ∧ b0 ≤ 247) ∨ 247 < b0 from by omega) with f | ⟨f, f'⟩ | ⟨f, f'⟩ | ⟨f, f'⟩ | ⟨f, f'⟩ | f
  · rw [dec_one g0 f, dec_one hb0 f]
  · rw [dec_lead g0 f (.inl f') hbb, dec_lead hb0 f (.inl f') hbb]
  · by_cases c1 : tailOk s i 1
    · have t1 := up 1 c1
      obtain ⟨p1, q1⟩ := tail_range t1
      have e1 := same 1 c1.1
      obtain ⟨x, hx⟩ : ∃ x, x + 128 = (b0 % 32) * 64 + (t.get! (i + 1)).toNat := ⟨(b0 % 32) * 64 + (t.get! (i + 1)).toNat - 128, by omega⟩
      rw [dec_two g0 (by rw [e1]) c1.1 f f' p1 q1 hx, dec_two hb0 rfl t1.1 f f' p1 q1 hx]
    · rw [dec_two_no g0 f f' c1]
      by_cases t1 : tailOk t i 1
      · obtain ⟨p1, q1⟩ := tail_range t1
        obtain ⟨x, hx⟩ : ∃ x, x + 128 = (b0 % 32) * 64 + (t.get! (i + 1)).toNat := ⟨(b0 % 32) * 64 + (t.get! (i + 1)).toNat - 128, by omega⟩
        have hd := dec_two hb0 rfl t1.1 f f' p1 q1 hx
        by_cases hc : 128 ≤ x
        · rw [if_pos hc] at hd
          rw [hd] at hfit
          exact (c1 (down 1 (by simp at hfit; omega) t1)).elim
        · rw [hd, if_neg hc]
      · rw [dec_two_no hb0 f f' t1]
  · by_cases c : tailOk s i 1 ∧ tailOk s i 2
    · obtain ⟨c1, c2⟩ := c
      have t1 := up 1 c1
      have t2 := up 2 c2
      obtain ⟨p1, q1⟩ := tail_range t1
      obtain ⟨p2, q2⟩ := tail_range t2
      rw [dec_three (x := (b0 % 16) * 4096 + ((t.get! (i + 1)).toNat - 128) * 64 + ((t.get! (i + 2)).toNat - 128)) g0 (by rw [same 1 c1.1]) (by rw [same 2 c2.1]) c1.1 c2.1 f f' p1 q1 p2 q2 rfl, dec_three hb0 rfl rfl t1.1 t2.1 f f' p1 q1 p2 q2 rfl]
    · rw [dec_three_no g0 f f' c]
      by_cases d : tailOk t i 1 ∧ tailOk t i 2
      · obtain ⟨t1, t2⟩ := d
        obtain ⟨p1, q1⟩ := tail_range t1
        obtain ⟨p2, q2⟩ := tail_range t2
        have hd := dec_three hb0 rfl rfl t1.1 t2.1 f f' p1 q1 p2 q2 rfl
        rw [hd] at hfit ⊢
        split at hfit
        · exact (c ⟨down 1 (by simp at hfit; omega) t1, down 2 (by simp at hfit; omega) t2⟩).elim
        · rename_i hc
          rw [if_neg hc]
      · rw [dec_three_no hb0 f f' d]
  · by_cases c : (tailOk s i 1 ∧ tailOk s i 2) ∧ tailOk s i 3
    · obtain ⟨⟨c1, c2⟩, c3⟩ := c
      have t1 := up 1 c1
      have t2 := up 2 c2
      have t3 := up 3 c3
      obtain ⟨p1, q1⟩ := tail_range t1
      obtain ⟨p2, q2⟩ := tail_range t2
      obtain ⟨p3, q3⟩ := tail_range t3
      rw [dec_four (x := (b0 % 8) * 262144 + ((t.get! (i + 1)).toNat - 128) * 4096 + ((t.get! (i + 2)).toNat - 128) * 64 + ((t.get! (i + 3)).toNat - 128)) g0 (by rw [same 1 c1.1]) (by rw [same 2 c2.1]) (by rw [same 3 c3.1]) c1.1 c2.1 c3.1 f f' p1 q1 p2 q2 p3 q3 rfl, dec_four hb0 rfl rfl rfl t1.1 t2.1 t3.1 f f' p1 q1 p2 q2 p3 q3 rfl]
    · rw [dec_four_no g0 f f' c]
      by_cases d : (tailOk t i 1 ∧ tailOk t i 2) ∧ tailOk t i 3
      · obtain ⟨⟨t1, t2⟩, t3⟩ := d
        obtain ⟨p1, q1⟩ := tail_range t1
        obtain ⟨p2, q2⟩ := tail_range t2
        obtain ⟨p3, q3⟩ := tail_range t3
        have hd := dec_four hb0 rfl rfl rfl t1.1 t2.1 t3.1 f f' p1 q1 p2 q2 p3 q3 rfl
        rw [hd] at hfit ⊢
        split at hfit
        · exact (c ⟨⟨down 1 (by simp at hfit; omega) t1, down 2 (by simp at hfit; omega) t2⟩, down 3 (by simp at hfit; omega) t3⟩).elim
        · rename_i hc
          rw [if_neg hc]
      · rw [dec_four_no hb0 f f' d]
  · rw [dec_lead g0 (by omega) (.inr f) hbb, dec_lead hb0 (by omega) (.inr f) hbb]

theorem get_append_left (a b : ByteArray) (i : Nat) (h : i < a.size) : (a ++ b).get! i = a.get! i := by
  have h1 := get_at2 (a ++ b) i (by rw [ByteArray.size_append]; omega)
  have h2 := get_at2 a i h
  apply UInt8.toNat_inj.1
  rw [h1, h2, ByteArray.getElem_append_left h]
theorem get_append_right (a b : ByteArray) (i : Nat) (h : i < b.size) : (a ++ b).get! (a.size + i) = b.get! i := by
  have h1 := get_at2 (a ++ b) (a.size + i) (by rw [ByteArray.size_append]; omega)
  have h2 := get_at2 b i h
  apply UInt8.toNat_inj.1
  rw [h1, h2, ByteArray.getElem_append_right (by omega)]
  simp

/-- Behind a text another is read as by itself. -/
theorem decode_behind (a b : ByteArray) (j : Nat) (h : j < b.size) : Utf8.decode (a ++ b) (a.size + j) = Utf8.decode b j := by
  have hs := ByteArray.size_append (a := a) (b := b)
  have c : ∀ k, (decide (a.size + j + k < (a ++ b).size) && ((a ++ b).get! (a.size + j + k)).toNat / 64 == 2) = (decide (j + k < b.size) && (b.get! (j + k)).toNat / 64 == 2) := by
    intro k
    by_cases hk : j + k < b.size
    · rw [Nat.add_assoc, get_append_right a b (j + k) hk, decide_eq_true (by rw [hs]; omega), decide_eq_true hk]
    · rw [decide_eq_false hk, decide_eq_false (by rw [hs]; omega)]
      rfl
  have g : ∀ k, j + k < b.size → ((a ++ b).get! (a.size + j + k)).toNat = (b.get! (j + k)).toNat := fun k hk => by rw [Nat.add_assoc, get_append_right a b (j + k) hk]
  have g0 := g 0 h
  simp only [Utf8.decode, c, g0]
  by_cases h1 : j + 1 < b.size
  · rw [g 1 h1]
    by_cases h2 : j + 2 < b.size
    · rw [g 2 h2]
      by_cases h3 : j + 3 < b.size
      · rw [g 3 h3]
      · simp only [h3, decide_false, Bool.false_and, Bool.and_false, Bool.false_eq_true, if_false]
    · have h3 : ¬ j + 3 < b.size := by omega
      simp only [h2, h3, decide_false, Bool.false_and, Bool.and_false, Bool.false_eq_true, if_false]
  · have h2 : ¬ j + 2 < b.size := by omega
    have h3 : ¬ j + 3 < b.size := by omega
    simp only [h1, h2, h3, decide_false, Bool.false_and, Bool.and_false, Bool.false_eq_true, if_false]

theorem spots_behind (a b : ByteArray) (m j : Nat) (hm : b.size ≤ j + m) : (spotsFrom (a ++ b) (a.size + j)).map Prod.snd = (spotsFrom b j).map Prod.snd := by
  have hs := ByteArray.size_append (a := a) (b := b)
  induction m generalizing j with
  | zero => rw [spotsFrom_end b j (by omega), spotsFrom_end (a ++ b) _ (by rw [hs]; omega)]
  | succ m ih =>
    by_cases h : j < b.size
    · have hw := decode_width b j
      rw [spotsFrom_more b j h, spotsFrom_more (a ++ b) _ (by rw [hs]; omega), decode_behind a b j h]
      simp only [List.map_cons]
      rw [Nat.add_assoc, ih _ (by omega)]
    · rw [spotsFrom_end b j h, spotsFrom_end (a ++ b) _ (by rw [hs]; omega)]

theorem runes_snd (s : ByteArray) : textRunes s = ((spotsFrom s 0).map Prod.snd).map (fun n : Nat => (n : Int)) := by
  unfold textRunes
  rw [List.map_map]
  rfl

/-- Is it a character? -/
def scalarB (r : Int) : Bool := decide (0 ≤ r ∧ r ≤ 1114111 ∧ (r < 55296 ∨ 57343 < r))

/-- A number as a character: itself, or the one for what is none. -/
def mendR (r : Int) : Int := if scalarB r then r else 65533

theorem scalar_of {r : Int} (h : scalarB r = true) : 0 ≤ r ∧ r ≤ 1114111 ∧ (r < 55296 ∨ 57343 < r) := by simpa [scalarB] using h

theorem decode_scalar (s : ByteArray) (i : Nat) : ¬ (55296 ≤ ((Utf8.decode s i).1 : Int) ∧ ((Utf8.decode s i).1 : Int) < 57344) := by
  have hb : ∀ k, (s.get! (i + k)).toNat < 256 := fun k => (s.get! (i + k)).toNat_lt
  have h0 := hb 0
  have h1 := hb 1
  have h2 := hb 2
  have h3 := hb 3
  simp only [Utf8.decode]
  repeat' split
  all_goals simp_all [Utf8.runeError, Utf8.valid]
  all_goals omega

theorem decode_sc (s : ByteArray) (i : Nat) : scalarB ((Utf8.decode s i).1 : Int) = true := by
  have h1 := decode_rune s i
  have h2 := decode_scalar s i
  unfold scalarB
  simp
  omega

theorem spots_scalar (s : ByteArray) (m i : Nat) : ∀ x ∈ spotsN s m i, scalarB (x.2 : Int) = true := by
  induction m generalizing i with
  | zero => intro x hx; simp [spotsN] at hx
  | succ m ih =>
    intro x hx
    unfold spotsN at hx
    split at hx
    · rcases List.mem_cons.1 hx with rfl | h
      · exact decode_sc s i
      · exact ih _ _ h
    · simp at hx

theorem text_scalar (s : ByteArray) : ∀ r ∈ textRunes s, scalarB r = true := by
  intro r hr
  obtain ⟨x, hx, rfl⟩ := List.mem_map.1 hr
  exact spots_scalar s _ _ x hx

theorem mend_scalars (l : List Int) (h : ∀ r ∈ l, scalarB r = true) : l.map mendR = l := by
  induction l with
  | nil => rfl
  | cons r l ih =>
    rw [List.map_cons, ih (fun x hx => h x (List.mem_cons_of_mem _ hx))]
    simp [mendR, h r (by simp)]

theorem ofNat_to (n : Nat) (h : n < 256) : (UInt8.ofNat n).toNat = n := by simp; omega

/-- What is encoded is read. -/
theorem enc_dec (r : Int) (t : ByteArray) : Utf8.decode (Utf8.encode r ++ t) 0 = ((mendR r).toNat, (Utf8.encode r).size) := by
  obtain ⟨c, hc⟩ : ∃ c, c = if Utf8.valid r then r.toNat else Utf8.runeError := ⟨_, rfl⟩
  have hm : (mendR r).toNat = c := by
    rw [hc]
    unfold mendR scalarB Utf8.valid Utf8.runeError
    by_cases h : 0 ≤ r ∧ r ≤ 1114111 ∧ (r < 55296 ∨ 57343 < r)
    · rw [decide_eq_true h, if_pos rfl, if_pos]
      simp; omega
    · rw [decide_eq_false h, if_neg (by decide), if_neg]
      · rfl
      · simp; omega
  have hr : c < 55296 ∨ (57344 ≤ c ∧ c ≤ 1114111) := by
    rw [hc]
    split
    · rename_i h
      unfold Utf8.valid at h
      simp at h
      omega
    · unfold Utf8.runeError; omega
  have he : Utf8.encode r = if c < 0x80 then ⟨#[UInt8.ofNat c]⟩ else if c < 0x800 then ⟨#[UInt8.ofNat (0xC0 + c / 64), UInt8.ofNat (0x80 + c % 64)]⟩ else if c < 0x10000 then ⟨#[UInt8.ofNat (0xE0 + c / 4096), UInt8.ofNat (0x80 + c / 64 % 64), UInt8.ofNat (0x80 + c % 64)]⟩ else ⟨#[UInt8.ofNat (0xF0 + c / 262144), UInt8.ofNat (0x80 + c / 4096 % 64), UInt8.ofNat (0x80 + c / 64 % 64), UInt8.ofNat (0x80 + c % 64)]⟩ := by
    rw [hc]; rfl
  rw [hm, he]
  clear hc hm he
  by_cases h1 : c < 0x80
  · rw [if_pos h1]
    have g0 : (((⟨#[UInt8.ofNat c]⟩ : ByteArray) ++ t).get! 0).toNat = c := by
      rw [get_append_left _ _ 0 (by show 0 < 1; omega)]
      exact ofNat_to _ (by omega)
    rw [dec_one g0 h1]
    rfl
  · rw [if_neg h1]
    by_cases h2 : c < 0x800
    · rw [if_pos h2]
      have hsz : ((⟨#[UInt8.ofNat (0xC0 + c / 64), UInt8.ofNat (0x80 + c % 64)]⟩ : ByteArray) ++ t).size = 2 + t.size := by rw [ByteArray.size_append]; rfl
      have g0 : (((⟨#[UInt8.ofNat (0xC0 + c / 64), UInt8.ofNat (0x80 + c % 64)]⟩ : ByteArray) ++ t).get! 0).toNat = 0xC0 + c / 64 := by
        rw [get_append_left _ _ 0 (by show 0 < 2; omega)]
        exact ofNat_to _ (by omega)
      have g1 : (((⟨#[UInt8.ofNat (0xC0 + c / 64), UInt8.ofNat (0x80 + c % 64)]⟩ : ByteArray) ++ t).get! (0 + 1)).toNat = 0x80 + c % 64 := by
        rw [get_append_left _ _ (0 + 1) (by show 0 + 1 < 2; omega)]
        exact ofNat_to _ (by omega)
      rw [dec_two (x := c) g0 g1 (by rw [hsz]; omega) (by omega) (by omega) (by omega) (by omega) (by omega), if_pos (by omega)]
      rfl
    · rw [if_neg h2]
      by_cases h3 : c < 0x10000
      · rw [if_pos h3]
        have hsz : ((⟨#[UInt8.ofNat (0xE0 + c / 4096), UInt8.ofNat (0x80 + c / 64 % 64), UInt8.ofNat (0x80 + c % 64)]⟩ : ByteArray) ++ t).size = 3 + t.size := by rw [ByteArray.size_append]; rfl
        have g0 : (((⟨#[UInt8.ofNat (0xE0 + c / 4096), UInt8.ofNat (0x80 + c / 64 % 64), UInt8.ofNat (0x80 + c % 64)]⟩ : ByteArray) ++ t).get! 0).toNat = 0xE0 + c / 4096 := by
          rw [get_append_left _ _ 0 (by show 0 < 3; omega)]
          exact ofNat_to _ (by omega)
        have g1 : (((⟨#[UInt8.ofNat (0xE0 + c / 4096), UInt8.ofNat (0x80 + c / 64 % 64), UInt8.ofNat (0x80 + c % 64)]⟩ : ByteArray) ++ t).get! (0 + 1)).toNat = 0x80 + c / 64 % 64 := by
          rw [get_append_left _ _ (0 + 1) (by show 0 + 1 < 3; omega)]
          exact ofNat_to _ (by omega)
        have g2 : (((⟨#[UInt8.ofNat (0xE0 + c / 4096), UInt8.ofNat (0x80 + c / 64 % 64), UInt8.ofNat (0x80 + c % 64)]⟩ : ByteArray) ++ t).get! (0 + 2)).toNat = 0x80 + c % 64 := by
          rw [get_append_left _ _ (0 + 2) (by show 0 + 2 < 3; omega)]
          exact ofNat_to _ (by omega)
        rw [dec_three (x := c) g0 g1 g2 (by rw [hsz]; omega) (by rw [hsz]; omega) (by omega) (by omega) (by omega) (by omega) (by omega) (by omega) (by omega), if_pos ⟨by omega, by unfold Utf8.valid; simp; omega⟩]
        rfl
      · rw [if_neg h3]
        have hsz : ((⟨#[UInt8.ofNat (0xF0 + c / 262144), UInt8.ofNat (0x80 + c / 4096 % 64), UInt8.ofNat (0x80 + c / 64 % 64), UInt8.ofNat (0x80 + c % 64)]⟩ : ByteArray) ++ t).size = 4 + t.size := by rw [ByteArray.size_append]; rfl
        have g0 : (((⟨#[UInt8.ofNat (0xF0 + c / 262144), UInt8.ofNat (0x80 + c / 4096 % 64), UInt8.ofNat (0x80 + c / 64 % 64), UInt8.ofNat (0x80 + c % 64)]⟩ : ByteArray) ++ t).get! 0).toNat = 0xF0 + c / 262144 := by
          rw [get_append_left _ _ 0 (by show 0 < 4; omega)]
          exact ofNat_to _ (by omega)
        have g1 : (((⟨#[UInt8.ofNat (0xF0 + c / 262144), UInt8.ofNat (0x80 + c / 4096 % 64), UInt8.ofNat (0x80 + c / 64 % 64), UInt8.ofNat (0x80 + c % 64)]⟩ : ByteArray) ++ t).get! (0 + 1)).toNat = 0x80 + c / 4096 % 64 := by
          rw [get_append_left _ _ (0 + 1) (by show 0 + 1 < 4; omega)]
          exact ofNat_to _ (by omega)
        have g2 : (((⟨#[UInt8.ofNat (0xF0 + c / 262144), UInt8.ofNat (0x80 + c / 4096 % 64), UInt8.ofNat (0x80 + c / 64 % 64), UInt8.ofNat (0x80 + c % 64)]⟩ : ByteArray) ++ t).get! (0 + 2)).toNat = 0x80 + c / 64 % 64 := by
          rw [get_append_left _ _ (0 + 2) (by show 0 + 2 < 4; omega)]
          exact ofNat_to _ (by omega)
        have g3 : (((⟨#[UInt8.ofNat (0xF0 + c / 262144), UInt8.ofNat (0x80 + c / 4096 % 64), UInt8.ofNat (0x80 + c / 64 % 64), UInt8.ofNat (0x80 + c % 64)]⟩ : ByteArray) ++ t).get! (0 + 3)).toNat = 0x80 + c % 64 := by
          rw [get_append_left _ _ (0 + 3) (by show 0 + 3 < 4; omega)]
          exact ofNat_to _ (by omega)
        rw [dec_four (x := c) g0 g1 g2 g3 (by rw [hsz]; omega) (by rw [hsz]; omega) (by rw [hsz]; omega) (by omega) (by omega) (by omega) (by omega) (by omega) (by omega) (by omega) (by omega) (by omega), if_pos ⟨by omega, by unfold Utf8.valid; simp; omega⟩]
        rfl

theorem enc_pos (r : Int) : 0 < (Utf8.encode r).size := by
  unfold Utf8.encode
  dsimp only
  generalize (if Utf8.valid r = true then r.toNat else Utf8.runeError) = c
  split
  · show 0 < 1; omega
  · split
    · show 0 < 2; omega
    · split
      · show 0 < 3; omega
      · show 0 < 4; omega

theorem mend_nat (r : Int) : ((mendR r).toNat : Int) = mendR r := by
  have : 0 ≤ mendR r := by
    unfold mendR
    split
    · rename_i h; exact (scalar_of h).1
    · decide
  omega

theorem text_enc_step (r : Int) (t : ByteArray) : textRunes (Utf8.encode r ++ t) = mendR r :: textRunes t := by
  have hs := ByteArray.size_append (a := Utf8.encode r) (b := t)
  have hp := enc_pos r
  rw [runes_snd, runes_snd, spotsFrom_more _ 0 (by rw [hs]; omega), enc_dec]
  simp only [List.map_cons]
  rw [mend_nat, Nat.zero_add]
  have := spots_behind (Utf8.encode r) t t.size 0 (by omega)
  rw [Nat.add_zero] at this
  rw [this]

theorem runesBytes_go (rs : List Int) (a : ByteArray) : rs.foldl (fun r n => r ++ Utf8.encode n) a = a ++ rs.foldl (fun r n => r ++ Utf8.encode n) ByteArray.empty := by
  induction rs generalizing a with
  | nil => simp
  | cons r rs ih =>
    rw [List.foldl_cons, List.foldl_cons, ih (a ++ Utf8.encode r), ih (ByteArray.empty ++ Utf8.encode r), ByteArray.append_assoc]
    simp

theorem runesBytes_cons (r : Int) (rs : List Int) : runesBytes (r :: rs) = Utf8.encode r ++ runesBytes rs := by
  unfold runesBytes
  rw [List.foldl_cons, runesBytes_go]
  simp

/-- The text of numbers, read: each as a character. -/
theorem text_enc (rs : List Int) : textRunes (runesBytes rs) = rs.map mendR := by
  induction rs with
  | nil => decide +kernel
  | cons r rs ih =>
    rw [List.map_cons, ← ih, ← text_enc_step, runesBytes_cons]

/-- A sequence never runs over the text's end. -/
theorem decode_fits (s : ByteArray) (i : Nat) (h : i < s.size) : i + (Utf8.decode s i).2 ≤ s.size := by
  simp only [Utf8.decode]
  repeat' split
  all_goals simp_all
  all_goals omega


end Go.Proofs.YthkehgmeaedflaaDoor
