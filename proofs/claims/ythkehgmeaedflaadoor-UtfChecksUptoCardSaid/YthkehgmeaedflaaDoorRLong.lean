/-
  The reference's longest wrong part: it is the program's; walked.
-/
import Derived.Test.YthkehgmeaedflaaDoorBegins
namespace Go.Proofs.YthkehgmeaedflaaDoor
open Go.RowKit
set_option linter.unusedVariables false

theorem cut_list (s : ByteArray) (i n : Nat) : (s.extract i (i + n)).data.toList = (s.data.toList.drop i).take n := by
  rw [ByteArray.data_extract, Array.toList_extract, List.extract_eq_take_drop, show i + n - i = n by omega]
theorem head_get {t : ByteArray} {x : UInt8} {l : List UInt8} (h : t.data.toList = x :: l) : t.get! 0 = x ∧ 0 < t.size := by
  have hz : 0 < t.size := by rw [← size_list, h]; simp
  refine ⟨?_, hz⟩
  rw [← getD_get t 0 hz, h]
  rfl
theorem list_two (s : ByteArray) (i : Nat) (h : i + 1 < s.size) : (s.extract i (i + 1 + 1)).data.toList = [s.get! i, s.get! (i + 1)] := by
  rw [show i + 1 + 1 = i + 2 by omega, cut_list, drop_one s i (by omega), drop_one s (i + 1) h]
  rfl
theorem list_three (s : ByteArray) (i : Nat) (h : i + 2 < s.size) : (s.extract i (i + 2 + 1)).data.toList = [s.get! i, s.get! (i + 1), s.get! (i + 2)] := by
  rw [show i + 2 + 1 = i + 3 by omega, cut_list, drop_one s i (by omega), drop_one s (i + 1) (by omega), drop_one s (i + 1 + 1) (by omega)]
  rfl
theorem list_four (s : ByteArray) (i : Nat) (h : i + 3 < s.size) : (s.extract i (i + 3 + 1)).data.toList = [s.get! i, s.get! (i + 1), s.get! (i + 2), s.get! (i + 3)] := by
  rw [show i + 3 + 1 = i + 4 by omega, cut_list, drop_one s i (by omega), drop_one s (i + 1) (by omega), drop_one s (i + 1 + 1) (by omega), drop_one s (i + 1 + 1 + 1) (by omega)]
  rfl
theorem num_pad {t : ByteArray} {x : UInt8} {l : List UInt8} (h : t.data.toList = x :: l) (c : UInt8) (k n : Nat) (hk : t.size + k = n) : numOf (padB t c k) = numT (l ++ List.replicate k c) (x.toNat % (if n = 2 then 32 else if n = 3 then 16 else 8)) := by
  obtain ⟨h1, h2⟩ := head_get h
  unfold numOf
  rw [pad_get t c k h2, pad_list, h, h1, pad_size, hk]
  rfl
theorem c128 : ((128 : UInt8)).toNat = 128 := rfl
theorem c191 : ((191 : UInt8)).toNat = 191 := rfl

section
variable {s : ByteArray} {i : Nat}

theorem bad_one (hb : badB s i) : 128 ≤ (s.get! i).toNat := by
  rcases Nat.lt_or_ge (s.get! i).toNat 128 with h | h
  · have := hb.1
    rw [dec_one rfl h] at this
    have := (s.get! i).toNat_lt
    simp at *
    omega
  · exact h
theorem right_two (hb : badB s i) (l1 : i + 1 < s.size) (f : 194 ≤ (s.get! i).toNat) (f' : (s.get! i).toNat < 224) (p : 128 ≤ (s.get! (i + 1)).toNat) (q : (s.get! (i + 1)).toNat ≤ 191) : False := by
  have := hb.2
  rw [dec_two (x := ((s.get! i).toNat % 32) * 64 + (s.get! (i + 1)).toNat - 128) rfl rfl l1 (by omega) f' p q (by omega), if_pos (by omega)] at this
  simp at this
theorem right_three (hb : badB s i) (l2 : i + 2 < s.size) (f : 224 ≤ (s.get! i).toNat) (f' : (s.get! i).toNat < 240) (hs : secondB (s.get! i).toNat (s.get! (i + 1)).toNat = true) (p : 128 ≤ (s.get! (i + 2)).toNat) (q : (s.get! (i + 2)).toNat ≤ 191) : False := by
  have ht := second_tail hs
  have := hb.2
  obtain ⟨b0, e0⟩ : ∃ b, (s.get! i).toNat = b := ⟨_, rfl⟩
  obtain ⟨b1, e1⟩ : ∃ b, (s.get! (i + 1)).toNat = b := ⟨_, rfl⟩
  obtain ⟨b2, e2⟩ : ∃ b, (s.get! (i + 2)).toNat = b := ⟨_, rfl⟩
  rw [e0] at f f' hs
  rw [e1] at ht hs
  rw [e2] at p q
  unfold secondB at hs
  rw [decide_eq_true_iff] at hs
  obtain ⟨h1, h2⟩ := hs
  have k1 : b0 = 224 → 160 ≤ b1 := by
    rintro rfl
    simpa using h1
  have k2 : b0 = 237 → b1 ≤ 159 := by
    rintro rfl
    simpa using h2
  obtain ⟨x, hx⟩ : ∃ x, x = (b0 % 16) * 4096 + (b1 - 128) * 64 + (b2 - 128) := ⟨_, rfl⟩
  have g1 : 2048 ≤ x := by
    by_cases e : b0 = 224
    · have := k1 e; omega
    · omega
  have g2 : x < 55296 ∨ 57343 < x ∧ x ≤ 1114111 := by
    by_cases e : b0 = 237
    · have := k2 e; omega
    · omega
  rw [dec_three (x := x) e0 e1 e2 (by omega) l2 f f' ht.1 ht.2 p q hx, if_pos ⟨g1, valid_of g2⟩] at this
  simp at this
theorem right_four (hb : badB s i) (l3 : i + 3 < s.size) (f : 240 ≤ (s.get! i).toNat) (f' : (s.get! i).toNat ≤ 244) (hs : secondB (s.get! i).toNat (s.get! (i + 1)).toNat = true) (p2 : 128 ≤ (s.get! (i + 2)).toNat) (q2 : (s.get! (i + 2)).toNat ≤ 191) (p3 : 128 ≤ (s.get! (i + 3)).toNat) (q3 : (s.get! (i + 3)).toNat ≤ 191) : False := by
  have ht := second_tail hs
  have := hb.2
  obtain ⟨b0, e0⟩ : ∃ b, (s.get! i).toNat = b := ⟨_, rfl⟩
  obtain ⟨b1, e1⟩ : ∃ b, (s.get! (i + 1)).toNat = b := ⟨_, rfl⟩
  obtain ⟨b2, e2⟩ : ∃ b, (s.get! (i + 2)).toNat = b := ⟨_, rfl⟩
  obtain ⟨b3, e3⟩ : ∃ b, (s.get! (i + 3)).toNat = b := ⟨_, rfl⟩
  rw [e0] at f f' hs
  rw [e1] at ht hs
  rw [e2] at p2 q2
  rw [e3] at p3 q3
  unfold secondB at hs
  rw [decide_eq_true_iff] at hs
  obtain ⟨h1, h2⟩ := hs
  have k1 : b0 = 240 → 144 ≤ b1 := by
    rintro rfl
    simpa using h1
  have k2 : b0 = 244 → b1 ≤ 143 := by
    rintro rfl
    simpa using h2
  obtain ⟨x, hx⟩ : ∃ x, x = (b0 % 8) * 262144 + (b1 - 128) * 4096 + (b2 - 128) * 64 + (b3 - 128) := ⟨_, rfl⟩
  have g1 : 65536 ≤ x := by
    by_cases e : b0 = 240
    · have := k1 e; omega
    · omega
  have g2 : x < 55296 ∨ 57343 < x ∧ x ≤ 1114111 := by
    by_cases e : b0 = 244
    · have := k2 e; omega
    · omega
  rw [dec_four (x := x) e0 e1 e2 e3 (by omega) (by omega) l3 f (by omega) ht.1 ht.2 p2 q2 p3 q3 hx, if_pos ⟨g1, valid_of g2⟩] at this
  simp at this

theorem nums_bad {b : UInt8} (h : ¬ (128 ≤ b.toNat ∧ b.toNat ≤ 191)) : b.toNat < 128 ∨ 191 < b.toNat := by omega

theorem rbegins_1 (w : World) (hb : badB s i) (hf : i + 1 < s.size) :
    Calls Tryd.prog 78 #[.string (s.extract i (i + 1 + 1))] w fun e w' => e = .returned (.bool (decide (1 < longestOf s i))) ∧ Below w.heap.size w w' := by
  have hl := list_two s i hf
  have hh := head_get hl
  have hz : (s.extract i (i + 1 + 1)).size = 2 := by rw [← size_list, hl]; rfl
  have h128 := bad_one hb
  have hlt := (s.get! i).toNat_lt
  generalize ht : s.extract i (i + 1 + 1) = t at *
  by_cases c0 : (s.get! i).toNat < 192 ∨ 247 < (s.get! i).toNat
  · rw [longest_no (fun h => by have := h.1; have := h.2.1; omega)]
    exact begins_short t w (by omega) (by omega) (by rw [hh.1, hz, longOf_0 h128 c0]; omega)
  · have c192 : 192 ≤ (s.get! i).toNat := by omega
    have c247 : (s.get! i).toNat ≤ 247 := by omega
    by_cases tl : 128 ≤ (s.get! (i + 1)).toNat ∧ (s.get! (i + 1)).toNat ≤ 191
    · rcases (show (s.get! i).toNat < 224 ∨ (224 ≤ (s.get! i).toNat ∧ (s.get! i).toNat < 240) ∨ 240 ≤ (s.get! i).toNat by omega) with d | ⟨d, d'⟩ | d
      · have no : ¬ 194 ≤ (s.get! i).toNat := fun h => right_two hb hf h d tl.1 tl.2
        rw [longest_no (fun h => no h.1)]
        obtain ⟨x, hx⟩ : ∃ x, x + 128 = ((s.get! i).toNat % 32) * 64 + (s.get! (i + 1)).toNat := ⟨_, Nat.sub_add_cancel (by omega)⟩
        have e : ∀ c : UInt8, numOf (padB t c 0) = (x : Int) := fun c => by
          rw [num_pad hl c 0 2 (by omega)]
          exact numT_good _ _ x tl.1 tl.2 hx
        refine begins_some t w 2 0 x x false (by omega) (by omega) (by omega) (by rw [hh.1]; exact longOf_2 c192 d) (e 128) (e 191) (by omega) (by omega) ?_
        rw [char_one 2 x (by omega)]
        refine ⟨fun h => by simp at h, fun h => ?_⟩
        have := wide_of h.1 h.2
        omega
      · obtain ⟨x, hx⟩ : ∃ x, x + 128 = ((s.get! i).toNat % 16) * 64 + (s.get! (i + 1)).toNat := ⟨_, Nat.sub_add_cancel (by omega)⟩
        have hop : decide (1 < longestOf s i) = secondB (s.get! i).toNat (s.get! (i + 1)).toNat := by
          cases hs : secondB (s.get! i).toNat (s.get! (i + 1)).toNat
          · rw [longest_no (fun h => by have := h.2.2.2; rw [hs] at this; cases this)]; rfl
          · rw [longest_two ⟨by omega, by omega, hf, hs⟩ (fun h => by omega)]; rfl
        rw [hop]
        have e1 : numOf (padB t 128 1) = ((x * 64 : Nat) : Int) := by
          rw [num_pad hl 128 1 3 (by omega)]
          exact (numT_good _ _ x tl.1 tl.2 hx).trans (numT_good _ _ (x * 64) (by decide) (by decide) (by rw [c128]))
        have e2 : numOf (padB t 191 1) = ((x * 64 + 63 : Nat) : Int) := by
          rw [num_pad hl 191 1 3 (by omega)]
          exact (numT_good _ _ x tl.1 tl.2 hx).trans (numT_good _ _ (x * 64 + 63) (by decide) (by decide) (by rw [c191]))
        exact begins_some t w 3 1 _ _ _ (by omega) (by omega) (by omega) (by rw [hh.1]; exact longOf_3 d d') e1 e2 (by omega) (by omega) (char_three _ _ x d d' tl.1 tl.2 hx).symm
      · obtain ⟨x, hx⟩ : ∃ x, x + 128 = ((s.get! i).toNat % 8) * 64 + (s.get! (i + 1)).toNat := ⟨_, Nat.sub_add_cancel (by omega)⟩
        have hop : decide (1 < longestOf s i) = true ↔ ((s.get! i).toNat ≤ 244 ∧ secondB (s.get! i).toNat (s.get! (i + 1)).toNat = true) := by
          rw [decide_eq_true_iff]
          constructor
          · intro h
            by_cases ho : opensP s i
            · exact ⟨ho.2.1, ho.2.2.2⟩
            · rw [longest_no ho] at h; omega
          · intro h
            have ho : opensP s i := ⟨by omega, h.1, hf, h.2⟩
            by_cases h3 : 240 ≤ (s.get! i).toNat ∧ tailOk s i 2
            · rw [longest_three ho h3]; omega
            · rw [longest_two ho h3]; omega
        have e1 : numOf (padB t 128 2) = ((x * 4096 : Nat) : Int) := by
          rw [num_pad hl 128 2 4 (by omega)]
          exact ((numT_good _ _ x tl.1 tl.2 hx).trans (numT_good _ _ (x * 64) (by decide) (by decide) (by rw [c128]))).trans (numT_good _ _ (x * 4096) (by decide) (by decide) (by rw [c128]; omega))
        have e2 : numOf (padB t 191 2) = ((x * 4096 + 4095 : Nat) : Int) := by
          rw [num_pad hl 191 2 4 (by omega)]
          exact ((numT_good _ _ x tl.1 tl.2 hx).trans (numT_good _ _ (x * 64 + 63) (by decide) (by decide) (by rw [c191]))).trans (numT_good _ _ (x * 4096 + 4095) (by decide) (by decide) (by rw [c191]; omega))
        exact begins_some t w 4 2 _ _ _ (by omega) (by omega) (by omega) (by rw [hh.1]; exact longOf_4 d c247) e1 e2 (by omega) (by omega) (hop.trans (char_four _ _ x d c247 tl.1 tl.2 hx).symm)
    · rw [longest_no (fun h => tl (second_tail h.2.2.2))]
      rcases (show (s.get! i).toNat < 224 ∨ (224 ≤ (s.get! i).toNat ∧ (s.get! i).toNat < 240) ∨ 240 ≤ (s.get! i).toNat by omega) with d | ⟨d, d'⟩ | d
      · exact begins_bad t w 2 0 (by omega) (by omega) (by omega) (by rw [hh.1]; exact longOf_2 c192 d) (by rw [num_pad hl 128 0 2 (by omega)]; exact numT_bad _ _ (nums_bad tl)) (by rw [num_pad hl 191 0 2 (by omega)]; exact numT_bad _ _ (nums_bad tl))
      · exact begins_bad t w 3 1 (by omega) (by omega) (by omega) (by rw [hh.1]; exact longOf_3 d d') (by rw [num_pad hl 128 1 3 (by omega)]; exact numT_bad _ _ (nums_bad tl)) (by rw [num_pad hl 191 1 3 (by omega)]; exact numT_bad _ _ (nums_bad tl))
      · exact begins_bad t w 4 2 (by omega) (by omega) (by omega) (by rw [hh.1]; exact longOf_4 d c247) (by rw [num_pad hl 128 2 4 (by omega)]; exact numT_bad _ _ (nums_bad tl)) (by rw [num_pad hl 191 2 4 (by omega)]; exact numT_bad _ _ (nums_bad tl))

theorem rbegins_2 (w : World) (hb : badB s i) (hf : i + 2 < s.size) (ho : opensP s i) :
    Calls Tryd.prog 78 #[.string (s.extract i (i + 2 + 1))] w fun e w' => e = .returned (.bool (decide (2 < longestOf s i))) ∧ Below w.heap.size w w' := by
  have hl := list_three s i hf
  have hh := head_get hl
  have hz : (s.extract i (i + 2 + 1)).size = 3 := by rw [← size_list, hl]; rfl
  have tl := second_tail ho.2.2.2
  have c194 := ho.1
  have c244 := ho.2.1
  generalize ht : s.extract i (i + 2 + 1) = t at *
  rcases (show (s.get! i).toNat < 224 ∨ (224 ≤ (s.get! i).toNat ∧ (s.get! i).toNat < 240) ∨ 240 ≤ (s.get! i).toNat by omega) with d | ⟨d, d'⟩ | d
  · rw [longest_two ho (fun h => by omega)]
    exact begins_short t w (by omega) (by omega) (by rw [hh.1, hz, longOf_2 (by omega) d]; omega)
  · rw [longest_two ho (fun h => by omega)]
    by_cases t2 : 128 ≤ (s.get! (i + 2)).toNat ∧ (s.get! (i + 2)).toNat ≤ 191
    · exact (right_three hb hf d d' ho.2.2.2 t2.1 t2.2).elim
    · obtain ⟨x, hx⟩ : ∃ x, x + 128 = ((s.get! i).toNat % 16) * 64 + (s.get! (i + 1)).toNat := ⟨_, Nat.sub_add_cancel (by omega)⟩
      exact begins_bad t w 3 0 (by omega) (by omega) (by omega) (by rw [hh.1]; exact longOf_3 d d') (by rw [num_pad hl 128 0 3 (by omega)]; exact (numT_good _ _ x tl.1 tl.2 hx).trans (numT_bad _ _ (nums_bad t2))) (by rw [num_pad hl 191 0 3 (by omega)]; exact (numT_good _ _ x tl.1 tl.2 hx).trans (numT_bad _ _ (nums_bad t2)))
  · obtain ⟨x, hx⟩ : ∃ x, x + 128 = ((s.get! i).toNat % 8) * 64 + (s.get! (i + 1)).toNat := ⟨_, Nat.sub_add_cancel (by omega)⟩
    by_cases t2 : 128 ≤ (s.get! (i + 2)).toNat ∧ (s.get! (i + 2)).toNat ≤ 191
    · obtain ⟨y, hy⟩ : ∃ y, y + 128 = x * 64 + (s.get! (i + 2)).toNat := ⟨_, Nat.sub_add_cancel (by omega)⟩
      rw [longest_three ho ⟨d, hf, by omega⟩]
      have e1 : numOf (padB t 128 1) = ((y * 64 : Nat) : Int) := by
        rw [num_pad hl 128 1 4 (by omega)]
        exact ((numT_good _ _ x tl.1 tl.2 hx).trans (numT_good _ _ y t2.1 t2.2 hy)).trans (numT_good _ _ (y * 64) (by decide) (by decide) (by rw [c128]))
      have e2 : numOf (padB t 191 1) = ((y * 64 + 63 : Nat) : Int) := by
        rw [num_pad hl 191 1 4 (by omega)]
        exact ((numT_good _ _ x tl.1 tl.2 hx).trans (numT_good _ _ y t2.1 t2.2 hy)).trans (numT_good _ _ (y * 64 + 63) (by decide) (by decide) (by rw [c191]))
      exact begins_some t w 4 1 _ _ true (by omega) (by omega) (by omega) (by rw [hh.1]; exact longOf_4 d (by omega)) e1 e2 (by omega) (by omega) ⟨fun _ => char_four2 _ _ x y _ d c244 ho.2.2.2 t2.1 t2.2 hx hy, fun _ => rfl⟩
    · rw [longest_two ho (fun h => t2 (tail_range h.2))]
      exact begins_bad t w 4 1 (by omega) (by omega) (by omega) (by rw [hh.1]; exact longOf_4 d (by omega)) (by rw [num_pad hl 128 1 4 (by omega)]; exact (numT_good _ _ x tl.1 tl.2 hx).trans (numT_bad _ _ (nums_bad t2))) (by rw [num_pad hl 191 1 4 (by omega)]; exact (numT_good _ _ x tl.1 tl.2 hx).trans (numT_bad _ _ (nums_bad t2)))

theorem rbegins_3 (w : World) (hb : badB s i) (hf : i + 3 < s.size) (ho : opensP s i) (d : 240 ≤ (s.get! i).toNat) (h2 : tailOk s i 2) :
    Calls Tryd.prog 78 #[.string (s.extract i (i + 3 + 1))] w fun e w' => e = .returned (.bool (decide (3 < longestOf s i))) ∧ Below w.heap.size w w' := by
  have hl := list_four s i hf
  have hh := head_get hl
  have hz : (s.extract i (i + 3 + 1)).size = 4 := by rw [← size_list, hl]; rfl
  have tl := second_tail ho.2.2.2
  have t2 := tail_range h2
  have c244 := ho.2.1
  generalize ht : s.extract i (i + 3 + 1) = t at *
  rw [longest_three ho ⟨d, h2⟩]
  by_cases t3 : 128 ≤ (s.get! (i + 3)).toNat ∧ (s.get! (i + 3)).toNat ≤ 191
  · exact (right_four hb hf d c244 ho.2.2.2 t2.1 t2.2 t3.1 t3.2).elim
  · obtain ⟨x, hx⟩ : ∃ x, x + 128 = ((s.get! i).toNat % 8) * 64 + (s.get! (i + 1)).toNat := ⟨_, Nat.sub_add_cancel (by omega)⟩
    obtain ⟨y, hy⟩ : ∃ y, y + 128 = x * 64 + (s.get! (i + 2)).toNat := ⟨_, Nat.sub_add_cancel (by omega)⟩
    exact begins_bad t w 4 0 (by omega) (by omega) (by omega) (by rw [hh.1]; exact longOf_4 d (by omega))
      (by rw [num_pad hl 128 0 4 (by omega)]; exact ((numT_good _ _ x tl.1 tl.2 hx).trans (numT_good _ _ y t2.1 t2.2 hy)).trans (numT_bad _ _ (nums_bad t3)))
      (by rw [num_pad hl 191 0 4 (by omega)]; exact ((numT_good _ _ x tl.1 tl.2 hx).trans (numT_good _ _ y t2.1 t2.2 hy)).trans (numT_bad _ _ (nums_bad t3)))

theorem rbegins_at (w : World) (k : Nat) (hb : badB s i) (h1 : 1 ≤ k) (h3 : k ≤ 3) (hf : i + k < s.size) (hk : k ≤ longestOf s i) :
    Calls Tryd.prog 78 #[.string (s.extract i (i + k + 1))] w fun e w' => e = .returned (.bool (decide (k < longestOf s i))) ∧ Below w.heap.size w w' := by
  rcases (show k = 1 ∨ k = 2 ∨ k = 3 by omega) with rfl | rfl | rfl
  · exact rbegins_1 w hb hf
  · by_cases ho : opensP s i
    · exact rbegins_2 w hb hf ho
    · rw [longest_no ho] at hk; omega
  · by_cases ho : opensP s i
    · by_cases h3 : 240 ≤ (s.get! i).toNat ∧ tailOk s i 2
      · exact rbegins_3 w hb hf ho h3.1 h3.2
      · rw [longest_two ho h3] at hk; omega
    · rw [longest_no ho] at hk; omega
end

set_option maxRecDepth 20000 in
set_option maxHeartbeats 2000000 in
theorem rlongest_any (s : ByteArray) (i : Nat) (w : World) (hs : s.size ≤ 70368744177664) (h : i < s.size) (hb : badB s i) :
    Calls Tryd.prog 64 #[.string s, .int .i64 i] w fun e w' => e = .returned (.int .i64 (longestOf s i)) ∧ Below w.heap.size w w' := by
  have hr := longest_range s i
  have hfit := longest_fits s i h
  have HB := Lib.hid (fun k w h1 h3 hf hk => rbegins_at (s := s) (i := i) w k hb h1 h3 hf hk)
  have hi0 : (0 : Int) ≤ (i : Int) := by omega
  obtain ⟨m, hm⟩ : ∃ m, m = longestOf s i := ⟨_, rfl⟩
  rw [← hm] at hr hfit HB ⊢
  clear hb hm
  go_enter Tryd.func64, Tryd.ntmps64
  go_wp2
  go_loopw [5] (fun n wr => ∃ k : Nat, 1 ≤ k ∧ k ≤ m ∧ n = .int .i64 k ∧ Below w.heap.size w wr) (fun n _ => 4 - (intOf n).toNat)
  case atStart => exact ⟨1, by omega, hr.1, rfl, Below.refl _ _⟩
  case round =>
    obtain ⟨k, h1, hk, rfl, hbl⟩ := hrel
    have hk0 : (0 : Int) ≤ (k : Int) := by omega
    have hk3 : (k : Int) < 4 := by omega
    have HBL := Lib.hid hbl
    clear hbl
    by_cases hf : i + k < s.size
    · have HC := Lib.hid (fun w => HB.out k w h1 (by omega) hf hk)
      have hfi : (i : Int) + (k : Int) < (s.size : Int) := by omega
      have hfj : (i : Int) + (k : Int) + 1 ≤ (s.size : Int) := by omega
      have hnn : ((i : Int) + (k : Int) + 1).toNat = i + k + 1 := by omega
      by_cases hlt : k < m
      · rw [decide_eq_true hlt] at HC
        go_wp2_with (go_at_call 78; refine (HC.out _).mono ?_; rintro e w1 ⟨rfl, hb1⟩; have HB1 := Lib.hid (after HBL.out hb1); clear hb1)
        go_roundw
        case rel => exact ⟨k + 1, by omega, by omega, by go_num, HB1.out⟩
        case measure => simp [intOf]; omega
      · rw [decide_eq_false hlt] at HC
        obtain rfl : k = m := by omega
        go_wp2_with (go_at_call 78; refine (HC.out _).mono ?_; rintro e w1 ⟨rfl, hb1⟩; have HB1 := Lib.hid (after HBL.out hb1); clear hb1)
        go_ret
        exact ⟨rfl, HB1.out⟩
    · have hfi : (s.size : Int) ≤ (i : Int) + (k : Int) := by omega
      obtain rfl : k = m := by omega
      go_wp2
      go_ret
      exact ⟨rfl, HBL.out⟩

end Go.Proofs.YthkehgmeaedflaaDoor
