/-
  From behind: a text's last character, as the library reads it, is the last one of those read from the front. Plain laws.
-/
import Derived.Test.YthkehgmeaedflaaDoorUBackM
namespace Go.Proofs.YthkehgmeaedflaaDoor
open Go.RowKit

/-- What a character of more than one byte looks like. -/
theorem decode_shape (s : ByteArray) (i : Nat) : (Utf8.decode s i).2 = 1 ∨ (2 ≤ (Utf8.decode s i).2 ∧ 192 ≤ (s.get! i).toNat ∧ ∀ k, 1 ≤ k → k < (Utf8.decode s i).2 → tailOk s i k) := by
  obtain ⟨b0, hb0⟩ : ∃ b0, (s.get! i).toNat = b0 := ⟨_, rfl⟩
  have hbb : b0 < 256 := by rw [← hb0]; exact (s.get! i).toNat_lt
  rcases (show b0 < 128 ∨ (128 ≤ b0 ∧ b0 < 192) ∨ (192 ≤ b0 ∧ b0 < 224) ∨ (224 ≤ b0 ∧ b0 < 240) ∨ (240 ≤ b0 ∧ b0 ≤ 247) ∨ 247 < b0 from by omega) with f | ⟨f, f'⟩ | ⟨f, f'⟩ | ⟨f, f'⟩ | ⟨f, f'⟩ | f
  · rw [dec_one hb0 f]; exact .inl rfl
  · rw [dec_lead hb0 f (.inl f') hbb]; exact .inl rfl
  · by_cases c1 : tailOk s i 1
    · obtain ⟨p1, q1⟩ := tail_range c1
      obtain ⟨x, hx⟩ : ∃ x, x + 128 = (b0 % 32) * 64 + (s.get! (i + 1)).toNat := ⟨(b0 % 32) * 64 + (s.get! (i + 1)).toNat - 128, by omega⟩
      rw [dec_two hb0 rfl c1.1 f f' p1 q1 hx]
      split
      · refine .inr ⟨Nat.le_refl _, by omega, fun k h1 h2 => ?_⟩
        obtain rfl : k = 1 := by simp at h2; omega
        exact c1
      · exact .inl rfl
    · rw [dec_two_no hb0 f f' c1]; exact .inl rfl
  · by_cases c : tailOk s i 1 ∧ tailOk s i 2
    · obtain ⟨c1, c2⟩ := c
      obtain ⟨p1, q1⟩ := tail_range c1
      obtain ⟨p2, q2⟩ := tail_range c2
      rw [dec_three hb0 rfl rfl c1.1 c2.1 f f' p1 q1 p2 q2 rfl]
      split
      · refine .inr ⟨by simp, by omega, fun k h1 h2 => ?_⟩
        rcases (show k = 1 ∨ k = 2 by simp at h2; omega) with rfl | rfl
        · exact c1
        · exact c2
      · exact .inl rfl
    · rw [dec_three_no hb0 f f' c]; exact .inl rfl
  · by_cases c : (tailOk s i 1 ∧ tailOk s i 2) ∧ tailOk s i 3
    · obtain ⟨⟨c1, c2⟩, c3⟩ := c
      obtain ⟨p1, q1⟩ := tail_range c1
      obtain ⟨p2, q2⟩ := tail_range c2
      obtain ⟨p3, q3⟩ := tail_range c3
      rw [dec_four hb0 rfl rfl rfl c1.1 c2.1 c3.1 f f' p1 q1 p2 q2 p3 q3 rfl]
      split
      · refine .inr ⟨by simp, by omega, fun k h1 h2 => ?_⟩
        rcases (show k = 1 ∨ k = 2 ∨ k = 3 by simp at h2; omega) with rfl | rfl | rfl
        · exact c1
        · exact c2
        · exact c3
      · exact .inl rfl
    · rw [dec_four_no hb0 f f' c]; exact .inl rfl
  · rw [dec_lead hb0 (by omega) (.inr f) hbb]; exact .inl rfl

theorem places_ge (s : ByteArray) (m i : Nat) : ∀ x ∈ (spotsN s m i).map Prod.fst, i ≤ x := by
  induction m generalizing i with
  | zero => intro x hx; simp [spotsN] at hx
  | succ m ih =>
    intro x hx
    unfold spotsN at hx
    split at hx
    · rw [List.map_cons] at hx
      rcases List.mem_cons.1 hx with rfl | h
      · exact Nat.le_refl _
      · have := ih _ _ h
        omega
    · simp at hx
theorem place_ge {s : ByteArray} {i x : Nat} (h : x ∈ placesFrom s i) : i ≤ x := places_ge s s.size i x h

/-- Where a byte is none that stands behind a first one, there a character begins. -/
theorem start_place (s : ByteArray) (m i p : Nat) (hm : p ≤ i + m) (hi : i ≤ p) (hp : p < s.size) (h : (s.get! p).toNat / 64 ≠ 2) : p ∈ placesFrom s i := by
  induction m generalizing i with
  | zero =>
    obtain rfl : p = i := by omega
    rw [placesFrom_more s p hp]
    exact List.mem_cons_self ..
  | succ m ih =>
    by_cases he : i = p
    · subst he
      rw [placesFrom_more s i hp]
      exact List.mem_cons_self ..
    · have hlt : i < s.size := by omega
      have hw := decode_width s i
      rw [placesFrom_more s i hlt]
      refine List.mem_cons_of_mem _ ?_
      by_cases hin : i + (Utf8.decode s i).2 ≤ p
      · exact ih _ (by omega) hin
      · rcases decode_shape s i with h1 | ⟨_, _, h3⟩
        · omega
        · have := (h3 (p - i) (by omega) (by omega)).2
          rw [show i + (p - i) = p by omega] at this
          exact (h this).elim

/-- A character's bytes but the first begin none. -/
theorem place_next (s : ByteArray) (m i p : Nat) (hm : p ≤ i + m) (hi : i ≤ p) (hp : p ∈ placesFrom s i) : spotsFrom s p = (p, (Utf8.decode s p).1) :: spotsFrom s (p + (Utf8.decode s p).2) := spotsFrom_more s p (place_lt hp)

theorem extract_get (s : ByteArray) (at' k : Nat) (hat : at' ≤ s.size) (hk : k < at') : (s.extract 0 at').get! k = s.get! k := by
  have hz : (s.extract 0 at').size = at' := by rw [ByteArray.size_extract]; omega
  apply UInt8.toNat_inj.1
  rw [get_at2 _ k (by omega), get_at2 s k (by omega), ByteArray.getElem_extract]
  simp
theorem extract_size (s : ByteArray) (at' : Nat) (hat : at' ≤ s.size) : (s.extract 0 at').size = at' := by rw [ByteArray.size_extract]; omega

theorem decode_cut (s : ByteArray) (at' i : Nat) (hat : at' ≤ s.size) (hi : i < at') (hfit : i + (Utf8.decode s i).2 ≤ at') : Utf8.decode (s.extract 0 at') i = Utf8.decode s i := by
  have hz := extract_size s at' hat
  exact decode_local (s.extract 0 at') s i (fun k hk => extract_get s at' (i + k) hat (by omega)) (by omega) (by omega) (by omega)

/-- What stands ahead of a character's place is read as by itself. -/
theorem cut_spots (s : ByteArray) (at' m i : Nat) (hm : at' ≤ i + m) (hi : i ≤ at') (hat : at' ∈ placesFrom s i ∨ at' = s.size) : spotsFrom s i = spotsFrom (s.extract 0 at') i ++ spotsFrom s at' := by
  have hle : at' ≤ s.size := by
    rcases hat with h | h
    · exact Nat.le_of_lt (place_lt h)
    · omega
  have hz := extract_size s at' hle
  induction m generalizing i with
  | zero =>
    obtain rfl : at' = i := by omega
    rw [spotsFrom_end (s.extract 0 at') at' (by omega)]
    rfl
  | succ m ih =>
    by_cases he : i = at'
    · subst he
      rw [spotsFrom_end (s.extract 0 i) i (by omega)]
      rfl
    · have hlt : i < s.size := by omega
      have hw := decode_width s i
      have hf := decode_fits s i hlt
      have hat2 : at' ∈ placesFrom s (i + (Utf8.decode s i).2) ∨ at' = s.size := by
        rcases hat with h | h
        · rw [placesFrom_more s i hlt] at h
          rcases List.mem_cons.1 h with h | h
          · omega
          · exact .inl h
        · exact .inr h
      have hge : i + (Utf8.decode s i).2 ≤ at' := by
        rcases hat2 with h | h
        · exact place_ge h
        · omega
      rw [spotsFrom_more s i hlt, spotsFrom_more (s.extract 0 at') i (by omega), decode_cut s at' i hle (by omega) hge, ih _ (by omega) hge hat2]
      rfl

/-- The last of the characters. -/
theorem last_spot (t : ByteArray) (m i : Nat) (hm : t.size ≤ i + m) (hi : i < t.size) : ∃ front p, spotsFrom t i = front ++ [(p, (Utf8.decode t p).1)] ∧ p + (Utf8.decode t p).2 = t.size ∧ p ∈ placesFrom t i := by
  induction m generalizing i with
  | zero => omega
  | succ m ih =>
    have hw := decode_width t i
    have hf := decode_fits t i hi
    have hmore := spotsFrom_more t i hi
    have hpm := placesFrom_more t i hi
    by_cases hn : i + (Utf8.decode t i).2 < t.size
    · obtain ⟨front, p, h1, h2, h3⟩ := ih _ (by omega) hn
      refine ⟨(i, (Utf8.decode t i).1) :: front, p, ?_, h2, ?_⟩
      · rw [hmore, h1]; rfl
      · rw [hpm]; exact List.mem_cons_of_mem _ h3
    · refine ⟨[], i, ?_, by omega, ?_⟩
      · rw [hmore, spotsFrom_end t _ hn]; rfl
      · rw [hpm]; exact List.mem_cons_self ..

theorem getD_get (t : ByteArray) (j : Nat) (h : j < t.size) : t.data.toList.getD j 0 = t.get! j := by
  have hl : j < t.data.toList.length := by rw [size_list]; exact h
  rw [List.getD_eq_getElem?_getD, List.getElem?_eq_getElem hl, Option.getD_some, Array.getElem_toList]
  cases t with
  | mk d => exact (getElem!_pos d j h).symm

theorem decodeL_drop (t : ByteArray) (j : Nat) (h : j < t.size) : Lib.decodeL (t.data.toList.drop j) = Utf8.decode t j := by
  have h1 : (⟨(t.data.toList.drop j).toArray⟩ : ByteArray) = t.extract j t.size := by
    apply bytes_ext
    rw [ByteArray.data_extract, Array.toList_extract]
    simp [List.extract]
    rw [List.take_of_length_le (by rw [List.length_drop, size_list]; exact Nat.le_refl _)]
  unfold Lib.decodeL
  rw [h1, Lib.tail_decode, Nat.add_zero]

theorem start_of (t : ByteArray) (j : Nat) (h : j < t.size) : Lib.runeStartB (t.data.toList.getD j 0) = ((t.get! j).toNat / 64 != 2) := by
  unfold Lib.runeStartB
  rw [getD_get t j h]

/-- Where the library's reading from behind begins. -/
theorem lastStart_is (t : ByteArray) (h : 0 < t.size) : Lib.lastStart t.data.toList < t.size ∧ (Lib.lastStart t.data.toList + 1 = t.size → t.size = 1) ∧ ((t.get! (Lib.lastStart t.data.toList)).toNat / 64 ≠ 2 ∨ Lib.lastStart t.data.toList = 0 ∨ Lib.lastStart t.data.toList + 5 = t.size) := by
  have hl := size_list t
  unfold Lib.lastStart
  simp only [hl]
  by_cases e2 : t.size < 2
  · rw [if_pos e2]
    exact ⟨h, fun _ => by omega, .inr (.inl rfl)⟩
  rw [if_neg e2, start_of t (t.size - 2) (by omega)]
  by_cases c2 : ((t.get! (t.size - 2)).toNat / 64 != 2) = true
  · rw [if_pos c2]
    exact ⟨by omega, fun _ => by omega, .inl (by simpa using c2)⟩
  rw [if_neg c2]
  by_cases e3 : t.size < 3
  · rw [if_pos e3]
    exact ⟨h, fun _ => by omega, .inr (.inl rfl)⟩
  rw [if_neg e3, start_of t (t.size - 3) (by omega)]
  by_cases c3 : ((t.get! (t.size - 3)).toNat / 64 != 2) = true
  · rw [if_pos c3]
    exact ⟨by omega, fun _ => by omega, .inl (by simpa using c3)⟩
  rw [if_neg c3]
  by_cases e4 : t.size < 4
  · rw [if_pos e4]
    exact ⟨h, fun _ => by omega, .inr (.inl rfl)⟩
  rw [if_neg e4, start_of t (t.size - 4) (by omega)]
  by_cases c4 : ((t.get! (t.size - 4)).toNat / 64 != 2) = true
  · rw [if_pos c4]
    exact ⟨by omega, fun _ => by omega, .inl (by simpa using c4)⟩
  rw [if_neg c4]
  by_cases e5 : t.size < 5
  · rw [if_pos e5]
    exact ⟨h, fun _ => by omega, .inr (.inl rfl)⟩
  rw [if_neg e5]
  exact ⟨by omega, fun _ => by omega, .inr (.inr (by omega))⟩

/-- .. where the last character has more than one byte: at its first one. -/
theorem lastStart_wide (t : ByteArray) (p d : Nat) (hp : p + d = t.size) (h2 : 2 ≤ d) (h4 : d ≤ 4) (h0 : (t.get! p).toNat / 64 ≠ 2) (hk : ∀ k, 1 ≤ k → k < d → (t.get! (p + k)).toNat / 64 = 2) : Lib.lastStart t.data.toList = p := by
  have hl := size_list t
  unfold Lib.lastStart
  simp only [hl]
  rw [if_neg (by omega), start_of t (t.size - 2) (by omega)]
  rcases (show d = 2 ∨ d = 3 ∨ d = 4 by omega) with rfl | rfl | rfl
  · rw [show t.size - 2 = p by omega, if_pos (by simpa using h0)]
  · have k1 := hk 1 (by omega) (by omega)
    rw [show t.size - 2 = p + 1 by omega, if_neg (by simp [k1]), if_neg (by omega), start_of t (t.size - 3) (by omega), show t.size - 3 = p by omega, if_pos (by simpa using h0)]
  · have k1 := hk 1 (by omega) (by omega)
    have k2 := hk 2 (by omega) (by omega)
    rw [show t.size - 2 = p + 2 by omega, if_neg (by simp [k2]), if_neg (by omega), start_of t (t.size - 3) (by omega), show t.size - 3 = p + 1 by omega, if_neg (by simp [k1]), if_neg (by omega), start_of t (t.size - 4) (by omega), show t.size - 4 = p by omega, if_pos (by simpa using h0)]

/-- **From behind it is the same.** -/
theorem last_is (t : ByteArray) (p : Nat) (h : 0 < t.size) (hp : p ∈ placesFrom t 0) (he : p + (Utf8.decode t p).2 = t.size) : Lib.decodeLastL t.data.toList = Utf8.decode t p := by
  have hl := size_list t
  have hne : t.data.toList ≠ [] := by
    intro e
    rw [e] at hl
    simp at hl
    omega
  have hlast : t.data.toList.getD (t.data.toList.length - 1) 0 = t.get! (t.size - 1) := by rw [hl]; exact getD_get t _ (by omega)
  have hw := decode_width t p
  unfold Lib.decodeLastL
  rw [if_neg hne, hlast]
  rcases decode_shape t p with d1 | ⟨d2, hf, hk⟩
  · obtain rfl : p = t.size - 1 := by omega
    by_cases hlow : (t.get! (t.size - 1)).toNat < 128
    · rw [if_pos hlow, dec_one rfl hlow]
    · rw [if_neg hlow]
      have hbad : Utf8.decode t (t.size - 1) = (65533, 1) := by
        have hb : ¬ ¬ badB t (t.size - 1) := by
          intro hb
          have hen := enc_back t (t.size - 1) (by omega) hb
          have hdrop : t.data.toList.drop (t.size - 1) = [t.get! (t.size - 1)] := by
            rw [drop_one t _ (by omega), show t.size - 1 + 1 = t.size by omega, List.drop_eq_nil_of_le (by omega)]
          rw [hdrop, d1, show t.size - 1 + 1 = t.size by omega, List.drop_eq_nil_of_le (by omega), List.append_nil] at hen
          obtain ⟨n, hn, hv, _⟩ := scalar_valid (decode_sc t (t.size - 1))
          have hn2 : (Utf8.decode t (t.size - 1)).1 = n := by omega
          rw [hn2] at hen
          rcases (show n < 0x80 ∨ (0x80 ≤ n ∧ n < 0x800) ∨ (0x800 ≤ n ∧ n < 0x10000) ∨ 0x10000 ≤ n from by omega) with a | ⟨a, a'⟩ | ⟨a, a'⟩ | a
          · rw [encL_1 a] at hen
            have h3 : t.get! (t.size - 1) = UInt8.ofNat n := by simpa using hen
            rw [h3, to_nat (by omega)] at hlow
            exact hlow a
          · rw [encL_2 a a'] at hen; simp at hen
          · rw [encL_3 a a' hv] at hen; simp at hen
          · rw [encL_4 a hv] at hen; simp at hen
        have := Classical.not_not.1 hb
        unfold badB at this
        exact Prod.ext this.1 this.2
      rw [hbad]
      obtain ⟨hs1, hs2, hs3⟩ := lastStart_is t h
      obtain ⟨st, hst⟩ : ∃ st, Lib.lastStart t.data.toList = st := ⟨_, rfl⟩
      rw [hst] at hs1 hs2 hs3 ⊢
      dsimp only
      rw [decodeL_drop t st hs1, hl]
      by_cases hend : st + (Utf8.decode t st).2 = t.size
      · rw [if_pos hend]
        by_cases h1 : t.size = 1
        · obtain rfl : st = t.size - 1 := by omega
          exact hbad
        · exfalso
          have hlt : st + 1 ≠ t.size := fun e => h1 (hs2 e)
          have hw2 := decode_width t st
          rcases decode_shape t st with e1 | ⟨e2, ef, ek⟩
          · omega
          · have hbs : st ∈ placesFrom t 0 := start_place t st 0 st (by omega) (by omega) hs1 (by omega)
            have hsplit := cut_spots t st st 0 (by omega) (by omega) (.inl hbs)
            have hpl : placesFrom t 0 = placesFrom (t.extract 0 st) 0 ++ placesFrom t st := by
              unfold placesFrom
              rw [hsplit, List.map_append]
            rw [hpl, placesFrom_more t st hs1, hend, placesFrom_end t t.size (by omega)] at hp
            rcases List.mem_append.1 hp with h5 | h5
            · have := place_lt h5
              rw [extract_size t st (by omega)] at this
              omega
            · simp at h5
              omega
      · rw [if_neg hend]
        rfl
  · have hhigh : ¬ (t.get! (t.size - 1)).toNat < 128 := by
      have := (hk ((Utf8.decode t p).2 - 1) (by omega) (by omega)).2
      rw [show p + ((Utf8.decode t p).2 - 1) = t.size - 1 by omega] at this
      omega
    have hb := (t.get! p).toNat_lt
    have hst := lastStart_wide t p (Utf8.decode t p).2 he d2 hw.2 (by omega) (fun k k1 k2 => (hk k k1 k2).2)
    rw [if_neg hhigh, hst]
    dsimp only
    rw [decodeL_drop t p (by omega), if_pos (by rw [hl]; exact he)]

end Go.Proofs.YthkehgmeaedflaaDoor
