/-
  A text in two pieces. Plain laws.
-/
import Derived.Test.YthkehgmeaedflaaDoorCheck
namespace Go.Proofs.YthkehgmeaedflaaDoor
open Go.RowKit

/-- The text does not begin with a byte that stands behind a first one. -/
def NoCont (t : ByteArray) : Prop := 0 < t.size → (t.get! 0).toNat / 64 ≠ 2

/-- Is a character wrong? -/
def badB (s : ByteArray) (p : Nat) : Prop := (Utf8.decode s p).1 = 65533 ∧ (Utf8.decode s p).2 = 1

theorem code_zero {s : ByteArray} {p : Nat} (h : codeOf s p = 0) : ¬ badB s p := by
  intro hb
  unfold badB at hb
  unfold codeOf at h
  rw [if_pos hb] at h
  have := whyOf_le (s.extract p s.size)
  omega
theorem code_pos {s : ByteArray} {p : Nat} (h : codeOf s p ≠ 0) : badB s p := by
  unfold codeOf at h
  unfold badB
  split at h
  · assumption
  · exact (h rfl).elim

theorem check_zero {s : ByteArray} (h : (checkOf s).2 = 0) : ∀ p ∈ placesFrom s 0, codeOf s p = 0 := by
  unfold checkOf at h
  split at h
  · rename_i x hx
    have := List.find?_some hx
    simp at this
    exact (this h).elim
  · rename_i hx
    intro p hp
    have := List.find?_eq_none.1 hx p hp
    simpa using this
theorem check_nonzero {s : ByteArray} (h : (checkOf s).2 ≠ 0) : ∃ p ∈ placesFrom s 0, codeOf s p ≠ 0 ∧ checkOf s = (p, codeOf s p) := by
  unfold checkOf at h ⊢
  split at h
  · rename_i x hx
    exact ⟨x, List.mem_of_find?_eq_some hx, h, rfl⟩
  · exact (h rfl).elim

/-- What a text reads at a byte, with another behind it. -/
theorem decode_join (s t : ByteArray) (i : Nat) (hi : i < s.size) (h : NoCont t ∨ ¬ badB s i) : Utf8.decode (s ++ t) i = Utf8.decode s i := by
  have hsz := ByteArray.size_append (a := s) (b := t)
  have same : ∀ k, i + k < s.size → (s ++ t).get! (i + k) = s.get! (i + k) := fun k hk => get_append_left s t (i + k) hk
  have e0 : (s ++ t).get! i = s.get! i := same 0 hi
  obtain ⟨b0, hb0⟩ : ∃ b0, (s.get! i).toNat = b0 := ⟨_, rfl⟩
  have g0 : ((s ++ t).get! i).toNat = b0 := by rw [e0, hb0]
  have hbb : b0 < 256 := by rw [← hb0]; exact (s.get! i).toNat_lt
  have up : ∀ k, tailOk s i k → tailOk (s ++ t) i k := fun k h => ⟨by have := h.1; omega, by rw [same k h.1]; exact h.2⟩
  have down : ∀ k, i + k < s.size → tailOk (s ++ t) i k → tailOk s i k := fun k hk h => ⟨hk, by rw [← same k hk]; exact h.2⟩
  have seam : ∀ k, i + k = s.size → tailOk (s ++ t) i k → ¬ NoCont t := fun k hk h hn => by
    have h1 := h.1
    have h2 := h.2
    have h3 : (s ++ t).get! (s.size + 0) = t.get! 0 := get_append_right s t 0 (by omega)
    rw [hk] at h2
    rw [Nat.add_zero] at h3
    rw [h3] at h2
    exact hn (by omega) h2
  rcases (show b0 < 128 ∨ (128 ≤ b0 ∧ b0 < 192) ∨ (192 ≤ b0 ∧ b0 < 224) ∨ (224 ≤ b0 ∧ b0 < 240) ∨ (240 ≤ b0 ∧ b0 ≤ 247) ∨ 247 < b0 from by omega) with f | ⟨f, f'⟩ | ⟨f, f'⟩ | ⟨f, f'⟩ | ⟨f, f'⟩ | f
  · rw [dec_one g0 f, dec_one hb0 f]
  · rw [dec_lead g0 f (.inl f') hbb, dec_lead hb0 f (.inl f') hbb]
  · by_cases c1 : tailOk s i 1
    · have t1 := up 1 c1
      obtain ⟨p1, q1⟩ := tail_range c1
      obtain ⟨x, hx⟩ : ∃ x, x + 128 = (b0 % 32) * 64 + (s.get! (i + 1)).toNat := ⟨(b0 % 32) * 64 + (s.get! (i + 1)).toNat - 128, by omega⟩
      rw [dec_two g0 (by rw [same 1 c1.1]) t1.1 f f' p1 q1 hx, dec_two hb0 rfl c1.1 f f' p1 q1 hx]
    · have hd := dec_two_no hb0 f f' c1
      rw [hd]
      have hn : NoCont t := h.resolve_right (fun h2 => h2 (by unfold badB; rw [hd]; exact ⟨rfl, rfl⟩))
      refine dec_two_no g0 f f' (fun t1 => ?_)
      by_cases hk : i + 1 < s.size
      · exact c1 (down 1 hk t1)
      · exact seam 1 (by omega) t1 hn
  · by_cases c : tailOk s i 1 ∧ tailOk s i 2
    · obtain ⟨c1, c2⟩ := c
      have t1 := up 1 c1
      have t2 := up 2 c2
      obtain ⟨p1, q1⟩ := tail_range c1
      obtain ⟨p2, q2⟩ := tail_range c2
      rw [dec_three (x := (b0 % 16) * 4096 + ((s.get! (i + 1)).toNat - 128) * 64 + ((s.get! (i + 2)).toNat - 128)) g0 (by rw [same 1 c1.1]) (by rw [same 2 c2.1]) t1.1 t2.1 f f' p1 q1 p2 q2 rfl, dec_three hb0 rfl rfl c1.1 c2.1 f f' p1 q1 p2 q2 rfl]
    · have hd := dec_three_no hb0 f f' c
      rw [hd]
      have hn : NoCont t := h.resolve_right (fun h2 => h2 (by unfold badB; rw [hd]; exact ⟨rfl, rfl⟩))
      refine dec_three_no g0 f f' (fun ⟨t1, t2⟩ => ?_)
      by_cases hk : i + 2 < s.size
      · exact c ⟨down 1 (by omega) t1, down 2 hk t2⟩
      · by_cases hk1 : i + 1 = s.size
        · exact seam 1 hk1 t1 hn
        · exact seam 2 (by omega) t2 hn
  · by_cases c : (tailOk s i 1 ∧ tailOk s i 2) ∧ tailOk s i 3
    · obtain ⟨⟨c1, c2⟩, c3⟩ := c
      have t1 := up 1 c1
      have t2 := up 2 c2
      have t3 := up 3 c3
      obtain ⟨p1, q1⟩ := tail_range c1
      obtain ⟨p2, q2⟩ := tail_range c2
      obtain ⟨p3, q3⟩ := tail_range c3
      rw [dec_four (x := (b0 % 8) * 262144 + ((s.get! (i + 1)).toNat - 128) * 4096 + ((s.get! (i + 2)).toNat - 128) * 64 + ((s.get! (i + 3)).toNat - 128)) g0 (by rw [same 1 c1.1]) (by rw [same 2 c2.1]) (by rw [same 3 c3.1]) t1.1 t2.1 t3.1 f f' p1 q1 p2 q2 p3 q3 rfl, dec_four hb0 rfl rfl rfl c1.1 c2.1 c3.1 f f' p1 q1 p2 q2 p3 q3 rfl]
    · have hd := dec_four_no hb0 f f' c
      rw [hd]
      have hn : NoCont t := h.resolve_right (fun h2 => h2 (by unfold badB; rw [hd]; exact ⟨rfl, rfl⟩))
      refine dec_four_no g0 f f' (fun ⟨⟨t1, t2⟩, t3⟩ => ?_)
      by_cases hk : i + 3 < s.size
      · exact c ⟨⟨down 1 (by omega) t1, down 2 (by omega) t2⟩, down 3 hk t3⟩
      · by_cases hk1 : i + 1 = s.size
        · exact seam 1 hk1 t1 hn
        · by_cases hk2 : i + 2 = s.size
          · exact seam 2 hk2 t2 hn
          · exact seam 3 (by omega) t3 hn
  · rw [dec_lead g0 (by omega) (.inr f) hbb, dec_lead hb0 (by omega) (.inr f) hbb]

theorem spots_join (s t : ByteArray) (m pos : Nat) (hm : s.size ≤ pos + m) (hp : pos ≤ s.size) (h : NoCont t ∨ ∀ p ∈ placesFrom s pos, ¬ badB s p) :
    (spotsFrom (s ++ t) pos).map Prod.snd = (spotsFrom s pos).map Prod.snd ++ (spotsFrom t 0).map Prod.snd := by
  have hs := ByteArray.size_append (a := s) (b := t)
  induction m generalizing pos with
  | zero =>
    obtain rfl : pos = s.size := by omega
    rw [spotsFrom_end s s.size (by omega)]
    exact spots_behind s t t.size 0 (by omega)
  | succ m ih =>
    by_cases hlt : pos < s.size
    · have hw := decode_width s pos
      have hfit := decode_fits s pos hlt
      have hpm := placesFrom_more s pos hlt
      rw [hpm] at h
      have hj := decode_join s t pos hlt (h.imp id (fun h => h pos (List.mem_cons_self ..)))
      rw [spotsFrom_more (s ++ t) pos (by rw [hs]; omega), spotsFrom_more s pos hlt, hj]
      simp only [List.map_cons, List.cons_append]
      rw [ih _ (by omega) hfit (h.imp id (fun h p hp => h p (List.mem_cons_of_mem _ hp)))]
    · obtain rfl : pos = s.size := by omega
      rw [spotsFrom_end s s.size (by omega)]
      exact spots_behind s t t.size 0 (by omega)

/-- The characters of two pieces stand one behind the other. -/
theorem text_join (s t : ByteArray) (h : NoCont t ∨ (checkOf s).2 = 0) : textRunes (s ++ t) = textRunes s ++ textRunes t := by
  rw [runes_snd, spots_join s t s.size 0 (by omega) (Nat.zero_le _) (h.imp id (fun h p hp => code_zero (check_zero h p hp))), List.map_append, ← runes_snd, ← runes_snd]

end Go.Proofs.YthkehgmeaedflaaDoor
