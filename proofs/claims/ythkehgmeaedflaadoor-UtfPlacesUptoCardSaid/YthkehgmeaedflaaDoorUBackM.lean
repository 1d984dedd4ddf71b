/-
  There and back: a text mended is right, and itself where it was right. Plain laws.
-/
import Derived.Test.YthkehgmeaedflaaDoorOrderM
namespace Go.Proofs.YthkehgmeaedflaaDoor
open Go.RowKit

theorem places_behind (a b : ByteArray) (m j : Nat) (hm : b.size ≤ j + m) : placesFrom (a ++ b) (a.size + j) = (placesFrom b j).map (a.size + ·) := by
  have hs := ByteArray.size_append (a := a) (b := b)
  induction m generalizing j with
  | zero => rw [placesFrom_end b j (by omega), placesFrom_end (a ++ b) _ (by rw [hs]; omega)]; rfl
  | succ m ih =>
    by_cases h : j < b.size
    · have hw := decode_width b j
      rw [placesFrom_more b j h, placesFrom_more (a ++ b) _ (by rw [hs]; omega), decode_behind a b j h]
      simp only [List.map_cons]
      rw [Nat.add_assoc, ih _ (by omega)]
    · rw [placesFrom_end b j h, placesFrom_end (a ++ b) _ (by rw [hs]; omega)]
      rfl

theorem places_lt (s : ByteArray) (m i : Nat) : ∀ x ∈ (spotsN s m i).map Prod.fst, x < s.size := by
  induction m generalizing i with
  | zero => intro x hx; simp [spotsN] at hx
  | succ m ih =>
    intro x hx
    unfold spotsN at hx
    split at hx
    · rw [List.map_cons] at hx
      rcases List.mem_cons.1 hx with rfl | h
      · assumption
      · exact ih _ _ h
    · simp at hx

theorem place_lt {s : ByteArray} {i x : Nat} (h : x ∈ placesFrom s i) : x < s.size := places_lt s s.size i x h

theorem enc_bad (r : Int) (t : ByteArray) : ¬ badB (Utf8.encode r ++ t) 0 := by
  unfold badB
  rw [enc_dec]
  rintro ⟨h1, h2⟩
  have h3 : (mendR r).toNat = 65533 := h1
  have h4 : mendR r = 65533 := by
    have := mend_nat r
    omega
  by_cases hs : scalarB r = true
  · have : r = 65533 := by
      unfold mendR at h4
      rw [if_pos hs] at h4
      exact h4
    subst this
    have : (Utf8.encode 65533).size = 3 := by decide
    simp only at h2
    omega
  · have hv : ¬ Utf8.valid r = true := by
      intro hv
      apply hs
      unfold Utf8.valid at hv
      unfold scalarB
      simp at hv ⊢
      omega
    have : Utf8.encode r = ⟨#[239, 191, 189]⟩ := by
      unfold Utf8.encode
      rw [if_neg hv]
      decide
    rw [this] at h2
    have h5 : (3 : Nat) = 1 := h2
    omega

theorem right_enc (l : List Int) : ∀ p ∈ placesFrom (runesBytes l) 0, ¬ badB (runesBytes l) p := by
  induction l with
  | nil =>
    intro p hp
    have : placesFrom (runesBytes []) 0 = [] := placesFrom_end _ _ (by decide)
    rw [this] at hp
    cases hp
  | cons r l ih =>
    intro p hp
    rw [runesBytes_cons] at hp ⊢
    have hs := ByteArray.size_append (a := Utf8.encode r) (b := runesBytes l)
    have hp0 := enc_pos r
    rw [placesFrom_more _ 0 (by rw [hs]; omega), enc_dec, Nat.zero_add] at hp
    rcases List.mem_cons.1 hp with rfl | hp
    · exact enc_bad r _
    · have hb := places_behind (Utf8.encode r) (runesBytes l) (runesBytes l).size 0 (by omega)
      rw [Nat.add_zero] at hb
      rw [hb] at hp
      obtain ⟨q, hq, rfl⟩ := List.mem_map.1 hp
      have := ih q hq
      unfold badB at this ⊢
      rw [decode_behind _ _ q (place_lt hq)]
      exact this

theorem check_right {s : ByteArray} (h : ∀ p ∈ placesFrom s 0, ¬ badB s p) : checkOf s = (s.size, 0) := by
  refine check_none (ys := placesFrom s 0) rfl (fun y hy => ?_)
  have := h y hy
  unfold codeOf
  exact if_neg this

theorem check_enc (l : List Int) : checkOf (runesBytes l) = ((runesBytes l).size, 0) := check_right (right_enc l)

/-- A text mended. -/
def mendS (s : ByteArray) : ByteArray := runesBytes (textRunes s)
theorem check_mend (s : ByteArray) : checkOf (mendS s) = ((mendS s).size, 0) := check_enc _
theorem runes_mend (s : ByteArray) : textRunes (mendS s) = textRunes s := by
  unfold mendS
  rw [text_enc, mend_scalars _ (text_scalar s)]
theorem count_mend (s : ByteArray) : (placesFrom (mendS s) 0).length = (placesFrom s 0).length := by
  have := congrArg List.length (runes_mend s)
  rw [places_runes, places_runes] at this
  exact this
theorem mend_mend (s : ByteArray) : mendS (mendS s) = mendS s := by
  have := runes_mend s
  unfold mendS at this ⊢
  rw [this]
theorem bytes_ext {s t : ByteArray} (h : s.data.toList = t.data.toList) : s = t := by
  cases s; cases t
  congr 1
  exact Array.ext' h
theorem mend_right {s : ByteArray} (h : (checkOf s).2 = 0) : mendS s = s := bytes_ext (by
  have := right_back h
  unfold mendS
  rw [bytes_encs, this])
theorem mend_iff (s : ByteArray) : mendS s = s ↔ (checkOf s).2 = 0 := by
  refine ⟨fun h => ?_, mend_right⟩
  have := check_mend s
  rw [h] at this
  rw [this]
theorem check_size {s : ByteArray} (h : (checkOf s).2 = 0) : checkOf s = (s.size, 0) := by
  have := check_mend s
  rwa [mend_right h] at this

end Go.Proofs.YthkehgmeaedflaaDoor
