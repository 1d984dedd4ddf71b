/-
  Nothing is lost: widths, places by bytes and by characters, the parts' bytes. Plain laws.
-/
import Derived.Test.YthkehgmeaedflaaDoorMethM
import Derived.Test.YthkehgmeaedflaaDoorBase
import Derived.Test.YthkehgmeaedflaaDoorOrderM
import Derived.Test.YthkehgmeaedflaaDoorSmalls
import Derived.Test.YthkehgmeaedflaaDoorPieceM
namespace Go.Proofs.YthkehgmeaedflaaDoor
open Go.RowKit

theorem encL_width (c : Nat) (h : scalarB (c : Int) = true) : (encL (c : Int)).length = widthOf (c : Int) := by
  have hs := scalar_of h
  have hv : Utf8.valid (c : Int) = true := valid_of (by omega)
  unfold widthOf
  rw [if_pos h]
  by_cases h1 : c < 0x80
  · rw [encL_1 h1, if_pos (by omega)]; rfl
  · rw [if_neg (by omega)]
    by_cases h2 : c < 0x800
    · rw [encL_2 (by omega) h2, if_pos (by omega)]; rfl
    · rw [if_neg (by omega)]
      by_cases h3 : c < 0x10000
      · rw [encL_3 (by omega) h3 hv, if_pos (by omega)]; rfl
      · rw [encL_4 (by omega) hv, if_neg (by omega)]; rfl

/-- A right character is as wide as its number. -/
theorem right_width {s : ByteArray} {x : Nat} (hx : x < s.size) (hc : codeOf s x = 0) : widthOf ((Utf8.decode s x).1 : Int) = (Utf8.decode s x).2 := by
  have hb := enc_back s x hx (code_zero hc)
  have hf := decode_fits s x hx
  have hl := congrArg List.length hb
  rw [List.length_append, List.length_drop, List.length_drop, size_list, encL_width _ (decode_sc s x)] at hl
  omega

/-- The place that is next. -/
def placeAt (s : ByteArray) (k : Nat) : Nat := (indexOf s)[k]?.getD 0
theorem placeAt_is {s : ByteArray} {k p : Nat} (h : (placesFrom s 0)[k]? = some p) : placeAt s k = p := by
  have hk : k < (placesFrom s 0).length := (List.getElem?_eq_some_iff.1 h).1
  unfold placeAt indexOf
  rw [List.getElem?_append_left hk, h]
  rfl
theorem placeAt_zero (s : ByteArray) : placeAt s 0 = 0 := by unfold placeAt; rw [index_zero]; rfl
theorem placeAt_end (s : ByteArray) : placeAt s (placesFrom s 0).length = s.size := by
  unfold placeAt indexOf
  rw [List.getElem?_append_right (Nat.le_refl _), Nat.sub_self]
  rfl
/-- One behind the other. -/
theorem index_next (s : ByteArray) : ∀ (m i k p : Nat), s.size ≤ i + m → (placesFrom s i)[k]? = some p → (placesFrom s i ++ [s.size])[k + 1]? = some (p + (Utf8.decode s p).2)
  | 0, i, k, p, h, hp => by rw [placesFrom_end s i (by omega)] at hp; simp at hp
  | m + 1, i, k, p, h, hp => by
    by_cases hi : i < s.size
    · have hw := decode_width s i
      rw [placesFrom_more s i hi] at hp ⊢
      rw [List.cons_append, List.getElem?_cons_succ]
      cases k with
      | zero =>
        simp at hp
        subst hp
        by_cases h2 : i + (Utf8.decode s i).2 < s.size
        · rw [placesFrom_more s _ h2]; rfl
        · rw [placesFrom_end s _ h2]
          have := decode_fits s i hi
          simp
          omega
      | succ k =>
        rw [List.getElem?_cons_succ] at hp
        exact index_next s m _ k p (by omega) hp
    · rw [placesFrom_end s i hi] at hp
      simp at hp
theorem placeAt_next {s : ByteArray} {k p : Nat} (h : (placesFrom s 0)[k]? = some p) : placeAt s (k + 1) = p + (Utf8.decode s p).2 := by
  unfold placeAt indexOf
  rw [index_next s s.size 0 k p (by omega) h]
  rfl

theorem byteOf_at {s : ByteArray} {k p : Nat} (h : (placesFrom s 0)[k]? = some p) : byteOf s (k : Int) = ((p : Int), 0) := by
  have hk : k < (placesFrom s 0).length := (List.getElem?_eq_some_iff.1 h).1
  have hp := placeAt_is h
  unfold placeAt indexOf at hp
  unfold byteOf
  rw [if_neg (by omega), Int.toNat_natCast, hp]
theorem byteOf_end (s : ByteArray) : byteOf s ((placesFrom s 0).length : Int) = ((s.size : Int), 0) := by
  have hp := placeAt_end s
  unfold placeAt indexOf at hp
  unfold byteOf
  rw [if_neg (by omega), Int.toNat_natCast, hp]
theorem startsB_at {s : ByteArray} {k p : Nat} (h : (placesFrom s 0)[k]? = some p) : startsB s (p : Int) = true := by
  rw [startsB_eq]
  simp
  exact .inr ⟨p, List.mem_of_getElem? h, rfl⟩

theorem count_sorted : ∀ (l : List Int) (k : Nat) (b x : Int), l.Pairwise (· < ·) → l[k]? = some x → x ≤ b → (∀ y, l[k + 1]? = some y → b < y) → l.countP (· ≤ b) = k + 1
  | [], k, b, x, _, h, _, _ => by simp at h
  | z :: l, 0, b, x, hs, h, hx, hn => by
    simp at h
    subst h
    rw [List.pairwise_cons] at hs
    have h0 : l.countP (· ≤ b) = 0 := by
      rw [List.countP_eq_zero]
      intro y hy
      cases l with
      | nil => cases hy
      | cons u l =>
        have hu := hn u rfl
        rw [List.pairwise_cons] at hs
        rcases List.mem_cons.1 hy with rfl | hy
        · simp; omega
        · have := hs.2.1 y hy
          simp; omega
    rw [List.countP_cons_of_pos (by simpa using hx), h0]
  | z :: l, k + 1, b, x, hs, h, hx, hn => by
    rw [List.pairwise_cons] at hs
    rw [List.getElem?_cons_succ] at h
    have hz := hs.1 x (List.mem_of_getElem? h)
    rw [List.countP_cons_of_pos (by simp; omega), count_sorted l k b x hs.2 h hx (fun y hy => hn y (by simpa using hy))]

theorem hasOf_at {s : ByteArray} {k p j : Nat} (h : (placesFrom s 0)[k]? = some p) (hj : j < (Utf8.decode s p).2) : hasOf s ((p : Int) + (j : Int)) = ((k : Int), 0) := by
  have hk : k < (placesFrom s 0).length := (List.getElem?_eq_some_iff.1 h).1
  have hx : p < s.size := place_lt (List.mem_of_getElem? h)
  have hf := decode_fits s p hx
  have hi : (indexI s)[k]? = some (p : Int) := by
    unfold indexI indexOf
    rw [List.getElem?_map, List.getElem?_append_left hk, h]
    rfl
  have hn : (indexI s)[k + 1]? = some ((p + (Utf8.decode s p).2 : Nat) : Int) := by
    have := index_next s s.size 0 k p (by omega) h
    unfold indexI indexOf
    rw [List.getElem?_map, this]
    rfl
  have hc := count_sorted (indexI s) k ((p : Int) + (j : Int)) p (indexI_sorted s) hi (by omega) (fun y hy => by
    rw [hn] at hy
    have := Option.some.inj hy
    omega)
  unfold hasOf upTo
  rw [if_neg (by omega), hc]
  simp

/-- The bytes of the parts, one behind the other. -/
def glue (s : ByteArray) (l : List Nat) : ByteArray := l.foldl (fun t x => t ++ partS s x) ⟨#[]⟩
theorem glue_add (s : ByteArray) (l : List Nat) (x : Nat) : glue s (l ++ [x]) = glue s l ++ partS s x := by
  unfold glue
  rw [List.foldl_append]
  rfl

theorem glue_size (s : ByteArray) (l : List Nat) : (glue s l).size ≤ 4 * l.length := by
  suffices H : ∀ (t : ByteArray), (l.foldl (fun t x => t ++ partS s x) t).size ≤ t.size + 4 * l.length by
    have := H ⟨#[]⟩
    have e : (⟨#[]⟩ : ByteArray).size = 0 := rfl
    unfold glue
    omega
  induction l with
  | nil => intro t; simp
  | cons x l ih =>
    intro t
    have h1 := ih (t ++ partS s x)
    have h2 := part_range s x
    have h3 : (partS s x).size ≤ 4 := by unfold partS; rw [ByteArray.size_extract]; omega
    rw [ByteArray.size_append] at h1
    simp only [List.foldl_cons, List.length_cons]
    omega

theorem extract_join (s : ByteArray) (i j : Nat) (h1 : i ≤ j) (h2 : j ≤ s.size) : s.extract i j ++ s.extract j s.size = s.extract i s.size := by
  refine ByteArray.ext ?_
  simp only [ByteArray.data_append, ByteArray.data_extract]
  rw [Array.extract_append_extract]
  congr 1 <;> omega
theorem extract_over (s : ByteArray) (i j : Nat) (h : s.size ≤ j) : s.extract i j = s.extract i s.size := by
  refine ByteArray.ext ?_
  simp only [ByteArray.data_extract]
  have h' : s.data.size ≤ j := h
  refine Array.ext ?_ (fun k h1 h2 => ?_)
  · rw [Array.size_extract, Array.size_extract, Nat.min_eq_right h']
    rw [show min s.size s.data.size = s.data.size from Nat.min_self _]
  · rw [Array.getElem_extract, Array.getElem_extract]
theorem glue_from (s : ByteArray) : ∀ (m i : Nat) (t : ByteArray), s.size ≤ i + m → (piecesFrom s i).foldl (fun t x => t ++ partS s x) t = t ++ s.extract i s.size
  | 0, i, t, h => by
    rw [piecesFrom_end s i (by omega)]
    have : s.extract i s.size = ⟨#[]⟩ := by
      refine ByteArray.ext ?_
      rw [ByteArray.data_extract]
      simp
      exact h
    rw [this]
    refine ByteArray.ext ?_
    simp
  | m + 1, i, t, h => by
    by_cases hi : i < s.size
    · have hw := part_range s i
      rw [piecesFrom_more s i hi, List.foldl_cons, glue_from s m _ _ (by omega), ByteArray.append_assoc]
      congr 1
      unfold partS
      by_cases h2 : i + partW s i ≤ s.size
      · exact extract_join s i _ (by omega) h2
      · rw [extract_over s i _ (by omega)]
        refine ByteArray.ext ?_
        rw [ByteArray.data_append, ByteArray.data_extract, ByteArray.data_extract]
        rw [show s.data.extract (i + partW s i) s.size = #[] by simp; omega]
        simp
    · exact glue_from s 0 i t (by omega)
theorem glue_all (s : ByteArray) : glue s (piecesFrom s 0) = s := by
  unfold glue
  rw [glue_from s s.size 0 _ (by omega)]
  refine ByteArray.ext ?_
  rw [ByteArray.data_append, ByteArray.data_extract]
  simp

end Go.Proofs.YthkehgmeaedflaaDoor
