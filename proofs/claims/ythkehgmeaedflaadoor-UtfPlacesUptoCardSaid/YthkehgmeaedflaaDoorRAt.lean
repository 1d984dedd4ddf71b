/-
  The reference's reading of one character is the language's own, and says why where it is wrong as the program does.
-/
import Derived.Test.YthkehgmeaedflaaDoorRAtTwo
import Derived.Test.YthkehgmeaedflaaDoorRAtThree
import Derived.Test.YthkehgmeaedflaaDoorRAtFour
namespace Go.Proofs.YthkehgmeaedflaaDoor
open Go.RowKit

/-- What the reference's At hands back: the program's own spot. -/
def SpotR (s : ByteArray) (i : Nat) (w : World) : Ending → World → Prop := fun e w' => e = .returned (spotE s i) ∧ Below w.heap.size w w'

theorem tail_get (s : ByteArray) (i k : Nat) (h : i + k < s.size) : (s.extract i s.size).get! k = s.get! (i + k) := by
  have hz := tail_size s i
  apply UInt8.toNat_inj.1
  rw [get_at2 _ k (by omega), get_at2 s (i + k) h, ByteArray.getElem_extract]

theorem need2 {b : Nat} (h : 192 ≤ b) (h2 : b < 224) : needOf b = 2 := by unfold needOf; rw [if_neg (by omega), if_neg (by omega), if_pos h2]
theorem need3 {b : Nat} (h : 224 ≤ b) (h2 : b < 240) : needOf b = 3 := by unfold needOf; rw [if_neg (by omega), if_neg (by omega), if_neg (by omega), if_pos h2]
theorem need4 {b : Nat} (h : 240 ≤ b) (h2 : b ≤ 247) : needOf b = 4 := by unfold needOf; rw [if_neg (by omega), if_neg (by omega), if_neg (by omega), if_neg (by omega), if_pos (by omega)]

section
variable {s : ByteArray} {i : Nat}

theorem wlead {b0 : Nat} (h : i < s.size) (g0 : (s.get! i).toNat = b0) (hb : (128 ≤ b0 ∧ b0 < 192) ∨ 247 < b0) : whyOf (s.extract i s.size) = 10 := by
  have hg : ((s.extract i s.size).get! 0).toNat = b0 := by rw [tail_get s i 0 h]; exact g0
  have hn : needOf b0 = 0 := by
    unfold needOf
    rcases hb with ⟨h1, h2⟩ | h1
    · rw [if_neg (by omega), if_pos h2]
    · rw [if_neg (by omega), if_neg (by omega), if_neg (by omega), if_neg (by omega), if_neg (by omega)]
  unfold whyOf
  simp only [hg, hn]
  rfl
theorem whead {b0 n m : Nat} (h : i < s.size) (g0 : (s.get! i).toNat = b0) (hn : needOf b0 = n) (h2 : 2 ≤ n) (hm : b0 % (128 / 2 ^ n) = m) : whyOf (s.extract i s.size) = whyL (s.extract i s.size) n (n - 1) 1 m := by
  have hg : ((s.extract i s.size).get! 0).toNat = b0 := by rw [tail_get s i 0 h]; exact g0
  unfold whyOf
  simp only [hg, hn, hm]
  rw [if_neg (by omega)]
theorem wcut {n k j x : Nat} (h : s.size ≤ i + j) : whyL (s.extract i s.size) n (k + 1) j x = 11 := by
  unfold whyL
  rw [if_pos (by rw [tail_size]; omega)]
theorem wtail {n k j x b : Nat} (l : i + j < s.size) (g : (s.get! (i + j)).toNat = b) (h : b < 128 ∨ 191 < b) : whyL (s.extract i s.size) n (k + 1) j x = 12 := by
  have hb : b < 256 := by rw [← g]; exact (s.get! (i + j)).toNat_lt
  unfold whyL
  rw [if_neg (by rw [tail_size]; omega), tail_get s i j l, g, if_neg (by omega)]
theorem wstep {n k j x y b : Nat} (l : i + j < s.size) (g : (s.get! (i + j)).toNat = b) (p : 128 ≤ b) (q : b ≤ 191) (hx : y + 128 = x * 64 + b) : whyL (s.extract i s.size) n (k + 1) j x = whyL (s.extract i s.size) n k (j + 1) y := by
  have e : x * 64 + b % 64 = y := by omega
  show (if (s.extract i s.size).size ≤ j then 11 else if ((s.extract i s.size).get! j).toNat / 64 = 2 then whyL (s.extract i s.size) n k (j + 1) (x * 64 + ((s.extract i s.size).get! j).toNat % 64) else 12) = _
  rw [if_neg (by rw [tail_size]; omega), tail_get s i j l, g, if_pos (by omega), e]

theorem spot_b {w : World} {c : Nat} (hc : Calls Tryd.prog 39 #[.string s, .int .i64 i] w fun e w' => e = .returned (.agg (spotV i 1 65533 c)) ∧ Below w.heap.size w w') (hd : Utf8.decode s i = (65533, 1)) (hw : whyOf (s.extract i s.size) = c) : Calls Tryd.prog 39 #[.string s, .int .i64 i] w (SpotR s i w) :=
  hc.mono fun e w' ⟨h1, h2⟩ => ⟨by unfold spotE codeOf; rw [h1, hd, if_pos ⟨rfl, rfl⟩, hw], h2⟩
theorem spot_g {w : World} {r wd : Nat} (hc : Calls Tryd.prog 39 #[.string s, .int .i64 i] w fun e w' => e = .returned (.agg (spotV i wd r 0)) ∧ Below w.heap.size w w') (hd : Utf8.decode s i = (r, wd)) (hw : wd ≠ 1 := by decide) : Calls Tryd.prog 39 #[.string s, .int .i64 i] w (SpotR s i w) :=
  hc.mono fun e w' ⟨h1, h2⟩ => ⟨by unfold spotE codeOf; rw [h1, hd, if_neg (fun h => hw h.2)], h2⟩
theorem spot_1 {w : World} {r : Nat} (hc : Calls Tryd.prog 39 #[.string s, .int .i64 i] w fun e w' => e = .returned (.agg (spotV i 1 r 0)) ∧ Below w.heap.size w w') (hd : Utf8.decode s i = (r, 1)) (hw : r < 128) : Calls Tryd.prog 39 #[.string s, .int .i64 i] w (SpotR s i w) :=
  hc.mono fun e w' ⟨h1, h2⟩ => ⟨by unfold spotE codeOf; rw [h1, hd, if_neg (fun h => by have := h.1; simp at this; omega)], h2⟩
end

theorem valid_no {x : Nat} (h : 55296 ≤ x ∧ x ≤ 57343 ∨ 1114111 < x) : ¬ Utf8.valid (x : Int) = true := by
  simp [Utf8.valid]
  omega
theorem valid_yes {x : Nat} (h : x < 55296 ∨ 57343 < x ∧ x ≤ 1114111) : Utf8.valid (x : Int) = true := by
  simp [Utf8.valid]
  omega

theorem rat_any (s : ByteArray) (i : Nat) (w : World) (h : i < s.size) (hs : s.size ≤ 70368744177664) : Calls Tryd.prog 39 #[.string s, .int .i64 i] w (SpotR s i w) := by
  obtain ⟨b0, hb0⟩ : ∃ b0, s[i].toNat = b0 := ⟨_, rfl⟩
  have g0 : (s.get! i).toNat = b0 := by rw [get_at2 s i h, hb0]
  have hbb : b0 < 256 := by rw [← hb0]; exact s[i].toNat_lt
  have at1 : ∀ k (hk : i + k < s.size), ∃ b, s[i + k].toNat = b ∧ (s.get! (i + k)).toNat = b := fun k hk => ⟨_, rfl, get_at2 s (i + k) hk⟩
  rcases (show b0 < 128 ∨ (128 ≤ b0 ∧ b0 < 192) ∨ (192 ≤ b0 ∧ b0 < 224) ∨ (224 ≤ b0 ∧ b0 < 240) ∨ (240 ≤ b0 ∧ b0 ≤ 247) ∨ 247 < b0 from by omega) with f | ⟨f, f'⟩ | ⟨f, f'⟩ | ⟨f, f'⟩ | ⟨f, f'⟩ | f
  · exact spot_1 (at_one s i w h hs b0 hb0 f) (dec_one g0 f) f
  · exact spot_b (at_lead1 s i w h hs b0 hb0 f f') (dec_lead g0 f (.inl f') hbb) (wlead h g0 (.inl ⟨f, f'⟩))
  · by_cases l1 : i + 1 < s.size
    · obtain ⟨b1, hb1, g1⟩ := at1 1 l1
      have hbb1 : b1 < 256 := by rw [← hb1]; exact s[i + 1].toNat_lt
      rcases (show b1 < 128 ∨ 191 < b1 ∨ (128 ≤ b1 ∧ b1 ≤ 191) from by omega) with k1 | k1 | ⟨p1, q1⟩
      · exact spot_b (at_low21 s i w h hs b0 b1 hb0 l1 hb1 f f' k1) (dec_two_no g0 f f' (by rw [g1]; omega)) ((whead h g0 (need2 f f') (by omega) rfl).trans (wtail l1 g1 (.inl k1)))
      · exact spot_b (at_top21 s i w h hs b0 b1 hb0 l1 hb1 f f' k1) (dec_two_no g0 f f' (by rw [g1]; omega)) ((whead h g0 (need2 f f') (by omega) rfl).trans (wtail l1 g1 (.inr k1)))
      · obtain ⟨X1, hX1⟩ : ∃ X1, X1 + 128 = (b0 % 32) * 64 + b1 := ⟨(b0 % 32) * 64 + b1 - 128, by omega⟩
        have hd := dec_two g0 g1 l1 f f' p1 q1 hX1
        by_cases hx : 128 ≤ X1
        · rw [if_pos hx] at hd
          exact spot_g (at_good2 s i w h hs b0 b1 hb0 l1 hb1 p1 q1 X1 hX1 f f' hx) hd
        · rw [if_neg hx] at hd
          exact spot_b (at_over2 s i w h hs b0 b1 hb0 l1 hb1 p1 q1 X1 hX1 f f' (by omega)) hd (((whead h g0 (need2 f f') (by omega) rfl).trans (wstep l1 g1 p1 q1 hX1)).trans (late_a (l := 128) rfl (by omega)))
    · exact spot_b (at_cut21 s i w h hs b0 hb0 f f' (by omega)) (dec_two_no g0 f f' (fun hc => l1 hc.1)) ((whead h g0 (need2 f f') (by omega) rfl).trans (wcut (by omega)))
  · by_cases l1 : i + 1 < s.size
    · obtain ⟨b1, hb1, g1⟩ := at1 1 l1
      have hbb1 : b1 < 256 := by rw [← hb1]; exact s[i + 1].toNat_lt
      rcases (show b1 < 128 ∨ 191 < b1 ∨ (128 ≤ b1 ∧ b1 ≤ 191) from by omega) with k1 | k1 | ⟨p1, q1⟩
      · exact spot_b (at_low31 s i w h hs b0 b1 hb0 l1 hb1 f f' k1) (dec_three_no g0 f f' (by rw [g1]; omega)) ((whead h g0 (need3 f f') (by omega) rfl).trans (wtail l1 g1 (.inl k1)))
      · exact spot_b (at_top31 s i w h hs b0 b1 hb0 l1 hb1 f f' k1) (dec_three_no g0 f f' (by rw [g1]; omega)) ((whead h g0 (need3 f f') (by omega) rfl).trans (wtail l1 g1 (.inr k1)))
      · obtain ⟨X1, hX1⟩ : ∃ X1, X1 + 128 = (b0 % 16) * 64 + b1 := ⟨(b0 % 16) * 64 + b1 - 128, by omega⟩
        by_cases l2 : i + 2 < s.size
        · obtain ⟨b2, hb2, g2⟩ := at1 2 l2
          have hbb2 : b2 < 256 := by rw [← hb2]; exact s[i + 2].toNat_lt
          rcases (show b2 < 128 ∨ 191 < b2 ∨ (128 ≤ b2 ∧ b2 ≤ 191) from by omega) with k2 | k2 | ⟨p2, q2⟩
          · exact spot_b (at_low32 s i w h hs b0 b1 b2 hb0 l1 hb1 p1 q1 l2 hb2 X1 hX1 f f' k2) (dec_three_no g0 f f' (by rw [g2]; omega)) (((whead h g0 (need3 f f') (by omega) rfl).trans (wstep l1 g1 p1 q1 hX1)).trans (wtail l2 g2 (.inl k2)))
          · exact spot_b (at_top32 s i w h hs b0 b1 b2 hb0 l1 hb1 p1 q1 l2 hb2 X1 hX1 f f' k2) (dec_three_no g0 f f' (by rw [g2]; omega)) (((whead h g0 (need3 f f') (by omega) rfl).trans (wstep l1 g1 p1 q1 hX1)).trans (wtail l2 g2 (.inr k2)))
          · obtain ⟨X2, hX2⟩ : ∃ X2, X2 + 128 = X1 * 64 + b2 := ⟨X1 * 64 + b2 - 128, by omega⟩
            have hd := dec_three (x := X2) g0 g1 g2 l1 l2 f f' p1 q1 p2 q2 (by omega)
            by_cases hx : X2 < 2048
            · rw [if_neg (by omega)] at hd
              exact spot_b (at_over3 s i w h hs b0 b1 b2 hb0 l1 hb1 p1 q1 l2 hb2 p2 q2 X1 hX1 X2 hX2 f f' hx) hd ((((whead h g0 (need3 f f') (by omega) rfl).trans (wstep l1 g1 p1 q1 hX1)).trans (wstep l2 g2 p2 q2 hX2)).trans (late_a rfl hx))
            · rcases (show X2 < 55296 ∨ (55296 ≤ X2 ∧ X2 ≤ 57343) ∨ 57343 < X2 from by omega) with hy | ⟨hy, hy'⟩ | hy
              · rw [if_pos ⟨by omega, valid_yes (.inl hy)⟩] at hd
                exact spot_g (at_good3a s i w h hs b0 b1 b2 hb0 l1 hb1 p1 q1 l2 hb2 p2 q2 X1 hX1 X2 hX2 f f' (by omega) hy) hd
              · rw [if_neg (fun hc => valid_no (.inl ⟨hy, hy'⟩) hc.2)] at hd
                exact spot_b (at_half3 s i w h hs b0 b1 b2 hb0 l1 hb1 p1 q1 l2 hb2 p2 q2 X1 hX1 X2 hX2 f f' hy hy') hd ((((whead h g0 (need3 f f') (by omega) rfl).trans (wstep l1 g1 p1 q1 hX1)).trans (wstep l2 g2 p2 q2 hX2)).trans (late_b (l := 2048) rfl (by omega) hy (by omega)))
              · rw [if_pos ⟨by omega, valid_yes (.inr ⟨hy, by omega⟩)⟩] at hd
                exact spot_g (at_good3b s i w h hs b0 b1 b2 hb0 l1 hb1 p1 q1 l2 hb2 p2 q2 X1 hX1 X2 hX2 f f' hy) hd
        · exact spot_b (at_cut32 s i w h hs b0 b1 hb0 l1 hb1 p1 q1 X1 hX1 f f' (by omega)) (dec_three_no g0 f f' (fun hc => l2 hc.2.1)) (((whead h g0 (need3 f f') (by omega) rfl).trans (wstep l1 g1 p1 q1 hX1)).trans (wcut (by omega)))
    · exact spot_b (at_cut31 s i w h hs b0 hb0 f f' (by omega)) (dec_three_no g0 f f' (fun hc => l1 hc.1.1)) ((whead h g0 (need3 f f') (by omega) rfl).trans (wcut (by omega)))
  · by_cases l1 : i + 1 < s.size
    · obtain ⟨b1, hb1, g1⟩ := at1 1 l1
      have hbb1 : b1 < 256 := by rw [← hb1]; exact s[i + 1].toNat_lt
      rcases (show b1 < 128 ∨ 191 < b1 ∨ (128 ≤ b1 ∧ b1 ≤ 191) from by omega) with k1 | k1 | ⟨p1, q1⟩
      · exact spot_b (at_low41 s i w h hs b0 b1 hb0 l1 hb1 f f' k1) (dec_four_no g0 f f' (by rw [g1]; omega)) ((whead h g0 (need4 f f') (by omega) rfl).trans (wtail l1 g1 (.inl k1)))
      · exact spot_b (at_top41 s i w h hs b0 b1 hb0 l1 hb1 f f' k1) (dec_four_no g0 f f' (by rw [g1]; omega)) ((whead h g0 (need4 f f') (by omega) rfl).trans (wtail l1 g1 (.inr k1)))
      · obtain ⟨X1, hX1⟩ : ∃ X1, X1 + 128 = (b0 % 8) * 64 + b1 := ⟨(b0 % 8) * 64 + b1 - 128, by omega⟩
        by_cases l2 : i + 2 < s.size
        · obtain ⟨b2, hb2, g2⟩ := at1 2 l2
          have hbb2 : b2 < 256 := by rw [← hb2]; exact s[i + 2].toNat_lt
          rcases (show b2 < 128 ∨ 191 < b2 ∨ (128 ≤ b2 ∧ b2 ≤ 191) from by omega) with k2 | k2 | ⟨p2, q2⟩
          · exact spot_b (at_low42 s i w h hs b0 b1 b2 hb0 l1 hb1 p1 q1 l2 hb2 X1 hX1 f f' k2) (dec_four_no g0 f f' (by rw [g2]; omega)) (((whead h g0 (need4 f f') (by omega) rfl).trans (wstep l1 g1 p1 q1 hX1)).trans (wtail l2 g2 (.inl k2)))
          · exact spot_b (at_top42 s i w h hs b0 b1 b2 hb0 l1 hb1 p1 q1 l2 hb2 X1 hX1 f f' k2) (dec_four_no g0 f f' (by rw [g2]; omega)) (((whead h g0 (need4 f f') (by omega) rfl).trans (wstep l1 g1 p1 q1 hX1)).trans (wtail l2 g2 (.inr k2)))
          · obtain ⟨X2, hX2⟩ : ∃ X2, X2 + 128 = X1 * 64 + b2 := ⟨X1 * 64 + b2 - 128, by omega⟩
            by_cases l3 : i + 3 < s.size
            · obtain ⟨b3, hb3, g3⟩ := at1 3 l3
              have hbb3 : b3 < 256 := by rw [← hb3]; exact s[i + 3].toNat_lt
              rcases (show b3 < 128 ∨ 191 < b3 ∨ (128 ≤ b3 ∧ b3 ≤ 191) from by omega) with k3 | k3 | ⟨p3, q3⟩
              · exact spot_b (at_low43 s i w h hs b0 b1 b2 b3 hb0 l1 hb1 p1 q1 l2 hb2 p2 q2 l3 hb3 X1 hX1 X2 hX2 f f' k3) (dec_four_no g0 f f' (by rw [g3]; omega)) ((((whead h g0 (need4 f f') (by omega) rfl).trans (wstep l1 g1 p1 q1 hX1)).trans (wstep l2 g2 p2 q2 hX2)).trans (wtail l3 g3 (.inl k3)))
              · exact spot_b (at_top43 s i w h hs b0 b1 b2 b3 hb0 l1 hb1 p1 q1 l2 hb2 p2 q2 l3 hb3 X1 hX1 X2 hX2 f f' k3) (dec_four_no g0 f f' (by rw [g3]; omega)) ((((whead h g0 (need4 f f') (by omega) rfl).trans (wstep l1 g1 p1 q1 hX1)).trans (wstep l2 g2 p2 q2 hX2)).trans (wtail l3 g3 (.inr k3)))
              · obtain ⟨X3, hX3⟩ : ∃ X3, X3 + 128 = X2 * 64 + b3 := ⟨X2 * 64 + b3 - 128, by omega⟩
                have hd := dec_four (x := X3) g0 g1 g2 g3 l1 l2 l3 f f' p1 q1 p2 q2 p3 q3 (by omega)
                rcases (show X3 < 65536 ∨ (65536 ≤ X3 ∧ X3 ≤ 1114111) ∨ 1114111 < X3 from by omega) with hy | ⟨hy, hy'⟩ | hy
                · rw [if_neg (by omega)] at hd
                  exact spot_b (at_over4 s i w h hs b0 b1 b2 b3 hb0 l1 hb1 p1 q1 l2 hb2 p2 q2 l3 hb3 p3 q3 X1 hX1 X2 hX2 X3 hX3 f f' hy) hd (((((whead h g0 (need4 f f') (by omega) rfl).trans (wstep l1 g1 p1 q1 hX1)).trans (wstep l2 g2 p2 q2 hX2)).trans (wstep l3 g3 p3 q3 hX3)).trans (late_a rfl hy))
                · rw [if_pos ⟨hy, valid_yes (.inr ⟨by omega, hy'⟩)⟩] at hd
                  exact spot_g (at_good4 s i w h hs b0 b1 b2 b3 hb0 l1 hb1 p1 q1 l2 hb2 p2 q2 l3 hb3 p3 q3 X1 hX1 X2 hX2 X3 hX3 f f' hy hy') hd
                · rw [if_neg (fun hc => valid_no (.inr hy) hc.2)] at hd
                  exact spot_b (at_past4 s i w h hs b0 b1 b2 b3 hb0 l1 hb1 p1 q1 l2 hb2 p2 q2 l3 hb3 p3 q3 X1 hX1 X2 hX2 X3 hX3 f f' hy) hd (((((whead h g0 (need4 f f') (by omega) rfl).trans (wstep l1 g1 p1 q1 hX1)).trans (wstep l2 g2 p2 q2 hX2)).trans (wstep l3 g3 p3 q3 hX3)).trans (late_c (l := 65536) rfl (by omega) (by omega)))
            · exact spot_b (at_cut43 s i w h hs b0 b1 b2 hb0 l1 hb1 p1 q1 l2 hb2 p2 q2 X1 hX1 X2 hX2 f f' (by omega)) (dec_four_no g0 f f' (fun hc => l3 hc.2.1)) ((((whead h g0 (need4 f f') (by omega) rfl).trans (wstep l1 g1 p1 q1 hX1)).trans (wstep l2 g2 p2 q2 hX2)).trans (wcut (by omega)))
        · exact spot_b (at_cut42 s i w h hs b0 b1 hb0 l1 hb1 p1 q1 X1 hX1 f f' (by omega)) (dec_four_no g0 f f' (fun hc => l2 hc.1.2.1)) (((whead h g0 (need4 f f') (by omega) rfl).trans (wstep l1 g1 p1 q1 hX1)).trans (wcut (by omega)))
    · exact spot_b (at_cut41 s i w h hs b0 hb0 f f' (by omega)) (dec_four_no g0 f f' (fun hc => l1 hc.1.1.1)) ((whead h g0 (need4 f f') (by omega) rfl).trans (wcut (by omega)))
  · exact spot_b (at_lead2 s i w h hs b0 hb0 f hbb) (dec_lead g0 (by omega) (.inr f) hbb) (wlead h g0 (.inr f))

end Go.Proofs.YthkehgmeaedflaaDoor
