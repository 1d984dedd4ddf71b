/-
  The reference's reading of one character is the language's own.
-/
import Derived.Test.YtmdcbpdmkonmlaaAtTwo
import Derived.Test.YtmdcbpdmkonmlaaAtThree
import Derived.Test.YtmdcbpdmkonmlaaAtFour
import Derived.Test.YtmdcbpdmkonmlaaAtD
namespace Go.Proofs.Ytmdcbpdmkonmlaa
open Go.RowKit

/-- What At hands back: the character's place, its width and its rune; some code. -/
def SpotR (s : ByteArray) (i : Nat) (w : World) : Ending → World → Prop := fun e w' => ∃ c, e = .returned (.agg (spotV i (Utf8.decode s i).2 (Utf8.decode s i).1 c)) ∧ Below w.heap.size w w'

theorem spot_of {s : ByteArray} {i : Nat} {w : World} {wd r c : Nat} (hc : Calls Try.prog 69 #[.string s, .int .i64 i] w fun e w' => e = .returned (.agg (spotV i wd r c)) ∧ Below w.heap.size w w') (hd : Utf8.decode s i = (r, wd)) : Calls Try.prog 69 #[.string s, .int .i64 i] w (SpotR s i w) :=
  hc.mono fun e w' ⟨h1, h2⟩ => ⟨c, by rw [h1, hd], h2⟩

theorem valid_no {x : Nat} (h : 55296 ≤ x ∧ x ≤ 57343 ∨ 1114111 < x) : ¬ Utf8.valid (x : Int) = true := by
  simp [Utf8.valid]
  omega
theorem valid_yes {x : Nat} (h : x < 55296 ∨ 57343 < x ∧ x ≤ 1114111) : Utf8.valid (x : Int) = true := by
  simp [Utf8.valid]
  omega

theorem at_any (s : ByteArray) (i : Nat) (w : World) (h : i < s.size) (hs : s.size ≤ 70368744177664) : Calls Try.prog 69 #[.string s, .int .i64 i] w (SpotR s i w) := by
  obtain ⟨b0, hb0⟩ : ∃ b0, s[i].toNat = b0 := ⟨_, rfl⟩
  have g0 : (s.get! i).toNat = b0 := by rw [get_at2 s i h, hb0]
  have hbb : b0 < 256 := by rw [← hb0]; exact s[i].toNat_lt
  have at1 : ∀ k (hk : i + k < s.size), ∃ b, s[i + k].toNat = b ∧ (s.get! (i + k)).toNat = b := fun k hk => ⟨_, rfl, get_at2 s (i + k) hk⟩
  rcases (show b0 < 128 ∨ (128 ≤ b0 ∧ b0 < 192) ∨ (192 ≤ b0 ∧ b0 < 224) ∨ (224 ≤ b0 ∧ b0 < 240) ∨ (240 ≤ b0 ∧ b0 ≤ 247) ∨ 247 < b0 from by omega) with f | ⟨f, f'⟩ | ⟨f, f'⟩ | ⟨f, f'⟩ | ⟨f, f'⟩ | f
  · exact spot_of (at_one s i w h hs b0 hb0 f) (dec_one g0 f)
  · exact spot_of (at_lead1 s i w h hs b0 hb0 f f') (dec_lead g0 f (.inl f') hbb)
  · by_cases l1 : i + 1 < s.size
    · obtain ⟨b1, hb1, g1⟩ := at1 1 l1
      have hbb1 : b1 < 256 := by rw [← hb1]; exact s[i + 1].toNat_lt
      rcases (show b1 < 128 ∨ 191 < b1 ∨ (128 ≤ b1 ∧ b1 ≤ 191) from by omega) with k1 | k1 | ⟨p1, q1⟩
      · exact spot_of (at_low21 s i w h hs b0 b1 hb0 l1 hb1 f f' k1) (dec_two_no g0 f f' (by rw [g1]; omega))
      · exact spot_of (at_top21 s i w h hs b0 b1 hb0 l1 hb1 f f' k1) (dec_two_no g0 f f' (by rw [g1]; omega))
      · obtain ⟨X1, hX1⟩ : ∃ X1, X1 + 128 = (b0 % 32) * 64 + b1 := ⟨(b0 % 32) * 64 + b1 - 128, by omega⟩
        have hd := dec_two g0 g1 l1 f f' p1 q1 hX1
        by_cases hx : 128 ≤ X1
        · rw [if_pos hx] at hd
          exact spot_of (at_good2 s i w h hs b0 b1 hb0 l1 hb1 p1 q1 X1 hX1 f f' hx) hd
        · rw [if_neg hx] at hd
          exact spot_of (at_over2 s i w h hs b0 b1 hb0 l1 hb1 p1 q1 X1 hX1 f f' (by omega)) hd
    · exact spot_of (at_cut21 s i w h hs b0 hb0 f f' (by omega)) (dec_two_no g0 f f' (fun hc => l1 hc.1))
  · by_cases l1 : i + 1 < s.size
    · obtain ⟨b1, hb1, g1⟩ := at1 1 l1
      have hbb1 : b1 < 256 := by rw [← hb1]; exact s[i + 1].toNat_lt
      rcases (show b1 < 128 ∨ 191 < b1 ∨ (128 ≤ b1 ∧ b1 ≤ 191) from by omega) with k1 | k1 | ⟨p1, q1⟩
      · exact spot_of (at_low31 s i w h hs b0 b1 hb0 l1 hb1 f f' k1) (dec_three_no g0 f f' (by rw [g1]; omega))
      · exact spot_of (at_top31 s i w h hs b0 b1 hb0 l1 hb1 f f' k1) (dec_three_no g0 f f' (by rw [g1]; omega))
      · obtain ⟨X1, hX1⟩ : ∃ X1, X1 + 128 = (b0 % 16) * 64 + b1 := ⟨(b0 % 16) * 64 + b1 - 128, by omega⟩
        by_cases l2 : i + 2 < s.size
        · obtain ⟨b2, hb2, g2⟩ := at1 2 l2
          have hbb2 : b2 < 256 := by rw [← hb2]; exact s[i + 2].toNat_lt
          rcases (show b2 < 128 ∨ 191 < b2 ∨ (128 ≤ b2 ∧ b2 ≤ 191) from by omega) with k2 | k2 | ⟨p2, q2⟩
          · exact spot_of (at_low32 s i w h hs b0 b1 b2 hb0 l1 hb1 p1 q1 l2 hb2 X1 hX1 f f' k2) (dec_three_no g0 f f' (by rw [g2]; omega))
          · exact spot_of (at_top32 s i w h hs b0 b1 b2 hb0 l1 hb1 p1 q1 l2 hb2 X1 hX1 f f' k2) (dec_three_no g0 f f' (by rw [g2]; omega))
          · obtain ⟨X2, hX2⟩ : ∃ X2, X2 + 128 = X1 * 64 + b2 := ⟨X1 * 64 + b2 - 128, by omega⟩
            have hd := dec_three (x := X2) g0 g1 g2 l1 l2 f f' p1 q1 p2 q2 (by omega)
            by_cases hx : X2 < 2048
            · rw [if_neg (by omega)] at hd
              exact spot_of (at_over3 s i w h hs b0 b1 b2 hb0 l1 hb1 p1 q1 l2 hb2 p2 q2 X1 hX1 X2 hX2 f f' hx) hd
            · rcases (show X2 < 55296 ∨ (55296 ≤ X2 ∧ X2 ≤ 57343) ∨ 57343 < X2 from by omega) with hy | ⟨hy, hy'⟩ | hy
              · rw [if_pos ⟨by omega, valid_yes (.inl hy)⟩] at hd
                exact spot_of (at_good3a s i w h hs b0 b1 b2 hb0 l1 hb1 p1 q1 l2 hb2 p2 q2 X1 hX1 X2 hX2 f f' (by omega) hy) hd
              · rw [if_neg (fun hc => valid_no (.inl ⟨hy, hy'⟩) hc.2)] at hd
                exact spot_of (at_half3 s i w h hs b0 b1 b2 hb0 l1 hb1 p1 q1 l2 hb2 p2 q2 X1 hX1 X2 hX2 f f' hy hy') hd
              · rw [if_pos ⟨by omega, valid_yes (.inr ⟨hy, by omega⟩)⟩] at hd
                exact spot_of (at_good3b s i w h hs b0 b1 b2 hb0 l1 hb1 p1 q1 l2 hb2 p2 q2 X1 hX1 X2 hX2 f f' hy) hd
        · exact spot_of (at_cut32 s i w h hs b0 b1 hb0 l1 hb1 p1 q1 X1 hX1 f f' (by omega)) (dec_three_no g0 f f' (fun hc => l2 hc.2.1))
    · exact spot_of (at_cut31 s i w h hs b0 hb0 f f' (by omega)) (dec_three_no g0 f f' (fun hc => l1 hc.1.1))
  · by_cases l1 : i + 1 < s.size
    · obtain ⟨b1, hb1, g1⟩ := at1 1 l1
      have hbb1 : b1 < 256 := by rw [← hb1]; exact s[i + 1].toNat_lt
      rcases (show b1 < 128 ∨ 191 < b1 ∨ (128 ≤ b1 ∧ b1 ≤ 191) from by omega) with k1 | k1 | ⟨p1, q1⟩
      · exact spot_of (at_low41 s i w h hs b0 b1 hb0 l1 hb1 f f' k1) (dec_four_no g0 f f' (by rw [g1]; omega))
      · exact spot_of (at_top41 s i w h hs b0 b1 hb0 l1 hb1 f f' k1) (dec_four_no g0 f f' (by rw [g1]; omega))
      · obtain ⟨X1, hX1⟩ : ∃ X1, X1 + 128 = (b0 % 8) * 64 + b1 := ⟨(b0 % 8) * 64 + b1 - 128, by omega⟩
        by_cases l2 : i + 2 < s.size
        · obtain ⟨b2, hb2, g2⟩ := at1 2 l2
          have hbb2 : b2 < 256 := by rw [← hb2]; exact s[i + 2].toNat_lt
          rcases (show b2 < 128 ∨ 191 < b2 ∨ (128 ≤ b2 ∧ b2 ≤ 191) from by omega) with k2 | k2 | ⟨p2, q2⟩
          · exact spot_of (at_low42 s i w h hs b0 b1 b2 hb0 l1 hb1 p1 q1 l2 hb2 X1 hX1 f f' k2) (dec_four_no g0 f f' (by rw [g2]; omega))
          · exact spot_of (at_top42 s i w h hs b0 b1 b2 hb0 l1 hb1 p1 q1 l2 hb2 X1 hX1 f f' k2) (dec_four_no g0 f f' (by rw [g2]; omega))
          · obtain ⟨X2, hX2⟩ : ∃ X2, X2 + 128 = X1 * 64 + b2 := ⟨X1 * 64 + b2 - 128, by omega⟩
            by_cases l3 : i + 3 < s.size
            · obtain ⟨b3, hb3, g3⟩ := at1 3 l3
              have hbb3 : b3 < 256 := by rw [← hb3]; exact s[i + 3].toNat_lt
              rcases (show b3 < 128 ∨ 191 < b3 ∨ (128 ≤ b3 ∧ b3 ≤ 191) from by omega) with k3 | k3 | ⟨p3, q3⟩
              · exact spot_of (at_low43 s i w h hs b0 b1 b2 b3 hb0 l1 hb1 p1 q1 l2 hb2 p2 q2 l3 hb3 X1 hX1 X2 hX2 f f' k3) (dec_four_no g0 f f' (by rw [g3]; omega))
              · exact spot_of (at_top43 s i w h hs b0 b1 b2 b3 hb0 l1 hb1 p1 q1 l2 hb2 p2 q2 l3 hb3 X1 hX1 X2 hX2 f f' k3) (dec_four_no g0 f f' (by rw [g3]; omega))
              · obtain ⟨X3, hX3⟩ : ∃ X3, X3 + 128 = X2 * 64 + b3 := ⟨X2 * 64 + b3 - 128, by omega⟩
                have hd := dec_four (x := X3) g0 g1 g2 g3 l1 l2 l3 f f' p1 q1 p2 q2 p3 q3 (by omega)
                rcases (show X3 < 65536 ∨ (65536 ≤ X3 ∧ X3 ≤ 1114111) ∨ 1114111 < X3 from by omega) with hy | ⟨hy, hy'⟩ | hy
                · rw [if_neg (by omega)] at hd
                  exact spot_of (at_over4 s i w h hs b0 b1 b2 b3 hb0 l1 hb1 p1 q1 l2 hb2 p2 q2 l3 hb3 p3 q3 X1 hX1 X2 hX2 X3 hX3 f f' hy) hd
                · rw [if_pos ⟨hy, valid_yes (.inr ⟨by omega, hy'⟩)⟩] at hd
                  exact spot_of (at_good4 s i w h hs b0 b1 b2 b3 hb0 l1 hb1 p1 q1 l2 hb2 p2 q2 l3 hb3 p3 q3 X1 hX1 X2 hX2 X3 hX3 f f' hy hy') hd
                · rw [if_neg (fun hc => valid_no (.inr hy) hc.2)] at hd
                  exact spot_of (at_past4 s i w h hs b0 b1 b2 b3 hb0 l1 hb1 p1 q1 l2 hb2 p2 q2 l3 hb3 p3 q3 X1 hX1 X2 hX2 X3 hX3 f f' hy) hd
            · exact spot_of (at_cut43 s i w h hs b0 b1 b2 hb0 l1 hb1 p1 q1 l2 hb2 p2 q2 X1 hX1 X2 hX2 f f' (by omega)) (dec_four_no g0 f f' (fun hc => l3 hc.2.1))
        · exact spot_of (at_cut42 s i w h hs b0 b1 hb0 l1 hb1 p1 q1 X1 hX1 f f' (by omega)) (dec_four_no g0 f f' (fun hc => l2 hc.1.2.1))
    · exact spot_of (at_cut41 s i w h hs b0 hb0 f f' (by omega)) (dec_four_no g0 f f' (fun hc => l1 hc.1.1.1))
  · exact spot_of (at_lead2 s i w h hs b0 hb0 f hbb) (dec_lead g0 (by omega) (.inr f) hbb)

end Go.Proofs.Ytmdcbpdmkonmlaa
