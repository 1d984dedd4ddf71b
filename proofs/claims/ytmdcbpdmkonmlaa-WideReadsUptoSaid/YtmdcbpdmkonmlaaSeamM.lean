/-
  Two texts one behind the other; units one behind the other. Plain laws.
-/
import Derived.Test.YtmdcbpdmkonmlaaAtD
import Derived.Test.YtmdcbpdmkonmlaaGo
namespace Go.Proofs.Ytmdcbpdmkonmlaa
open Go.RowKit

/-- A tail at a place. -/
def tailOk (s : ByteArray) (i k : Nat) : Prop := i + k < s.size ∧ (s.get! (i + k)).toNat / 64 = 2

theorem tail_range {s : ByteArray} {i k : Nat} (h : tailOk s i k) : 128 ≤ (s.get! (i + k)).toNat ∧ (s.get! (i + k)).toNat ≤ 191 := by
  have := h.2
  omega

/-- What one text reads another reads, too, as far as the bytes are the same. -/
theorem decode_local (s t : ByteArray) (i : Nat) (same : ∀ k, i + k < s.size → s.get! (i + k) = t.get! (i + k)) (hsz : s.size ≤ t.size) (hi : i < s.size) (hfit : i + (Utf8.decode t i).2 ≤ s.size) : Utf8.decode s i = Utf8.decode t i := by
  have e0 : s.get! i = t.get! i := same 0 hi
  obtain ⟨b0, hb0⟩ : ∃ b0, (t.get! i).toNat = b0 := ⟨_, rfl⟩
  have g0 : (s.get! i).toNat = b0 := by rw [e0, hb0]
  have hbb : b0 < 256 := by rw [← hb0]; exact (t.get! i).toNat_lt
  have up : ∀ k, tailOk s i k → tailOk t i k := fun k h => ⟨by have := h.1; omega, by rw [← same k h.1]; exact h.2⟩
  have down : ∀ k, i + k < s.size → tailOk t i k → tailOk s i k := fun k hk h => ⟨hk, by rw [same k hk]; exact h.2⟩
  rcases (show b0 < 128 ∨ (128 ≤ b0 ∧ b0 < 192) ∨ (192 ≤ b0 ∧ b0 < 224) ∨ (224 ≤ b0 ∧ b0 < 240) ∨ (240 ≤ b0 ∧ b0 ≤ 247) ∨ 247 < b0 from by omega) with f | ⟨f, f'⟩ | ⟨f, f'⟩ | ⟨f, f'⟩ | ⟨f, f'⟩ | f
  · rw [dec_one g0 f, dec_one hb0 f]
  · rw [dec_lead g0 f (.inl f') hbb, dec_lead hb0 f (.inl f') hbb]
  · by_cases c1 : tailOk s i 1
    · have t1 := up 1 c1
      obtain ⟨p1, q1⟩ := tail_range t1
      have e1 := same 1 c1.1
      obtain ⟨x, hx⟩ : ∃ x, x + 128 = (b0 % 32) * 64 + (t.get! (i + 1)).toNat := ⟨(b0 % 32) * 64 + (t.get! (i + 1)).toNat - 128, by omega⟩
      rw [dec_two g0 (by rw [e1]) c1.1 f f' p1 q1 hx, dec_two hb0 rfl t1.1 f f' p1 q1 hx]
    · rw [dec_two_no g0 f f' c1]
      by_cases t1 : tailOk t i 1
      · obtain ⟨p1, q1⟩ := tail_range t1
        obtain ⟨x, hx⟩ : ∃ x, x + 128 = (b0 % 32) * 64 + (t.get! (i + 1)).toNat := ⟨(b0 % 32) * 64 + (t.get! (i + 1)).toNat - 128, by omega⟩
        have hd := dec_two hb0 rfl t1.1 f f' p1 q1 hx
        by_cases hc : 128 ≤ x
        · rw [if_pos hc] at hd
          rw [hd] at hfit
          exact (c1 (down 1 (by simp at hfit; omega) t1)).elim
        · rw [hd, if_neg hc]
      · rw [dec_two_no hb0 f f' t1]
  · by_cases c : tailOk s i 1 ∧ tailOk s i 2
    · obtain ⟨c1, c2⟩ := c
      have t1 := up 1 c1
      have t2 := up 2 c2
      obtain ⟨p1, q1⟩ := tail_range t1
      obtain ⟨p2, q2⟩ := tail_range t2
      rw [dec_three (x := (b0 % 16) * 4096 + ((t.get! (i + 1)).toNat - 128) * 64 + ((t.get! (i + 2)).toNat - 128)) g0 (by rw [same 1 c1.1]) (by rw [same 2 c2.1]) c1.1 c2.1 f f' p1 q1 p2 q2 rfl, dec_three hb0 rfl rfl t1.1 t2.1 f f' p1 q1 p2 q2 rfl]
    · rw [dec_three_no g0 f f' c]
      by_cases d : tailOk t i 1 ∧ tailOk t i 2
      · obtain ⟨t1, t2⟩ := d
        obtain ⟨p1, q1⟩ := tail_range t1
        obtain ⟨p2, q2⟩ := tail_range t2
        have hd := dec_three hb0 rfl rfl t1.1 t2.1 f f' p1 q1 p2 q2 rfl
        rw [hd] at hfit ⊢
        split at hfit
        · exact (c ⟨down 1 (by simp at hfit; omega) t1, down 2 (by simp at hfit; omega) t2⟩).elim
        · rename_i hc
          rw [if_neg hc]
      · rw [dec_three_no hb0 f f' d]
  · by_cases c : (tailOk s i 1 ∧ tailOk s i 2) ∧ tailOk s i 3
    · obtain ⟨⟨c1, c2⟩, c3⟩ := c
      have t1 := up 1 c1
      have t2 := up 2 c2
      have t3 := up 3 c3
      obtain ⟨p1, q1⟩ := tail_range t1
      obtain ⟨p2, q2⟩ := tail_range t2
      obtain ⟨p3, q3⟩ := tail_range t3
      rw [dec_four (x := (b0 % 8) * 262144 + ((t.get! (i + 1)).toNat - 128) * 4096 + ((t.get! (i + 2)).toNat - 128) * 64 + ((t.get! (i + 3)).toNat - 128)) g0 (by rw [same 1 c1.1]) (by rw [same 2 c2.1]) (by rw [same 3 c3.1]) c1.1 c2.1 c3.1 f f' p1 q1 p2 q2 p3 q3 rfl, dec_four hb0 rfl rfl rfl t1.1 t2.1 t3.1 f f' p1 q1 p2 q2 p3 q3 rfl]
    · rw [dec_four_no g0 f f' c]
      by_cases d : (tailOk t i 1 ∧ tailOk t i 2) ∧ tailOk t i 3
      · obtain ⟨⟨t1, t2⟩, t3⟩ := d
        obtain ⟨p1, q1⟩ := tail_range t1
        obtain ⟨p2, q2⟩ := tail_range t2
        obtain ⟨p3, q3⟩ := tail_range t3
        have hd := dec_four hb0 rfl rfl rfl t1.1 t2.1 t3.1 f f' p1 q1 p2 q2 p3 q3 rfl
        rw [hd] at hfit ⊢
        split at hfit
        · exact (c ⟨⟨down 1 (by simp at hfit; omega) t1, down 2 (by simp at hfit; omega) t2⟩, down 3 (by simp at hfit; omega) t3⟩).elim
        · rename_i hc
          rw [if_neg hc]
      · rw [dec_four_no hb0 f f' d]
  · rw [dec_lead g0 (by omega) (.inr f) hbb, dec_lead hb0 (by omega) (.inr f) hbb]

theorem get_append_left (a b : ByteArray) (i : Nat) (h : i < a.size) : (a ++ b).get! i = a.get! i := by
  have h1 := get_at2 (a ++ b) i (by rw [ByteArray.size_append]; omega)
  have h2 := get_at2 a i h
  apply UInt8.toNat_inj.1
  rw [h1, h2, ByteArray.getElem_append_left h]
theorem get_append_right (a b : ByteArray) (i : Nat) (h : i < b.size) : (a ++ b).get! (a.size + i) = b.get! i := by
  have h1 := get_at2 (a ++ b) (a.size + i) (by rw [ByteArray.size_append]; omega)
  have h2 := get_at2 b i h
  apply UInt8.toNat_inj.1
  rw [h1, h2, ByteArray.getElem_append_right (by omega)]
  simp

/-- Behind a text another is read as by itself. -/
theorem decode_behind (a b : ByteArray) (j : Nat) (h : j < b.size) : Utf8.decode (a ++ b) (a.size + j) = Utf8.decode b j := by
  have hs := ByteArray.size_append (a := a) (b := b)
  have c : ∀ k, (decide (a.size + j + k < (a ++ b).size) && ((a ++ b).get! (a.size + j + k)).toNat / 64 == 2) = (decide (j + k < b.size) && (b.get! (j + k)).toNat / 64 == 2) := by
    intro k
    by_cases hk : j + k < b.size
    · rw [Nat.add_assoc, get_append_right a b (j + k) hk, decide_eq_true (by rw [hs]; omega), decide_eq_true hk]
    · rw [decide_eq_false hk, decide_eq_false (by rw [hs]; omega)]
      rfl
  have g : ∀ k, j + k < b.size → ((a ++ b).get! (a.size + j + k)).toNat = (b.get! (j + k)).toNat := fun k hk => by rw [Nat.add_assoc, get_append_right a b (j + k) hk]
  have g0 := g 0 h
  simp only [Utf8.decode, c, g0]
  by_cases h1 : j + 1 < b.size
  · rw [g 1 h1]
    by_cases h2 : j + 2 < b.size
    · rw [g 2 h2]
      by_cases h3 : j + 3 < b.size
      · rw [g 3 h3]
      · simp only [h3, decide_false, Bool.false_and, Bool.and_false, Bool.false_eq_true, if_false]
    · have h3 : ¬ j + 3 < b.size := by omega
      simp only [h2, h3, decide_false, Bool.false_and, Bool.and_false, Bool.false_eq_true, if_false]
  · have h2 : ¬ j + 2 < b.size := by omega
    have h3 : ¬ j + 3 < b.size := by omega
    simp only [h1, h2, h3, decide_false, Bool.false_and, Bool.and_false, Bool.false_eq_true, if_false]

theorem spots_behind (a b : ByteArray) (m j : Nat) (hm : b.size ≤ j + m) : (spotsFrom (a ++ b) (a.size + j)).map Prod.snd = (spotsFrom b j).map Prod.snd := by
  have hs := ByteArray.size_append (a := a) (b := b)
  induction m generalizing j with
  | zero => rw [spotsFrom_end b j (by omega), spotsFrom_end (a ++ b) _ (by rw [hs]; omega)]
  | succ m ih =>
    by_cases h : j < b.size
    · have hw := decode_width b j
      rw [spotsFrom_more b j h, spotsFrom_more (a ++ b) _ (by rw [hs]; omega), decode_behind a b j h]
      simp only [List.map_cons]
      rw [Nat.add_assoc, ih _ (by omega)]
    · rw [spotsFrom_end b j h, spotsFrom_end (a ++ b) _ (by rw [hs]; omega)]

/-- Where the seam is a character's place, the characters stand one behind the other. -/
theorem spots_seam (a b : ByteArray) (m pos units : Nat) (hm : a.size ≤ pos + m) (hp : pos ≤ a.size) (h : ∃ u, unitAtL (spotsFrom (a ++ b) pos) (a ++ b).size a.size units = (u, 0)) :
    (spotsFrom (a ++ b) pos).map Prod.snd = (spotsFrom a pos).map Prod.snd ++ (spotsFrom b 0).map Prod.snd := by
  have hs := ByteArray.size_append (a := a) (b := b)
  induction m generalizing pos units with
  | zero =>
    obtain rfl : pos = a.size := by omega
    rw [spotsFrom_end a a.size (by omega)]
    exact spots_behind a b b.size 0 (by omega)
  | succ m ih =>
    by_cases hlt : pos < a.size
    · have hw := decode_width (a ++ b) pos
      have hmore := spotsFrom_more (a ++ b) pos (by rw [hs]; omega)
      rw [hmore] at h ⊢
      simp only [unitAtL] at h
      rw [if_neg (by omega), if_neg (by omega)] at h
      have hfit : pos + (Utf8.decode (a ++ b) pos).2 ≤ a.size := by
        by_cases hc : pos + (Utf8.decode (a ++ b) pos).2 ≤ a.size
        · exact hc
        · exfalso
          obtain ⟨u, hu⟩ := h
          by_cases hq : pos + (Utf8.decode (a ++ b) pos).2 < (a ++ b).size
          · rw [spotsFrom_more (a ++ b) _ hq] at hu
            simp only [unitAtL] at hu
            rw [if_neg (by omega), if_pos (by omega)] at hu
            simp at hu
          · have hf := decode_fits (a ++ b) pos (by rw [hs]; omega)
            rw [spotsFrom_end (a ++ b) _ hq] at hu
            simp only [unitAtL] at hu
            rw [if_pos (by omega)] at hu
            simp at hu
      have hloc := decode_local a (a ++ b) pos (fun k hk => (get_append_left a b (pos + k) hk).symm) (by rw [hs]; omega) hlt hfit
      rw [spotsFrom_more a pos hlt, hloc]
      simp only [List.map_cons, List.cons_append]
      rw [ih _ _ (by omega) hfit h]
    · obtain rfl : pos = a.size := by omega
      rw [spotsFrom_end a a.size (by omega)]
      exact spots_behind a b b.size 0 (by omega)

theorem runes_snd (s : ByteArray) : textRunes s = ((spotsFrom s 0).map Prod.snd).map (fun n : Nat => (n : Int)) := by
  unfold textRunes
  rw [List.map_map]
  rfl

theorem text_seam (a b : ByteArray) (h : (unitAtOf (a ++ b) a.size).2 = 0) : unitsAll (textRunes (a ++ b)) = unitsAll (textRunes a) ++ unitsAll (textRunes b) := by
  have hs := ByteArray.size_append (a := a) (b := b)
  unfold unitAtOf at h
  rw [if_neg (by omega), Int.toNat_natCast] at h
  rw [runes_snd, spots_seam a b a.size 0 0 (by omega) (Nat.zero_le _) ⟨_, Prod.ext rfl h⟩, List.map_append, ← runes_snd, ← runes_snd]
  simp [unitsAll]

theorem marks_shift (us : List Int) (k : Nat) : (marksFrom us k).map Prod.snd = (marksFrom us 0).map Prod.snd := by
  match us with
  | [] => rfl
  | [u] => rfl
  | u :: v :: r =>
    have h1 := marks_shift r (k + 2)
    have h2 := marks_shift r 2
    have h3 := marks_shift (v :: r) (k + 1)
    have h4 := marks_shift (v :: r) 1
    simp only [marksFrom]
    split
    · simp only [List.map_cons]; rw [h1, Nat.zero_add, h2]
    · simp only [List.map_cons]; rw [h3, Nat.zero_add, h4]

theorem runesOf_pair {u v : Int} {r : List Int} (h : (joinOf u v).2 = true) : runesOf (u :: v :: r) = (joinOf u v).1 :: runesOf r := by
  simp only [runesOf, marksFrom, h, if_true, List.map_cons]
  rw [marks_shift]
theorem runesOf_lone {u v : Int} {r : List Int} (h : (joinOf u v).2 = false) : runesOf (u :: v :: r) = loneR u :: runesOf (v :: r) := by
  simp only [runesOf, marksFrom, h, List.map_cons, Bool.false_eq_true, if_false]
  rw [marks_shift]
theorem runesOf_one (u : Int) : runesOf [u] = [loneR u] := rfl
theorem runesOf_nil : runesOf [] = [] := rfl

/-- No high unit at the end, or no low one at the beginning: what they stand for stands one behind the other. -/
theorem runes_seam (us vs : List Int) (h : ∀ x y, us.getLast? = some x → vs.head? = some y → (joinOf x y).2 = false) : runesOf (us ++ vs) = runesOf us ++ runesOf vs := by
  match us with
  | [] => rfl
  | [u] =>
    match vs with
    | [] => rfl
    | v :: r =>
      have := h u v rfl rfl
      rw [runesOf_one]
      show runesOf (u :: v :: r) = _
      rw [runesOf_lone this]
      rfl
  | u :: v :: r =>
    show runesOf (u :: v :: (r ++ vs)) = _
    cases hj : (joinOf u v).2
    · rw [runesOf_lone hj, runesOf_lone hj]
      have := runes_seam (v :: r) vs (fun x y hx hy => h x y (by simpa [List.getLast?_cons_cons] using hx) hy)
      rw [show runesOf (v :: (r ++ vs)) = runesOf ((v :: r) ++ vs) from rfl, this]
      rfl
    · rw [runesOf_pair hj, runesOf_pair hj]
      by_cases hr : r = []
      · subst hr
        rfl
      · have := runes_seam r vs (fun x y hx hy => h x y (by
          cases r with
          | nil => exact (hr rfl).elim
          | cons z r => simpa [List.getLast?_cons_cons] using hx) hy)
        rw [this]
        rfl

end Go.Proofs.Ytmdcbpdmkonmlaa
