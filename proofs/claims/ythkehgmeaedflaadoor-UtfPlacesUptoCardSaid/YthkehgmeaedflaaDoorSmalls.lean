/-
  Scalar, Width, Mend: walked.
-/
import Derived.Test.YthkehgmeaedflaaDoorUBackM
namespace Go.Proofs.YthkehgmeaedflaaDoor
open Go.RowKit

theorem valid_scalar (r : Int) : Lib.validRune r = scalarB r := by
  unfold Lib.validRune scalarB
  rw [Bool.eq_iff_iff]
  simp
  omega

set_option maxHeartbeats 400000 in
theorem scalar_any (r : Int) (w : World) : Calls Tryd.prog 18 #[.int .i32 r] w fun e w' => e = .returned (.bool (scalarB r)) ∧ w = w' := by
  have H := Tryd.utf8_ValidRune r w
  rw [valid_scalar] at H
  have HH := Lib.hid H
  clear H
  go_enter Tryd.func18, Tryd.ntmps18
  go_wp2_with (go_at_call 52; refine HH.out.mono ?_; rintro e w' ⟨rfl, rfl⟩)
  go_ret
  exact ⟨rfl, rfl⟩

/-- How many bytes a character's right sequence has. -/
def widthOf (r : Int) : Nat := if scalarB r then (if r < 128 then 1 else if r < 2048 then 2 else if r < 65536 then 3 else 4) else 0

set_option maxHeartbeats 400000 in
theorem width_any (r : Int) (w : World) : Calls Tryd.prog 33 #[.int .i32 r] w fun e w' => e = .returned (.int .i64 (widthOf r)) ∧ w = w' := by
  have H := Tryd.utf8_RuneLen r w
  have hb : -1 ≤ Lib.runeLen r ∧ Lib.runeLen r ≤ 4 := by
    unfold Lib.runeLen
    repeat' split
    all_goals omega
  have hr : max 0 (Lib.runeLen r) = (widthOf r : Int) := by
    unfold Lib.runeLen widthOf scalarB
    by_cases h : 0 ≤ r ∧ r ≤ 1114111 ∧ (r < 55296 ∨ 57343 < r)
    · simp only [decide_eq_true h, if_true]
      repeat' split
      all_goals first | omega | rfl
    · simp only [decide_eq_false h, Bool.false_eq_true, if_false]
      repeat' split
      all_goals omega
  have HR := Lib.hid hr
  obtain ⟨h0, h1⟩ := hb
  have HH := Lib.hid H
  clear H hr
  go_enter Tryd.func33, Tryd.ntmps33
  go_wp2_with (go_at_call 60; refine HH.out.mono ?_; rintro e w' ⟨rfl, rfl⟩)
  go_ret
  exact ⟨ret_int HR.out, rfl⟩

set_option maxHeartbeats 400000 in
theorem mend_any (w : World) (s : ByteArray) (hs : s.size ≤ 70368744177664) :
    Calls Tryd.prog 20 #[.string s] w fun e w' => e = .returned (.string (mendS s)) ∧ Below w.heap.size w w' := by
  go_enter Tryd.func20, Tryd.ntmps20
  go_wp2_with (with_reducible refine wpList_runes rfl _ 9 26 21 rfl Tryd.underlying9 Tryd.underlying26 Tryd.underlying21 s rfl (by omega) ?_; intro g1 c1 w1 hown1 hb1; have hcv := run_text (P := Tryd.prog) (w := w1) 26 9 21 Tryd.underlying26 Tryd.underlying21 Tryd.underlying9 (some ⟨g1, 0, none⟩) (textRunes s).length c1 (textRunes s) rfl hown1.toCells; have HB1 := Lib.hid hb1; clear hown1 hb1)
  go_ret
  exact ⟨rfl, HB1.out⟩

theorem enc_le (r : Int) : (Utf8.encode r).size ≤ 4 := by
  unfold Utf8.encode
  dsimp only
  generalize (if Utf8.valid r = true then r.toNat else Utf8.runeError) = c
  split
  · show 1 ≤ 4; omega
  · split
    · show 2 ≤ 4; omega
    · split
      · show 3 ≤ 4; omega
      · show 4 ≤ 4; omega
theorem bytes_le (l : List Int) : (runesBytes l).size ≤ 4 * l.length := by
  induction l with
  | nil => show 0 ≤ 0; omega
  | cons r l ih =>
    rw [runesBytes_cons, ByteArray.size_append, List.length_cons]
    have := enc_le r
    omega
theorem mend_le (s : ByteArray) : (mendS s).size ≤ 4 * s.size := by
  have h1 := bytes_le (textRunes s)
  have h2 := textRunes_le s
  unfold mendS
  omega

end Go.Proofs.YthkehgmeaedflaaDoor
