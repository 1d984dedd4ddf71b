/-
  What each statement asks first: lives, walked.
-/
import Derived.Test.YthkehgmeaedflaaDoorBase
namespace Go.Proofs.YthkehgmeaedflaaDoor
open Go.RowKit

theorem lv_runes : textRunes ⟨#[97, 195, 169, 226, 130]⟩ = [97, 233, 65533, 65533] := by decide +kernel
theorem lv_check : checkOf ⟨#[97, 195, 169, 226, 130]⟩ = (3, 11) := by decide +kernel
theorem lv_last : lastOf ⟨#[97, 195, 169, 226, 130]⟩ = 4 := by decide +kernel
theorem lv_code : codeOf ⟨#[97, 195, 169, 226, 130]⟩ 4 = 10 := by decide +kernel
theorem lv_dec : Utf8.decode ⟨#[97, 195, 169, 226, 130]⟩ 4 = (65533, 1) := by decide +kernel
theorem lv_spot : spotE ⟨#[97, 195, 169, 226, 130]⟩ 4 = .agg #[.int .i64 4, .int .i64 1, .int .i32 65533, .int .i64 10] := by
  unfold spotE spotV
  rw [lv_code, lv_dec]
  rfl
theorem lv_byte : byteOf ⟨#[97, 195, 169, 226, 130]⟩ 2 = (3, 0) := by decide +kernel
theorem lv_count : (placesFrom ⟨#[97, 195, 169, 226, 130]⟩ 0).length = 4 := by decide +kernel
theorem lv_enc : runesBytes [128512] = ⟨#[240, 159, 152, 128]⟩ := by decide +kernel
theorem lv_size : (⟨#[97, 195, 169, 226, 130]⟩ : ByteArray).size = 5 := rfl

set_option maxRecDepth 20000 in
set_option maxHeartbeats 4000000 in
theorem lives_any (w : World) (hT : Lib.Utf8Tabs 0 1 w) : Calls Tryd.prog 16 #[] w fun e w' => e = .returned (.bool true) ∧ Below w.heap.size w w' := by
  have HT := Lib.hid hT
  clear hT
  go_enter Tryd.func16, Tryd.ntmps16
  go_wp2_with fail
  have h1 := runes_any w ⟨#[97, 195, 169, 226, 130]⟩ (by decide)
  rw [lv_runes] at h1
  refine h1.mono ?_
  clear h1
  rintro e w1 ⟨a1, c1, rfl, hown1, hb1⟩
  have HO1 := Lib.hid hown1
  have HB1 := Lib.hid hb1
  clear hown1 hb1
  go_wp2_with fail
  have h2 := check_any w1 ⟨#[97, 195, 169, 226, 130]⟩ (by decide) (tabs_below HT.out HB1.out)
  rw [lv_check] at h2
  refine h2.mono ?_
  clear h2
  rintro e w2 ⟨rfl, hb2⟩
  have HB2 := Lib.hid hb2
  have HT2 := Lib.hid (tabs_below (tabs_below HT.out HB1.out) hb2)
  clear hb2
  go_wp2_with fail
  have h3 := last_any w2 ⟨#[97, 195, 169, 226, 130]⟩ (by decide) (by decide) HT2.out
  rw [lv_last, lv_spot] at h3
  refine h3.mono ?_
  clear h3
  rintro e w3 ⟨rfl, hb3⟩
  have HB3 := Lib.hid hb3
  clear hb3
  go_wp2_with fail
  refine (new_any _ ⟨#[97, 195, 169, 226, 130]⟩ (by decide)).mono ?_
  rintro e w4 ⟨B, rfl, hB4, hpl, hb4⟩
  obtain ⟨hcx, hfx⟩ := bcell hb4
  have hzx : w3.heap.size < w4.heap.size := (by have := hb4.size; simp at this; omega)
  have HB4 := Lib.hid hb4
  have HPL := Lib.hid hpl
  clear hb4 hpl
  have hO4 := ((HO1.out.below HB2.out).below HB3.out).below (((Below.refl _ _).alloc (Nat.le_refl _) _).trans (HB4.out.mono (by simp)))
  obtain ⟨g, hg, hg1, hg2, hg3, hg4⟩ := hO4.addr (by have := hO4.le; simp at this; omega)
  subst hg
  have q0 : w4.cell? ⟨g, 0, none⟩ = some (.int .i32 97) := hg3 0 _ rfl
  have q1 : w4.cell? ⟨g, 1, none⟩ = some (.int .i32 233) := hg3 1 _ rfl
  have q2 : w4.cell? ⟨g, 2, none⟩ = some (.int .i32 65533) := hg3 2 _ rfl
  have q3 : w4.cell? ⟨g, 3, none⟩ = some (.int .i32 65533) := hg3 3 _ rfl
  clear hO4 hg1 hg2 hg3 hg4 hB4
  go_wp2_with fail
  have h5 := byte_any w4 B ⟨#[97, 195, 169, 226, 130]⟩ HPL.out 2
  rw [lv_byte] at h5
  refine h5.mono ?_
  clear h5
  rintro e w5 ⟨rfl, rfl⟩
  go_wp2_with fail
  have h6 := encode_any (w4.alloc (.cells #[.int .i32 128512] 21)) (some ⟨w4.heap.size, 0, none⟩) 1 [128512] (Cells.new w4 [.int .i32 128512] 21)
  rw [lv_enc] at h6
  refine h6.mono ?_
  clear h6
  rintro e w6 ⟨rfl, rfl⟩
  go_wp2_with fail
  have h7 := fun W => count_any W ⟨#[97, 195, 169, 226, 130]⟩ (by decide)
  rw [lv_count] at h7
  refine (h7 _).mono ?_
  clear h7
  rintro e w7 ⟨rfl, hb7⟩
  go_wp2
  go_ret
  exact ⟨rfl, after (after (after (after (after HB1.out HB2.out) HB3.out) (((Below.refl _ _).alloc (Nat.le_refl _) _).trans (HB4.out.mono (by simp)))) ((Below.refl _ _).alloc (Nat.le_refl _) _)) hb7⟩

end Go.Proofs.YthkehgmeaedflaaDoor
