/-
  The character that begins at a byte: spot, walked.
-/
import Derived.Test.YthkehgmeaedflaaDoorWhy
import Derived.Lib.RuneCountTail
namespace Go.Proofs.YthkehgmeaedflaaDoor
open Go.RowKit

/-- What is wrong with the character at a byte. -/
def codeOf (s : ByteArray) (i : Nat) : Nat := if (Utf8.decode s i).1 = 65533 ∧ (Utf8.decode s i).2 = 1 then whyOf (s.extract i s.size) else 0
/-- A character of a text, as the program has it: its byte, its width, its rune, what is wrong with it. -/
def spotV (i : Nat) (wd : Nat) (r : Nat) (c : Nat) : Array Value := #[.int .i64 i, .int .i64 wd, .int .i32 r, .int .i64 c]

theorem tail_size (s : ByteArray) (i : Nat) : (s.extract i s.size).size = s.size - i := by simp [ByteArray.size_extract]
theorem tail_go (s : ByteArray) (i : Nat) (h : i < s.size) : Lib.decodeGo (s.extract i s.size) = Utf8.decode s i := by
  unfold Lib.decodeGo
  rw [if_neg (by rw [tail_size]; omega), Lib.tail_decode, Nat.add_zero]

theorem bcell {W w1 : World} (hb : Below W.heap.size W w1) : (∀ b o, b < W.heap.size → w1.cell? ⟨b, o, none⟩ = W.cell? ⟨b, o, none⟩) ∧ (∀ b o, b < W.heap.size → w1.frozen? ⟨b, o, none⟩ = W.frozen? ⟨b, o, none⟩) :=
  ⟨fun b o h => hb.cell (p := ⟨b, o, none⟩) h, fun b o h => hb.frozen (p := ⟨b, o, none⟩) h⟩

theorem tabs_below {w w' : World} (h : Lib.Utf8Tabs 0 1 w) (hb : Below w.heap.size w w') : Lib.Utf8Tabs 0 1 w' := Utf8Tabs_below h hb

theorem below4 {B g : Nat} {w W : World} (h : Below B w W) (a b c d : Value) (hg : B ≤ g := by exact Nat.le_refl _) : Below B w ((((W.setCell ⟨g, 0, none⟩ a).setCell ⟨g, 1, none⟩ b).setCell ⟨g, 2, none⟩ c).setCell ⟨g, 3, none⟩ d) :=
  (((h.setCell (p := ⟨g, 0, none⟩) hg _).setCell (p := ⟨g, 1, none⟩) hg _).setCell (p := ⟨g, 2, none⟩) hg _).setCell (p := ⟨g, 3, none⟩) hg _

set_option maxRecDepth 20000 in
set_option maxHeartbeats 2000000 in
theorem spot_ok (w : World) (s : ByteArray) (i : Nat) (h : i < s.size) (_hs : s.size ≤ 140737488355328) (hT : Lib.Utf8Tabs 0 1 w) (hc : ¬ ((Utf8.decode s i).1 = 65533 ∧ (Utf8.decode s i).2 = 1)) :
    Calls Tryd.prog 57 #[.string s, .int .i64 i] w fun e w' => e = .returned (.agg (spotV i (Utf8.decode s i).2 (Utf8.decode s i).1 0)) ∧ Below w.heap.size w w' := by
  have hi0 : (0 : Int) ≤ (i : Int) := by omega
  have hi1 : (i : Int) ≤ (s.size : Int) := by omega
  have D := fun W hT => Tryd.utf8_DecodeRuneInString (s.extract i s.size) W hT
  rw [tail_go s i h] at D
  have hw := decode_width s i
  have hr := decode_rune s i
  generalize Utf8.decode s i = q at *
  obtain ⟨r, n⟩ := q
  simp only at hw hr hc D
  have HD := Lib.hid D
  have HT := Lib.hid hT
  clear D hT
  by_cases c1 : r = 65533
  · subst c1
    have c2 : ((n : Int) == 1) = false := by simp at hc; simp; omega
    clear hc
    go_enter Tryd.func57, Tryd.ntmps57
    go_wp2_with (go_at_call 72; refine (HD.out _ ?_).mono ?_; exact tabs_below HT.out ((Below.refl _ _).alloc (Nat.le_refl _) _); rintro e w1 ⟨rfl, hb1⟩; obtain ⟨hcx, hfx⟩ := bcell hb1; have hzx : w.heap.size < w1.heap.size := (by have := hb1.size; simp at this; omega); have HB1 := Lib.hid (((Below.refl _ _).alloc (Nat.le_refl _) _).trans (hb1.mono (by simp))); clear hb1)
    refine bodyPost_ret (v := .agg (spotV i n 65533 0)) (by simp [results, Tryd.results57, go_sem, hcx, hzx, spotV]; done) rfl ⟨rfl, ?_⟩
    have B0 : Below w.heap.size w w1 := HB1.out
    have hz2 := B0.size
    exact (below4 B0 _ _ _ _).alloc (by simp; omega) _
  · have c2 : ((r : Int) == 65533) = false := by simp; omega
    clear hc c1
    go_enter Tryd.func57, Tryd.ntmps57
    go_wp2_with (go_at_call 72; refine (HD.out _ ?_).mono ?_; exact tabs_below HT.out ((Below.refl _ _).alloc (Nat.le_refl _) _); rintro e w1 ⟨rfl, hb1⟩; obtain ⟨hcx, hfx⟩ := bcell hb1; have hzx : w.heap.size < w1.heap.size := (by have := hb1.size; simp at this; omega); have HB1 := Lib.hid (((Below.refl _ _).alloc (Nat.le_refl _) _).trans (hb1.mono (by simp))); clear hb1)
    refine bodyPost_ret (v := .agg (spotV i n r 0)) (by simp [results, Tryd.results57, go_sem, hcx, hzx, spotV]; done) rfl ⟨rfl, ?_⟩
    have B0 : Below w.heap.size w w1 := HB1.out
    have hz2 := B0.size
    exact (below4 B0 _ _ _ _).alloc (by simp; omega) _

set_option maxRecDepth 20000 in
set_option maxHeartbeats 2000000 in
theorem spot_bad (w : World) (s : ByteArray) (i : Nat) (h : i < s.size) (hs : s.size ≤ 140737488355328) (hT : Lib.Utf8Tabs 0 1 w) (hc : (Utf8.decode s i).1 = 65533 ∧ (Utf8.decode s i).2 = 1) :
    Calls Tryd.prog 57 #[.string s, .int .i64 i] w fun e w' => e = .returned (.agg (spotV i 1 65533 (whyOf (s.extract i s.size)))) ∧ Below w.heap.size w w' := by
  have hi0 : (0 : Int) ≤ (i : Int) := by omega
  have hi1 : (i : Int) ≤ (s.size : Int) := by omega
  have D := fun W hT => Tryd.utf8_DecodeRuneInString (s.extract i s.size) W hT
  have Y := fun W => why_any (s.extract i s.size) W (by rw [tail_size]; omega) (by rw [tail_size]; omega)
  rw [tail_go s i h, hc.1, hc.2] at D
  generalize whyOf (s.extract i s.size) = y at *
  have HD := Lib.hid D
  have HY := Lib.hid Y
  have HT := Lib.hid hT
  clear D hT Y hc
  go_enter Tryd.func57, Tryd.ntmps57
  go_wp2_with (first
    | (go_at_call 72; refine (HD.out _ ?_).mono ?_; exact tabs_below HT.out ((Below.refl _ _).alloc (Nat.le_refl _) _); rintro e w1 ⟨rfl, hb1⟩; obtain ⟨hcx, hfx⟩ := bcell hb1; have hzx : w.heap.size < w1.heap.size := (by have := hb1.size; simp at this; omega); have HB1 := Lib.hid (((Below.refl _ _).alloc (Nat.le_refl _) _).trans (hb1.mono (by simp))); clear hb1)
    | (go_at_call 73; refine (HY.out _).mono ?_; rintro e w2 ⟨rfl, hb2⟩; obtain ⟨hcy, hfy⟩ := bcell hb2; have hzy : w1.heap.size < w2.heap.size := (by have := hb2.size; simp at this; omega); have HB2 := Lib.hid (((Below.refl _ _).alloc (Nat.le_refl _) _).trans (hb2.mono (by simp))); clear hb2))
  have hz3 : w.heap.size < w1.heap.size + 1 := by omega
  have hz4 : w.heap.size < w2.heap.size := by omega
  refine bodyPost_ret (v := .agg (spotV i 1 65533 y)) (by simp [results, Tryd.results57, go_sem, hcx, hzx, hcy, hz3, spotV]; done) rfl ⟨rfl, ?_⟩
  have B0 : Below w.heap.size w w1 := HB1.out
  have hz2 := B0.size
  have B1 : Below w1.heap.size w1 w2 := HB2.out
  exact below4 ((B0.trans (B1.mono (Nat.le_of_lt hzx))).setCell (p := ⟨w1.heap.size, 3, none⟩) (Nat.le_of_lt hzx) _) _ _ _ _

theorem spot_any (w : World) (s : ByteArray) (i : Nat) (h : i < s.size) (hs : s.size ≤ 140737488355328) (hT : Lib.Utf8Tabs 0 1 w) :
    Calls Tryd.prog 57 #[.string s, .int .i64 i] w fun e w' => e = .returned (.agg (spotV i (Utf8.decode s i).2 (Utf8.decode s i).1 (codeOf s i))) ∧ Below w.heap.size w w' := by
  unfold codeOf
  by_cases hc : (Utf8.decode s i).1 = 65533 ∧ (Utf8.decode s i).2 = 1
  · rw [if_pos hc, hc.1, hc.2]
    exact spot_bad w s i h hs hT hc
  · rw [if_neg hc]
    exact spot_ok w s i h hs hT hc

end Go.Proofs.YthkehgmeaedflaaDoor
