/-
  The small functions of the layer; a text's last character; places by characters: walked.
-/
import Derived.Test.YthkehgmeaedflaaDoorNew
namespace Go.Proofs.YthkehgmeaedflaaDoor
open Go.RowKit

set_option maxHeartbeats 400000 in
theorem encode_any (w : World) (a : Option Addr) (c : Nat) (rs : List Int) (hr : Cells w a (rs.map (Value.int .i32))) :
    Calls Tryd.prog 19 #[.slice a rs.length c] w fun e w' => e = .returned (.string (runesBytes rs)) ∧ w = w' := by
  have hcv := run_text (P := Tryd.prog) (w := w) 26 9 21 Tryd.underlying26 Tryd.underlying21 Tryd.underlying9 a rs.length c rs rfl hr
  clear hr
  go_enter Tryd.func19, Tryd.ntmps19
  go_wp2
  go_ret
  exact ⟨rfl, rfl⟩

set_option maxHeartbeats 400000 in
theorem runes_any (w : World) (s : ByteArray) (hs : s.size ≤ 70368744177664) :
    Calls Tryd.prog 17 #[.string s] w fun e w' => ∃ a c, e = .returned (.slice a (textRunes s).length c) ∧ Own w' w.heap.size 1 a (textRunes s).length c ((textRunes s).map (Value.int .i32)) ∧ Below w.heap.size w w' := by
  go_enter Tryd.func17, Tryd.ntmps17
  go_wp2_with (with_reducible refine wpList_runes rfl _ 9 26 21 rfl Tryd.underlying9 Tryd.underlying26 Tryd.underlying21 s rfl (by omega) ?_; intro g1 c1 w1 hown1 hb1; have HO1 := Lib.hid hown1; have HB1 := Lib.hid hb1; clear hown1 hb1)
  go_ret
  exact ⟨_, _, rfl, HO1.out, HB1.out⟩

theorem count_eq (s : ByteArray) : Lib.runeCount s = (placesFrom s 0).length := by
  have h : ∀ f i, Lib.runeCountFrom s f i = (spotsN s f i).length := by
    intro f
    induction f with
    | zero => intro i; rfl
    | succ f ih =>
      intro i
      simp only [Lib.runeCountFrom, spotsN]
      split
      · rw [ih]; simp; omega
      · rfl
  unfold Lib.runeCount placesFrom spotsFrom
  rw [h, List.length_map]

set_option maxHeartbeats 400000 in
theorem count_any (w : World) (s : ByteArray) (hs : s.size ≤ 140737488355328) :
    Calls Tryd.prog 21 #[.string s] w fun e w' => e = .returned (.int .i64 ((placesFrom s 0).length : Nat)) ∧ Below w.heap.size w w' := by
  have C := fun W => Tryd.utf8_RuneCountInString s W (by omega)
  rw [count_eq] at C
  have HC := Lib.hid C
  clear C
  go_enter Tryd.func21, Tryd.ntmps21
  go_wp2_with (go_at_call 53; refine (HC.out _).mono ?_; rintro e w1 ⟨rfl, pos, rfl⟩)
  go_ret
  exact ⟨rfl, (Below.refl _ _).alloc (Nat.le_refl _) _⟩

theorem eq_nil84 (w : World) (a : Option Addr) (n c : Nat) : (binOp .eql 84 (.slice a n c) (.slice none 0 0)).run Tryd.prog w = .ok (.bool a.isNone) w := Lib.run_eql_slice_nil w 84 3 a n c 0 0 Tryd.underlying84
attribute [local go_sem] eq_nil84

theorem PlacesAt.cells {W : World} {B : Nat} {s : ByteArray} (h : PlacesAt W B s) : ∃ g n c r m d, W.cell? ⟨B, 0, none⟩ = some (.string s) ∧ W.cell? ⟨B, 1, none⟩ = some (.slice (some ⟨g, 0, none⟩) n c) ∧ W.cell? ⟨B, 2, none⟩ = some (.slice r m d) ∧ n = (placesFrom s 0).length + 1 ∧ n ≤ c ∧ Cells W (some ⟨g, 0, none⟩) ((placesFrom s 0 ++ [s.size]).map posV) ∧ m = (placesFrom s 0).length ∧ Cells W r ((textRunes s).map (Value.int .i32)) := by
  obtain ⟨g, n, c, r, m, d, h1, h2, h3, h4, h5, h6⟩ := h
  exact ⟨g, n, c, r, m, d, by simp [World.cell?, h1], by simp [World.cell?, h1], by simp [World.cell?, h1], h2, h3, h4, by rw [h5, places_runes], h6⟩

set_option maxHeartbeats 1000000 in
theorem none_any (w : World) (B : Nat) (s : ByteArray) (hp : PlacesAt w B s) :
    Calls Tryd.prog 67 #[.pointer (some ⟨B, 0, none⟩)] w fun e w' => e = .returned (.bool false) ∧ w = w' := by
  obtain ⟨g, n, c, r, m, d, h0, h1, h2, hn, hc, hcs, hm, hrs⟩ := hp.cells
  clear hp hn hm hcs hrs
  go_enter Tryd.func67, Tryd.ntmps67
  go_wp2
  go_ret
  exact ⟨rfl, rfl⟩

/-- The byte at which a character begins. -/
def byteOf (s : ByteArray) (p : Int) : Int × Int := if p < 0 ∨ ((placesFrom s 0).length : Int) < p then (0, 2) else (((placesFrom s 0 ++ [s.size])[p.toNat]?.getD 0 : Nat), 0)

theorem ret_pairn {k k' : IntKind} {a c : Int} {b d : Int} (h1 : a = c) (h2 : b = d) : Ending.returned (.tuple #[.int k a, .int k' b]) = .returned (.tuple #[.int k c, .int k' d]) := by rw [h1, h2]

set_option maxHeartbeats 1000000 in
theorem byte_any (w : World) (B : Nat) (s : ByteArray) (hp : PlacesAt w B s) (p : Int) :
    Calls Tryd.prog 44 #[.pointer (some ⟨B, 0, none⟩), .int .i64 p] w fun e w' => e = .returned (.tuple #[.int .i64 (byteOf s p).1, .int .i64 (byteOf s p).2]) ∧ w = w' := by
  have HN := Lib.hid (none_any w B s hp)
  obtain ⟨g, n, c, r, m, d, h0, h1, h2, hn, hc, hcs, hm, hrs⟩ := hp.cells
  by_cases hlo : p < 0
  · have hb : byteOf s p = (0, 2) := by unfold byteOf; rw [if_pos (.inl hlo)]
    rw [hb]
    clear hp hb hn hm hcs hrs
    go_enter Tryd.func44, Tryd.ntmps44
    go_wp2_with (go_at_call 67; refine HN.out.mono ?_; rintro e w1 ⟨rfl, rfl⟩)
    go_ret2
    exact ⟨rfl, rfl⟩
  · obtain ⟨q, rfl⟩ := Int.eq_ofNat_of_zero_le (Int.not_lt.1 hlo)
    have hlo2 : (0 : Int) ≤ (q : Int) := by omega
    by_cases hhi : (placesFrom s 0).length < q
    · have hb : byteOf s q = (0, 2) := by unfold byteOf; rw [if_pos (.inr (by omega))]
      rw [hb]
      have hh : (m : Int) < (q : Int) := by omega
      clear hp hb hn hm hcs hrs hlo hhi
      go_enter Tryd.func44, Tryd.ntmps44
      go_wp2_with (go_at_call 67; refine HN.out.mono ?_; rintro e w1 ⟨rfl, rfl⟩)
      go_ret2
      exact ⟨rfl, rfl⟩
    · obtain ⟨b, o, x, hx, hq, hcq⟩ := hcs.at (k := q) (by simp; omega)
      cases hx
      have hb : byteOf s q = ((x : Int), 0) := by
        unfold byteOf
        rw [if_neg (by omega), Int.toNat_natCast, hq]
        rfl
      rw [hb]
      have hh : (q : Int) ≤ (m : Int) := by omega
      have hh2 : (q : Int) < (n : Int) := by omega
      unfold posV at hcq
      rw [Nat.zero_add] at hcq
      clear hp hb hn hm hcs hrs hlo hhi hq
      go_enter Tryd.func44, Tryd.ntmps44
      go_wp2_with (go_at_call 67; refine HN.out.mono ?_; rintro e w1 ⟨rfl, rfl⟩)
      go_ret2
      exact ⟨rfl, rfl⟩

/-- Where a text's last character begins. -/
def lastOf (s : ByteArray) : Nat := s.size - (Lib.decodeLastL s.data.toList).2

theorem last_width (l : List UInt8) (h : l ≠ []) : 1 ≤ (Lib.decodeLastL l).2 ∧ (Lib.decodeLastL l).2 ≤ l.length := by
  have hp : 0 < l.length := List.length_pos_iff.2 h
  unfold Lib.decodeLastL
  rw [if_neg h]
  split
  · exact ⟨Nat.le_refl _, hp⟩
  · dsimp only
    split
    · rename_i hd
      have := decode_width ⟨(l.drop (Lib.lastStart l)).toArray⟩ 0
      unfold Lib.decodeL at hd ⊢
      omega
    · exact ⟨Nat.le_refl _, hp⟩

theorem size_list (s : ByteArray) : s.data.toList.length = s.size := by rw [Array.length_toList]; rfl

set_option maxRecDepth 20000 in
set_option maxHeartbeats 1000000 in
theorem last_any (w : World) (s : ByteArray) (h0 : 0 < s.size) (hs : s.size ≤ 140737488355328) (hT : Lib.Utf8Tabs 0 1 w) :
    Calls Tryd.prog 27 #[.string s] w fun e w' => e = .returned (spotE s (lastOf s)) ∧ Below w.heap.size w w' := by
  have hne : s.data.toList ≠ [] := by
    intro e
    have := size_list s
    rw [e] at this
    simp at this
    omega
  have hw := last_width _ hne
  rw [size_list] at hw
  have D := fun W hT => Tryd.utf8_DecodeLastRuneInString s W (by omega) hT
  have hlt : lastOf s < s.size := by unfold lastOf; omega
  have S := fun W hT => spot_e W s (lastOf s) hlt hs hT
  have hsub : (s.size : Int) - (Lib.decodeLastL s.data.toList).2 = (lastOf s : Int) := by unfold lastOf; omega
  have e2 : s.toList.isEmpty = false := by
    rw [Lib.toList_data]
    cases h : s.data.toList with
    | nil => exact absurd h hne
    | cons _ _ => rfl
  have hn0 : (0 : Int) ≤ (Lib.decodeLastL s.data.toList).2 := by omega
  have HT := Lib.hid hT
  have HD := Lib.hid D
  have HS := Lib.hid S
  clear D S hT hne
  go_enter Tryd.func27, Tryd.ntmps27
  go_wp2_with (first
    | (go_at_call 58; refine (HD.out _ ?_).mono ?_; exact tabs_below HT.out ((Below.refl _ _).alloc (Nat.le_refl _) _); rintro e w1 ⟨rfl, hb1⟩; obtain ⟨hcx, hfx⟩ := bcell hb1; have hzx : w.heap.size < w1.heap.size := (by have := hb1.size; simp at this; omega); have HB1 := Lib.hid (((Below.refl _ _).alloc (Nat.le_refl _) _).trans (hb1.mono (by simp))); clear hb1)
    | (go_at_call 57; refine (HS.out _ ?_).mono ?_; exact tabs_below HT.out HB1.out; rintro e w2 ⟨rfl, hb2⟩; obtain ⟨hcy, hfy⟩ := bcell hb2; have hzy : w.heap.size < w2.heap.size := (by have := hb2.size; omega); have HB2 := Lib.hid (HB1.out.trans (hb2.mono HB1.out.size)); clear hb2; unfold spotE spotV))
  refine bodyPost_ret (v := spotE s (lastOf s)) (by simp [results, Tryd.results27, go_sem, hcx, hzx, hcy, spotE, spotV]; done) rfl ⟨rfl, ?_⟩
  exact below4 HB2.out _ _ _ _

end Go.Proofs.YthkehgmeaedflaaDoor
