/-
  Places asked: At, Rune, Slice, Text, Len, Begins, of some places and of none; walked.
-/
import Derived.Test.YthkehgmeaedflaaDoorMethM
import Derived.Test.YthkehgmeaedflaaDoorAll
namespace Go.Proofs.YthkehgmeaedflaaDoor
open Go.RowKit

attribute [local go_sem] eq_nil84

set_option maxHeartbeats 1000000 in
theorem none_nil (w : World) : Calls Tryd.prog 67 #[.pointer none] w fun e w' => e = .returned (.bool true) ∧ w = w' := by
  go_enter Tryd.func67, Tryd.ntmps67
  go_wp2
  go_ret
  exact ⟨rfl, rfl⟩

set_option maxHeartbeats 1000000 in
theorem byte_nil (w : World) (p : Int) : Calls Tryd.prog 44 #[.pointer none, .int .i64 p] w fun e w' => e = .returned (.tuple #[.int .i64 0, .int .i64 1]) ∧ w = w' := by
  go_enter Tryd.func44, Tryd.ntmps44
  go_wp2_with (go_at_call 67; refine (none_nil _).mono ?_; rintro e w1 ⟨rfl, rfl⟩)
  go_ret2
  exact ⟨rfl, rfl⟩
set_option maxHeartbeats 1000000 in
theorem at_nil (w : World) (p : Int) : Calls Tryd.prog 45 #[.pointer none, .int .i64 p] w fun e w' => e = .returned (.tuple #[.int .i64 0, .int .i64 1]) ∧ w = w' := by
  go_enter Tryd.func45, Tryd.ntmps45
  go_wp2_with (go_at_call 67; refine (none_nil _).mono ?_; rintro e w1 ⟨rfl, rfl⟩)
  go_ret2
  exact ⟨rfl, rfl⟩
set_option maxHeartbeats 1000000 in
theorem rune_nil (w : World) (p : Int) : Calls Tryd.prog 46 #[.pointer none, .int .i64 p] w fun e w' => e = .returned (.tuple #[.int .i32 0, .int .i64 1]) ∧ w = w' := by
  go_enter Tryd.func46, Tryd.ntmps46
  go_wp2_with (go_at_call 67; refine (none_nil _).mono ?_; rintro e w1 ⟨rfl, rfl⟩)
  go_ret2
  exact ⟨rfl, rfl⟩
set_option maxHeartbeats 1000000 in
theorem slice_nil (w : World) (p q : Int) : Calls Tryd.prog 47 #[.pointer none, .int .i64 p, .int .i64 q] w fun e w' => e = .returned (.tuple #[.string ⟨#[]⟩, .int .i64 1]) ∧ w = w' := by
  go_enter Tryd.func47, Tryd.ntmps47
  go_wp2_with (go_at_call 67; refine (none_nil _).mono ?_; rintro e w1 ⟨rfl, rfl⟩)
  go_ret2
  exact ⟨rfl, rfl⟩
set_option maxHeartbeats 1000000 in
theorem text_nil (w : World) : Calls Tryd.prog 49 #[.pointer none] w fun e w' => e = .returned (.string ⟨#[]⟩) ∧ w = w' := by
  go_enter Tryd.func49, Tryd.ntmps49
  go_wp2_with (go_at_call 67; refine (none_nil _).mono ?_; rintro e w1 ⟨rfl, rfl⟩)
  go_ret
  exact ⟨rfl, rfl⟩
set_option maxHeartbeats 1000000 in
theorem len_nil (w : World) : Calls Tryd.prog 50 #[.pointer none] w fun e w' => e = .returned (.int .i64 0) ∧ w = w' := by
  go_enter Tryd.func50, Tryd.ntmps50
  go_wp2_with (go_at_call 67; refine (none_nil _).mono ?_; rintro e w1 ⟨rfl, rfl⟩)
  go_ret
  exact ⟨rfl, rfl⟩
set_option maxHeartbeats 1000000 in
theorem begins_nil (w : World) (p : Int) : Calls Tryd.prog 51 #[.pointer none, .int .i64 p] w fun e w' => e = .returned (.bool false) ∧ w = w' := by
  go_enter Tryd.func51, Tryd.ntmps51
  go_wp2_with (go_at_call 67; refine (none_nil _).mono ?_; rintro e w1 ⟨rfl, rfl⟩)
  go_ret
  exact ⟨rfl, rfl⟩

/-- The library's search in a text's places. -/
theorem search_any (w : World) (g c : Nat) (s : ByteArray) (hs : s.size ≤ 140737488355328) (hcs : Cells w (some ⟨g, 0, none⟩) ((placesFrom s 0 ++ [s.size]).map posV)) (b : Int) :
    Calls Tryd.prog 68 #[.slice (some ⟨g, 0, none⟩) ((placesFrom s 0).length + 1) c, .int .i64 b] w fun e w' => e = .returned (.tuple #[.int .i64 ((indexI s).countP (· < b) : Nat), .bool (startsB s b)]) ∧ Below w.heap.size w w' := by
  have hl : (indexI s).length = (placesFrom s 0).length + 1 := by unfold indexI; rw [List.length_map, index_len]
  have hpl := places_le s
  have h := Tryd.slices_BinarySearch_int g 0 ((placesFrom s 0).length + 1) c (indexI s) b w (by omega) (by omega) (fun j hj => by
    obtain ⟨b', off, he, hc⟩ := hcs (by simp)
    cases he
    refine hc j _ ?_
    have hj2 : j < (placesFrom s 0 ++ [s.size]).length := by simpa [hl] using hj
    rw [List.getElem?_map, List.getElem?_eq_getElem hj2]
    simp only [Option.map_some, posV, Option.some.injEq, Value.int.injEq, true_and]
    rw [List.getD_eq_getElem?_getD]
    unfold indexI indexOf
    rw [List.getElem?_map, List.getElem?_eq_getElem hj2]
    rfl) (by
    rw [List.take_of_length_le (by omega)]
    exact (indexI_sorted s).imp (fun h => by omega))
  rw [List.take_of_length_le (by omega)] at h
  refine h.mono ?_
  rintro e w' ⟨rfl, q, rfl⟩
  exact ⟨rfl, below_drewN (Below.refl _ _) _⟩

set_option maxHeartbeats 1000000 in
theorem at_any (w : World) (B : Nat) (s : ByteArray) (hs : s.size ≤ 140737488355328) (hp : PlacesAt w B s) (b : Int) :
    Calls Tryd.prog 45 #[.pointer (some ⟨B, 0, none⟩), .int .i64 b] w fun e w' => e = .returned (.tuple #[.int .i64 (hasOf s b).1, .int .i64 (hasOf s b).2]) ∧ Below w.heap.size w w' := by
  have HN := Lib.hid (none_any w B s hp)
  obtain ⟨g, n, c, r, m, d, h0, h1, h2, hn, hc, hcs, hm, hrs⟩ := hp.cells
  by_cases hlo : b < 0
  · have hb : hasOf s b = (0, 2) := by unfold hasOf; rw [if_pos (.inl hlo)]
    rw [hb]
    clear hp hb hn hm hcs hrs
    go_enter Tryd.func45, Tryd.ntmps45
    go_wp2_with (go_at_call 67; refine HN.out.mono ?_; rintro e w1 ⟨rfl, rfl⟩)
    go_ret2
    exact ⟨rfl, Below.refl _ _⟩
  · have hlo2 : (0 : Int) ≤ b := by omega
    by_cases hhi : (s.size : Int) < b
    · have hb : hasOf s b = (0, 2) := by unfold hasOf; rw [if_pos (.inr hhi)]
      rw [hb]
      clear hp hb hn hm hcs hrs hlo
      go_enter Tryd.func45, Tryd.ntmps45
      go_wp2_with (go_at_call 67; refine HN.out.mono ?_; rintro e w1 ⟨rfl, rfl⟩)
      go_ret2
      exact ⟨rfl, Below.refl _ _⟩
    · have hb : hasOf s b = ((upTo s b : Int) - 1, 0) := by unfold hasOf; rw [if_neg (by omega)]
      rw [hb]
      have hh : b ≤ (s.size : Int) := by omega
      subst hn
      have S := search_any w g c s hs hcs b
      have hup := count_le_lt (indexI s) b (indexI_sorted s)
      have hu1 := upTo_pos s b hlo2
      have hu2 := upTo_le s b
      have hpl := places_le s
      rw [show (indexI s).countP (· ≤ b) = upTo s b from rfl, show (indexI s).contains b = startsB s b from rfl] at hup
      generalize upTo s b = U at *
      generalize (indexI s).countP (· < b) = V at *
      cases hst : startsB s b
      · rw [hst] at hup S
        simp only [Bool.false_eq_true, if_false, Nat.add_zero] at hup
        subst hup
        have HS := Lib.hid S
        clear hp hb hm hcs hrs hlo hhi S hst
        have hv1 : (1 : Int) ≤ (U : Int) := by omega
        have hv2 : (U : Int) ≤ 140737488355329 := by omega
        go_enter Tryd.func45, Tryd.ntmps45
        go_wp2_with (first | (go_at_call 67; refine HN.out.mono ?_; rintro e w1 ⟨rfl, rfl⟩) | (go_at_call 68; refine HS.out.mono ?_; rintro e w2 ⟨rfl, hb2⟩))
        go_ret2
        exact ⟨ret_pairn (by first | rfl | omega) rfl, hb2⟩
      · rw [hst] at hup S
        simp only [if_true] at hup
        subst hup
        have HS := Lib.hid S
        clear hp hb hm hcs hrs hlo hhi S hst
        have hv2 : (V : Int) ≤ 140737488355329 := by omega
        go_enter Tryd.func45, Tryd.ntmps45
        go_wp2_with (first | (go_at_call 67; refine HN.out.mono ?_; rintro e w1 ⟨rfl, rfl⟩) | (go_at_call 68; refine HS.out.mono ?_; rintro e w2 ⟨rfl, hb2⟩))
        go_ret2
        exact ⟨ret_pairn (by first | rfl | omega) rfl, hb2⟩

set_option maxHeartbeats 1000000 in
theorem begins_any (w : World) (B : Nat) (s : ByteArray) (hs : s.size ≤ 140737488355328) (hp : PlacesAt w B s) (b : Int) :
    Calls Tryd.prog 51 #[.pointer (some ⟨B, 0, none⟩), .int .i64 b] w fun e w' => e = .returned (.bool (startsB s b)) ∧ Below w.heap.size w w' := by
  have HN := Lib.hid (none_any w B s hp)
  obtain ⟨g, n, c, r, m, d, h0, h1, h2, hn, hc, hcs, hm, hrs⟩ := hp.cells
  subst hn
  have HS := Lib.hid (search_any w g c s hs hcs b)
  clear hp hm hcs hrs
  go_enter Tryd.func51, Tryd.ntmps51
  go_wp2_with (first | (go_at_call 67; refine HN.out.mono ?_; rintro e w1 ⟨rfl, rfl⟩) | (go_at_call 68; refine HS.out.mono ?_; rintro e w2 ⟨rfl, hb2⟩))
  go_ret
  exact ⟨rfl, hb2⟩

set_option maxHeartbeats 1000000 in
theorem text_any (w : World) (B : Nat) (s : ByteArray) (hp : PlacesAt w B s) : Calls Tryd.prog 49 #[.pointer (some ⟨B, 0, none⟩)] w fun e w' => e = .returned (.string s) ∧ w = w' := by
  have HN := Lib.hid (none_any w B s hp)
  obtain ⟨g, n, c, r, m, d, h0, h1, h2, hn, hc, hcs, hm, hrs⟩ := hp.cells
  clear hp hn hm hcs hrs
  go_enter Tryd.func49, Tryd.ntmps49
  go_wp2_with (go_at_call 67; refine HN.out.mono ?_; rintro e w1 ⟨rfl, rfl⟩)
  go_ret
  exact ⟨rfl, rfl⟩
set_option maxHeartbeats 1000000 in
theorem len_any (w : World) (B : Nat) (s : ByteArray) (hp : PlacesAt w B s) : Calls Tryd.prog 50 #[.pointer (some ⟨B, 0, none⟩)] w fun e w' => e = .returned (.int .i64 ((placesFrom s 0).length : Nat)) ∧ w = w' := by
  have HN := Lib.hid (none_any w B s hp)
  obtain ⟨g, n, c, r, m, d, h0, h1, h2, hn, hc, hcs, hm, hrs⟩ := hp.cells
  subst hm
  clear hp hn hcs hrs
  go_enter Tryd.func50, Tryd.ntmps50
  go_wp2_with (go_at_call 67; refine HN.out.mono ?_; rintro e w1 ⟨rfl, rfl⟩)
  go_ret
  exact ⟨rfl, rfl⟩

theorem ret_pair32 {a c : Int} {b d : Int} (h1 : a = c) (h2 : b = d) : Ending.returned (.tuple #[.int .i32 a, .int .i64 b]) = .returned (.tuple #[.int .i32 c, .int .i64 d]) := by rw [h1, h2]

set_option maxHeartbeats 1000000 in
theorem rune_any (w : World) (B : Nat) (s : ByteArray) (hp : PlacesAt w B s) (p : Int) :
    Calls Tryd.prog 46 #[.pointer (some ⟨B, 0, none⟩), .int .i64 p] w fun e w' => e = .returned (.tuple #[.int .i32 (runeOf s p).1, .int .i64 (runeOf s p).2]) ∧ w = w' := by
  have HN := Lib.hid (none_any w B s hp)
  obtain ⟨g, n, c, r, m, d, h0, h1, h2, hn, hc, hcs, hm, hrs⟩ := hp.cells
  subst hm
  by_cases hlo : p < 0
  · have hb : runeOf s p = (0, 2) := by unfold runeOf; rw [if_pos (.inl hlo)]
    rw [hb]
    clear hp hb hn hcs hrs
    go_enter Tryd.func46, Tryd.ntmps46
    go_wp2_with (go_at_call 67; refine HN.out.mono ?_; rintro e w1 ⟨rfl, rfl⟩)
    go_ret2
    exact ⟨rfl, rfl⟩
  · obtain ⟨q, rfl⟩ := Int.eq_ofNat_of_zero_le (Int.not_lt.1 hlo)
    have hlo2 : (0 : Int) ≤ (q : Int) := by omega
    by_cases hhi : (placesFrom s 0).length ≤ q
    · have hb : runeOf s q = (0, 2) := by unfold runeOf; rw [if_pos (.inr (by omega))]
      rw [hb]
      have hh : ((placesFrom s 0).length : Int) ≤ (q : Int) := by omega
      clear hp hb hn hcs hrs hlo hhi
      go_enter Tryd.func46, Tryd.ntmps46
      go_wp2_with (go_at_call 67; refine HN.out.mono ?_; rintro e w1 ⟨rfl, rfl⟩)
      go_ret2
      exact ⟨rfl, rfl⟩
    · obtain ⟨b, o, x, rfl, hq, hcq⟩ := hrs.at (k := q) (by rw [places_runes]; omega)
      have hb : runeOf s q = (x, 0) := by
        unfold runeOf
        rw [if_neg (by omega), Int.toNat_natCast, hq]
        rfl
      rw [hb]
      have hh : (q : Int) < ((placesFrom s 0).length : Int) := by omega
      clear hp hb hn hcs hrs hlo hhi hq
      go_enter Tryd.func46, Tryd.ntmps46
      go_wp2_with (go_at_call 67; refine HN.out.mono ?_; rintro e w1 ⟨rfl, rfl⟩)
      go_ret2
      exact ⟨rfl, rfl⟩

set_option maxRecDepth 20000 in
set_option maxHeartbeats 1000000 in
theorem slice_any (w : World) (B : Nat) (s : ByteArray) (hp : PlacesAt w B s) (p q : Int) :
    Calls Tryd.prog 47 #[.pointer (some ⟨B, 0, none⟩), .int .i64 p, .int .i64 q] w fun e w' => e = .returned (.tuple #[.string (sliceOf s p q).1, .int .i64 (sliceOf s p q).2]) ∧ Below w.heap.size w w' := by
  have HN := Lib.hid (none_any w B s hp)
  obtain ⟨g, n, c, r, m, d, h0, h1, h2, hn, hc, hcs, hm, hrs⟩ := hp.cells
  subst hm
  by_cases hlo : p < 0
  · have hb : sliceOf s p q = (⟨#[]⟩, 2) := by unfold sliceOf; rw [if_pos (.inl hlo)]
    rw [hb]
    clear hp hb hn hcs hrs
    go_enter Tryd.func47, Tryd.ntmps47
    go_wp2_with (go_at_call 67; refine HN.out.mono ?_; rintro e w1 ⟨rfl, rfl⟩)
    go_ret2
    exact ⟨rfl, Below.refl _ _⟩
  · have hlo2 : (0 : Int) ≤ p := by omega
    by_cases hmid : q < p
    · have hb : sliceOf s p q = (⟨#[]⟩, 2) := by unfold sliceOf; rw [if_pos (.inr (.inl hmid))]
      rw [hb]
      clear hp hb hn hcs hrs
      go_enter Tryd.func47, Tryd.ntmps47
      go_wp2_with (go_at_call 67; refine HN.out.mono ?_; rintro e w1 ⟨rfl, rfl⟩)
      go_ret2
      exact ⟨rfl, Below.refl _ _⟩
    · have hmid2 : p ≤ q := by omega
      by_cases hhi : ((placesFrom s 0).length : Int) < q
      · have hb : sliceOf s p q = (⟨#[]⟩, 2) := by unfold sliceOf; rw [if_pos (.inr (.inr hhi))]
        rw [hb]
        clear hp hb hn hcs hrs hlo hmid
        go_enter Tryd.func47, Tryd.ntmps47
        go_wp2_with (go_at_call 67; refine HN.out.mono ?_; rintro e w1 ⟨rfl, rfl⟩)
        go_ret2
        exact ⟨rfl, Below.refl _ _⟩
      · obtain ⟨j, rfl⟩ := Int.eq_ofNat_of_zero_le hlo2
        obtain ⟨k, rfl⟩ := Int.eq_ofNat_of_zero_le (show 0 ≤ q by omega)
        obtain ⟨x, hx, hxs⟩ := index_at s j (by omega)
        obtain ⟨y, hy, hys⟩ := index_at s k (by omega)
        have hxy := index_mono s j k x y (by omega) hx hy
        have hb : sliceOf s (j : Int) (k : Int) = (s.extract x y, 0) := by
          unfold sliceOf
          rw [if_neg (by omega), Int.toNat_natCast, Int.toNat_natCast, hx, hy]
          rfl
        rw [hb]
        obtain ⟨b1, o1, x', hg1, hq1, hc1⟩ := hcs.at (k := j) (by simp; omega)
        obtain ⟨b2, o2, y', hg2, hq2, hc2⟩ := hcs.at (k := k) (by simp; omega)
        rw [show (placesFrom s 0 ++ [s.size])[j]? = some x from hx] at hq1
        rw [show (placesFrom s 0 ++ [s.size])[k]? = some y from hy] at hq2
        simp only [Option.some.injEq] at hq1 hq2
        subst hq1
        subst hq2
        cases hg1
        cases hg2
        unfold posV at hc1 hc2
        rw [Nat.zero_add] at hc1 hc2
        subst hn
        have hh1 : (k : Int) ≤ ((placesFrom s 0).length : Int) := by omega
        have hh2 : (j : Int) < (((placesFrom s 0).length + 1 : Nat) : Int) := by omega
        have hh3 : (k : Int) < (((placesFrom s 0).length + 1 : Nat) : Int) := by omega
        have hh4 : (x : Int) ≤ (y : Int) := by omega
        have hh5 : (y : Int) ≤ (s.size : Int) := by omega
        have hh6 : (0 : Int) ≤ (x : Int) := by omega
        clear hp hb hcs hrs hlo hmid hhi hx hy
        go_enter Tryd.func47, Tryd.ntmps47
        go_wp2_with (go_at_call 67; refine HN.out.mono ?_; rintro e w1 ⟨rfl, rfl⟩)
        go_quiet (fail)
        go_wp2
        go_ret2
        exact ⟨rfl, below_drewN (Below.refl _ _) _⟩

end Go.Proofs.YthkehgmeaedflaaDoor
