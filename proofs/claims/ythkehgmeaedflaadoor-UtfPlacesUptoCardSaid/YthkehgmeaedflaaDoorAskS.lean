/-
  One question of a text's places, held against the reference: walked (printed by gask.py).
-/
import Derived.Test.YthkehgmeaedflaaDoorRAsk
import Derived.Test.YthkehgmeaedflaaDoorWalk
import Derived.Test.YthkehgmeaedflaaDoorLostM
import Derived.Deep.CutBlock
import Derived.Test.YthkehgmeaedflaaDoorAsk
namespace Go.Proofs.YthkehgmeaedflaaDoor
open Go.RowKit Go.Shelf
set_option linter.unusedVariables false
attribute [local go_sem] Oper.semAt_some


set_option maxRecDepth 100000 in
set_option maxHeartbeats 4000000 in
theorem ask_four_neg (w : World) (B : Nat) (s : ByteArray) (hs : s.size ≤ 65536) (hp : PlacesAt w B s) (a b : Int) (ha : a < 0) :
    CallsIn Fence.wide 5 Tryd.prog 43 #[.pointer (some ⟨B, 0, none⟩), .string s, .agg #[.int .i64 4, .int .i64 a, .int .i64 b]] w fun e W' => e = .returned (.bool true) ∧ Below w.heap.size w W' := by
  have HPP := Lib.hid hp
  have hle := places_le s
  have HRS := Lib.hid (fun w => rspots_any w s (by omega))
  clear hp
  refine callsIn_of_wp_marks Tryd.func43 rfl trivial ?_ rfl
  simp only [Tryd.ntmps43, List.size_toArray, List.length_cons, List.length_nil, Nat.reduceAdd, Nat.reduceSub, Array.replicate_succ, Array.replicate_zero, List.push_toArray, List.append_toArray, List.nil_append, List.cons_append]
  refine wpIn_wide.2 ?_
  go_wp2_with fail
  have k0 : ((w.alloc (.cells #[.int .i64 4, .int .i64 a, .int .i64 b] 70)).alloc (.cells #[.bool false] 4)).heap[w.heap.size]? = some (.cells #[.int .i64 4, .int .i64 a, .int .i64 b] 70 (0, 0)) := (Below.heap_alloc _ _ _ (by simp)).trans (World.alloc_heap_new w _)
  have b0 := Boxed.new (w.alloc (.cells #[.int .i64 4, .int .i64 a, .int .i64 b] 70)) 4 (.bool false)
  rw [World.size_alloc] at b0
  have hbw : Below w.heap.size w ((w.alloc (.cells #[.int .i64 4, .int .i64 a, .int .i64 b] 70)).alloc (.cells #[.bool false] 4)) := ((Below.refl _ _).alloc (Nat.le_refl _) _).alloc (by simp) _
  refine (HRS.out _).mono ?_
  rintro e w1 ⟨a1, c1, rfl, hown, hb1⟩
  have hK1 := ((hb1.block w.heap.size (by simp; omega)).trans k0)
  have hR1 := b0.kept (below_grown hb1) (by simp)
  have hB1 := after hbw hb1
  have hz1 : w.heap.size + 1 < w1.heap.size := hR1.lt
  have HKK := Lib.hid ((Below.heap_alloc w1 (.cells #[.slice a1 (placesFrom s 0).length c1] 38) w.heap.size (by omega)).trans hK1)
  have HR := Lib.hid (hR1.alloc (.cells #[.slice a1 (placesFrom s 0).length c1] 38))
  have HT := Lib.hid (Boxed.new w1 38 (.slice a1 (placesFrom s 0).length c1))
  have HO := Lib.hid (hown.alloc (.cells #[.slice a1 (placesFrom s 0).length c1] 38))
  have HB := Lib.hid (hB1.alloc hB1.size (.cells #[.slice a1 (placesFrom s 0).length c1] 38))
  have hTb : w1.heap.size < (w1.alloc (.cells #[.slice a1 (placesFrom s 0).length c1] 38)).heap.size := by simp
  have HP := Lib.hid (HPP.out.below HB.out)
  clear k0 b0 hbw hown hb1 hK1 hR1 hB1
  go_upto_region 2 with (fail)
  obtain ⟨Tb, hTT⟩ : ∃ x, x = w1.heap.size := ⟨_, rfl⟩
  rw [← hTT] at HT hTb hz1 ⊢
  generalize w1.alloc (.cells #[.slice a1 (placesFrom s 0).length c1] 38) = w2 at *
  clear hTT
  have HC := Lib.hid (fun W (h : Below w2.heap.size w2 W) => show (W.cell? ⟨w.heap.size, 0, none⟩ = some (.int .i64 4) ∧ W.cell? ⟨w.heap.size, 1, none⟩ = some (.int .i64 a) ∧ W.cell? ⟨w.heap.size, 2, none⟩ = some (.int .i64 b)) ∧ W.cell? ⟨Tb, 0, none⟩ = some (.slice a1 (placesFrom s 0).length c1) ∧ W.cell? ⟨w.heap.size + 1, 0, none⟩ = some (.bool false) ∧ W.frozen? ⟨w.heap.size + 1, 0, none⟩ = false from
    ⟨block3 ((h.block _ (by omega)).trans HKK.out), (HT.out.kept (below_grown h) (by simp)).cell, (HR.out.kept (below_grown h) (by simp)).cell, (HR.out.kept (below_grown h) (by simp)).frozen⟩)
  obtain ⟨⟨d0, d1, d2⟩, ht, hr, hf⟩ := HC.out w2 (Below.refl _ _)
  have hro : sliceOf s a b = (⟨#[]⟩, 2) := by unfold sliceOf; rw [if_pos (by omega)]
  have H1 := fun W hp => slice_any W B s hp a b
  simp only [hro] at H1
  have H1 := Lib.hid H1
  clear hro
  go_wp2_with fail
  refine (H1.out _ HP.out).mono ?_
  rintro e w4 ⟨rfl, hb4⟩
  have HBX := Lib.hid hb4
  clear hb4
  clear d0 d1 d2 ht hr hf
  obtain ⟨⟨d0, d1, d2⟩, ht, hr, hf⟩ := HC.out _ HBX.out
  go_wp2_with fail
  have X1 := ((HR.out.kept (below_grown HBX.out) (by simp)).set (.bool true)).cell
  refine ⟨.bool true, ?_, rfl, (after HB.out HBX.out).setCell (p := ⟨w.heap.size + 1, 0, none⟩) (Nat.le_succ _) _⟩
  simp [results, Tryd.f43, go_sem, X1]

set_option maxRecDepth 100000 in
set_option maxHeartbeats 4000000 in
theorem ask_four_less (w : World) (B : Nat) (s : ByteArray) (hs : s.size ≤ 65536) (hp : PlacesAt w B s) (a b : Int) (ha : 0 ≤ a) (hb : b < a) :
    CallsIn Fence.wide 5 Tryd.prog 43 #[.pointer (some ⟨B, 0, none⟩), .string s, .agg #[.int .i64 4, .int .i64 a, .int .i64 b]] w fun e W' => e = .returned (.bool true) ∧ Below w.heap.size w W' := by
  have HPP := Lib.hid hp
  have hle := places_le s
  have HRS := Lib.hid (fun w => rspots_any w s (by omega))
  clear hp
  refine callsIn_of_wp_marks Tryd.func43 rfl trivial ?_ rfl
  simp only [Tryd.ntmps43, List.size_toArray, List.length_cons, List.length_nil, Nat.reduceAdd, Nat.reduceSub, Array.replicate_succ, Array.replicate_zero, List.push_toArray, List.append_toArray, List.nil_append, List.cons_append]
  refine wpIn_wide.2 ?_
  go_wp2_with fail
  have k0 : ((w.alloc (.cells #[.int .i64 4, .int .i64 a, .int .i64 b] 70)).alloc (.cells #[.bool false] 4)).heap[w.heap.size]? = some (.cells #[.int .i64 4, .int .i64 a, .int .i64 b] 70 (0, 0)) := (Below.heap_alloc _ _ _ (by simp)).trans (World.alloc_heap_new w _)
  have b0 := Boxed.new (w.alloc (.cells #[.int .i64 4, .int .i64 a, .int .i64 b] 70)) 4 (.bool false)
  rw [World.size_alloc] at b0
  have hbw : Below w.heap.size w ((w.alloc (.cells #[.int .i64 4, .int .i64 a, .int .i64 b] 70)).alloc (.cells #[.bool false] 4)) := ((Below.refl _ _).alloc (Nat.le_refl _) _).alloc (by simp) _
  refine (HRS.out _).mono ?_
  rintro e w1 ⟨a1, c1, rfl, hown, hb1⟩
  have hK1 := ((hb1.block w.heap.size (by simp; omega)).trans k0)
  have hR1 := b0.kept (below_grown hb1) (by simp)
  have hB1 := after hbw hb1
  have hz1 : w.heap.size + 1 < w1.heap.size := hR1.lt
  have HKK := Lib.hid ((Below.heap_alloc w1 (.cells #[.slice a1 (placesFrom s 0).length c1] 38) w.heap.size (by omega)).trans hK1)
  have HR := Lib.hid (hR1.alloc (.cells #[.slice a1 (placesFrom s 0).length c1] 38))
  have HT := Lib.hid (Boxed.new w1 38 (.slice a1 (placesFrom s 0).length c1))
  have HO := Lib.hid (hown.alloc (.cells #[.slice a1 (placesFrom s 0).length c1] 38))
  have HB := Lib.hid (hB1.alloc hB1.size (.cells #[.slice a1 (placesFrom s 0).length c1] 38))
  have hTb : w1.heap.size < (w1.alloc (.cells #[.slice a1 (placesFrom s 0).length c1] 38)).heap.size := by simp
  have HP := Lib.hid (HPP.out.below HB.out)
  clear k0 b0 hbw hown hb1 hK1 hR1 hB1
  go_upto_region 2 with (fail)
  obtain ⟨Tb, hTT⟩ : ∃ x, x = w1.heap.size := ⟨_, rfl⟩
  rw [← hTT] at HT hTb hz1 ⊢
  generalize w1.alloc (.cells #[.slice a1 (placesFrom s 0).length c1] 38) = w2 at *
  clear hTT
  have HC := Lib.hid (fun W (h : Below w2.heap.size w2 W) => show (W.cell? ⟨w.heap.size, 0, none⟩ = some (.int .i64 4) ∧ W.cell? ⟨w.heap.size, 1, none⟩ = some (.int .i64 a) ∧ W.cell? ⟨w.heap.size, 2, none⟩ = some (.int .i64 b)) ∧ W.cell? ⟨Tb, 0, none⟩ = some (.slice a1 (placesFrom s 0).length c1) ∧ W.cell? ⟨w.heap.size + 1, 0, none⟩ = some (.bool false) ∧ W.frozen? ⟨w.heap.size + 1, 0, none⟩ = false from
    ⟨block3 ((h.block _ (by omega)).trans HKK.out), (HT.out.kept (below_grown h) (by simp)).cell, (HR.out.kept (below_grown h) (by simp)).cell, (HR.out.kept (below_grown h) (by simp)).frozen⟩)
  obtain ⟨⟨d0, d1, d2⟩, ht, hr, hf⟩ := HC.out w2 (Below.refl _ _)
  have hro : sliceOf s a b = (⟨#[]⟩, 2) := by unfold sliceOf; rw [if_pos (by omega)]
  have H1 := fun W hp => slice_any W B s hp a b
  simp only [hro] at H1
  have H1 := Lib.hid H1
  clear hro
  go_wp2_with fail
  refine (H1.out _ HP.out).mono ?_
  rintro e w4 ⟨rfl, hb4⟩
  have HBX := Lib.hid hb4
  clear hb4
  clear d0 d1 d2 ht hr hf
  obtain ⟨⟨d0, d1, d2⟩, ht, hr, hf⟩ := HC.out _ HBX.out
  go_wp2_with fail
  have X1 := ((HR.out.kept (below_grown HBX.out) (by simp)).set (.bool true)).cell
  refine ⟨.bool true, ?_, rfl, (after HB.out HBX.out).setCell (p := ⟨w.heap.size + 1, 0, none⟩) (Nat.le_succ _) _⟩
  simp [results, Tryd.f43, go_sem, X1]

set_option maxRecDepth 100000 in
set_option maxHeartbeats 4000000 in
theorem ask_four_big (w : World) (B : Nat) (s : ByteArray) (hs : s.size ≤ 65536) (hp : PlacesAt w B s) (a b : Int) (ha : 0 ≤ a) (hab : a ≤ b) (hb : ((placesFrom s 0).length : Int) < b) :
    CallsIn Fence.wide 5 Tryd.prog 43 #[.pointer (some ⟨B, 0, none⟩), .string s, .agg #[.int .i64 4, .int .i64 a, .int .i64 b]] w fun e W' => e = .returned (.bool true) ∧ Below w.heap.size w W' := by
  have HPP := Lib.hid hp
  have hle := places_le s
  have HRS := Lib.hid (fun w => rspots_any w s (by omega))
  clear hp
  refine callsIn_of_wp_marks Tryd.func43 rfl trivial ?_ rfl
  simp only [Tryd.ntmps43, List.size_toArray, List.length_cons, List.length_nil, Nat.reduceAdd, Nat.reduceSub, Array.replicate_succ, Array.replicate_zero, List.push_toArray, List.append_toArray, List.nil_append, List.cons_append]
  refine wpIn_wide.2 ?_
  go_wp2_with fail
  have k0 : ((w.alloc (.cells #[.int .i64 4, .int .i64 a, .int .i64 b] 70)).alloc (.cells #[.bool false] 4)).heap[w.heap.size]? = some (.cells #[.int .i64 4, .int .i64 a, .int .i64 b] 70 (0, 0)) := (Below.heap_alloc _ _ _ (by simp)).trans (World.alloc_heap_new w _)
  have b0 := Boxed.new (w.alloc (.cells #[.int .i64 4, .int .i64 a, .int .i64 b] 70)) 4 (.bool false)
  rw [World.size_alloc] at b0
  have hbw : Below w.heap.size w ((w.alloc (.cells #[.int .i64 4, .int .i64 a, .int .i64 b] 70)).alloc (.cells #[.bool false] 4)) := ((Below.refl _ _).alloc (Nat.le_refl _) _).alloc (by simp) _
  refine (HRS.out _).mono ?_
  rintro e w1 ⟨a1, c1, rfl, hown, hb1⟩
  have hK1 := ((hb1.block w.heap.size (by simp; omega)).trans k0)
  have hR1 := b0.kept (below_grown hb1) (by simp)
  have hB1 := after hbw hb1
  have hz1 : w.heap.size + 1 < w1.heap.size := hR1.lt
  have HKK := Lib.hid ((Below.heap_alloc w1 (.cells #[.slice a1 (placesFrom s 0).length c1] 38) w.heap.size (by omega)).trans hK1)
  have HR := Lib.hid (hR1.alloc (.cells #[.slice a1 (placesFrom s 0).length c1] 38))
  have HT := Lib.hid (Boxed.new w1 38 (.slice a1 (placesFrom s 0).length c1))
  have HO := Lib.hid (hown.alloc (.cells #[.slice a1 (placesFrom s 0).length c1] 38))
  have HB := Lib.hid (hB1.alloc hB1.size (.cells #[.slice a1 (placesFrom s 0).length c1] 38))
  have hTb : w1.heap.size < (w1.alloc (.cells #[.slice a1 (placesFrom s 0).length c1] 38)).heap.size := by simp
  have HP := Lib.hid (HPP.out.below HB.out)
  clear k0 b0 hbw hown hb1 hK1 hR1 hB1
  go_upto_region 2 with (fail)
  obtain ⟨Tb, hTT⟩ : ∃ x, x = w1.heap.size := ⟨_, rfl⟩
  rw [← hTT] at HT hTb hz1 ⊢
  generalize w1.alloc (.cells #[.slice a1 (placesFrom s 0).length c1] 38) = w2 at *
  clear hTT
  have HC := Lib.hid (fun W (h : Below w2.heap.size w2 W) => show (W.cell? ⟨w.heap.size, 0, none⟩ = some (.int .i64 4) ∧ W.cell? ⟨w.heap.size, 1, none⟩ = some (.int .i64 a) ∧ W.cell? ⟨w.heap.size, 2, none⟩ = some (.int .i64 b)) ∧ W.cell? ⟨Tb, 0, none⟩ = some (.slice a1 (placesFrom s 0).length c1) ∧ W.cell? ⟨w.heap.size + 1, 0, none⟩ = some (.bool false) ∧ W.frozen? ⟨w.heap.size + 1, 0, none⟩ = false from
    ⟨block3 ((h.block _ (by omega)).trans HKK.out), (HT.out.kept (below_grown h) (by simp)).cell, (HR.out.kept (below_grown h) (by simp)).cell, (HR.out.kept (below_grown h) (by simp)).frozen⟩)
  obtain ⟨⟨d0, d1, d2⟩, ht, hr, hf⟩ := HC.out w2 (Below.refl _ _)
  have hro : sliceOf s a b = (⟨#[]⟩, 2) := by unfold sliceOf; rw [if_pos (by omega)]
  have H1 := fun W hp => slice_any W B s hp a b
  simp only [hro] at H1
  have H1 := Lib.hid H1
  clear hro
  go_wp2_with fail
  refine (H1.out _ HP.out).mono ?_
  rintro e w4 ⟨rfl, hb4⟩
  have HBX := Lib.hid hb4
  clear hb4
  clear d0 d1 d2 ht hr hf
  obtain ⟨⟨d0, d1, d2⟩, ht, hr, hf⟩ := HC.out _ HBX.out
  go_wp2_with fail
  have X1 := ((HR.out.kept (below_grown HBX.out) (by simp)).set (.bool true)).cell
  refine ⟨.bool true, ?_, rfl, (after HB.out HBX.out).setCell (p := ⟨w.heap.size + 1, 0, none⟩) (Nat.le_succ _) _⟩
  simp [results, Tryd.f43, go_sem, X1]

set_option maxRecDepth 100000 in
set_option maxHeartbeats 4000000 in
theorem ask_four_in (w : World) (B : Nat) (s : ByteArray) (hs : s.size ≤ 65536) (hp : PlacesAt w B s) (i j : Nat) (hij : i ≤ j) (hj : j ≤ (placesFrom s 0).length) :
    CallsIn Fence.wide 5 Tryd.prog 43 #[.pointer (some ⟨B, 0, none⟩), .string s, .agg #[.int .i64 4, .int .i64 i, .int .i64 j]] w fun e W' => e = .returned (.bool true) ∧ Below w.heap.size w W' := by
  have HPP := Lib.hid hp
  have hle := places_le s
  have HRS := Lib.hid (fun w => rspots_any w s (by omega))
  clear hp
  refine callsIn_of_wp_marks Tryd.func43 rfl trivial ?_ rfl
  simp only [Tryd.ntmps43, List.size_toArray, List.length_cons, List.length_nil, Nat.reduceAdd, Nat.reduceSub, Array.replicate_succ, Array.replicate_zero, List.push_toArray, List.append_toArray, List.nil_append, List.cons_append]
  refine wpIn_wide.2 ?_
  go_wp2_with fail
  have k0 : ((w.alloc (.cells #[.int .i64 4, .int .i64 i, .int .i64 j] 70)).alloc (.cells #[.bool false] 4)).heap[w.heap.size]? = some (.cells #[.int .i64 4, .int .i64 i, .int .i64 j] 70 (0, 0)) := (Below.heap_alloc _ _ _ (by simp)).trans (World.alloc_heap_new w _)
  have b0 := Boxed.new (w.alloc (.cells #[.int .i64 4, .int .i64 i, .int .i64 j] 70)) 4 (.bool false)
  rw [World.size_alloc] at b0
  have hbw : Below w.heap.size w ((w.alloc (.cells #[.int .i64 4, .int .i64 i, .int .i64 j] 70)).alloc (.cells #[.bool false] 4)) := ((Below.refl _ _).alloc (Nat.le_refl _) _).alloc (by simp) _
  refine (HRS.out _).mono ?_
  rintro e w1 ⟨a1, c1, rfl, hown, hb1⟩
  have hK1 := ((hb1.block w.heap.size (by simp; omega)).trans k0)
  have hR1 := b0.kept (below_grown hb1) (by simp)
  have hB1 := after hbw hb1
  have hz1 : w.heap.size + 1 < w1.heap.size := hR1.lt
  have HKK := Lib.hid ((Below.heap_alloc w1 (.cells #[.slice a1 (placesFrom s 0).length c1] 38) w.heap.size (by omega)).trans hK1)
  have HR := Lib.hid (hR1.alloc (.cells #[.slice a1 (placesFrom s 0).length c1] 38))
  have HT := Lib.hid (Boxed.new w1 38 (.slice a1 (placesFrom s 0).length c1))
  have HO := Lib.hid (hown.alloc (.cells #[.slice a1 (placesFrom s 0).length c1] 38))
  have HB := Lib.hid (hB1.alloc hB1.size (.cells #[.slice a1 (placesFrom s 0).length c1] 38))
  have hTb : w1.heap.size < (w1.alloc (.cells #[.slice a1 (placesFrom s 0).length c1] 38)).heap.size := by simp
  have HP := Lib.hid (HPP.out.below HB.out)
  clear k0 b0 hbw hown hb1 hK1 hR1 hB1
  go_upto_region 2 with (fail)
  obtain ⟨Tb, hTT⟩ : ∃ x, x = w1.heap.size := ⟨_, rfl⟩
  rw [← hTT] at HT hTb hz1 ⊢
  generalize w1.alloc (.cells #[.slice a1 (placesFrom s 0).length c1] 38) = w2 at *
  clear hTT
  have HC := Lib.hid (fun W (h : Below w2.heap.size w2 W) => show (W.cell? ⟨w.heap.size, 0, none⟩ = some (.int .i64 4) ∧ W.cell? ⟨w.heap.size, 1, none⟩ = some (.int .i64 i) ∧ W.cell? ⟨w.heap.size, 2, none⟩ = some (.int .i64 j)) ∧ W.cell? ⟨Tb, 0, none⟩ = some (.slice a1 (placesFrom s 0).length c1) ∧ W.cell? ⟨w.heap.size + 1, 0, none⟩ = some (.bool false) ∧ W.frozen? ⟨w.heap.size + 1, 0, none⟩ = false from
    ⟨block3 ((h.block _ (by omega)).trans HKK.out), (HT.out.kept (below_grown h) (by simp)).cell, (HR.out.kept (below_grown h) (by simp)).cell, (HR.out.kept (below_grown h) (by simp)).frozen⟩)
  obtain ⟨⟨d0, d1, d2⟩, ht, hr, hf⟩ := HC.out w2 (Below.refl _ _)
  obtain ⟨x, hx, hxs⟩ := index_at s i (by omega)
  obtain ⟨y, hy, hys⟩ := index_at s j (by omega)
  have hxy := index_mono s i j x y hij hx hy
  have hx2 : byteOf s (i : Int) = ((x : Int), 0) := by
    unfold byteOf
    unfold indexOf at hx
    rw [if_neg (by omega), Int.toNat_natCast, hx]
    rfl
  have hy2 : byteOf s (j : Int) = ((y : Int), 0) := by
    unfold byteOf
    unfold indexOf at hy
    rw [if_neg (by omega), Int.toNat_natCast, hy]
    rfl
  have hro : sliceOf s (i : Int) (j : Int) = (s.extract x y, 0) := by
    unfold sliceOf
    rw [if_neg (by omega), Int.toNat_natCast, Int.toNat_natCast, hx, hy]
    rfl
  have H1 := fun W hp => slice_any W B s hp (i : Int) (j : Int)
  simp only [hro] at H1
  have H1 := Lib.hid H1
  have H2 := fun W => rbyte_any W s (by omega) (i : Int)
  simp only [hx2] at H2
  have H2 := Lib.hid H2
  have H3 := fun W => rbyte_any W s (by omega) (j : Int)
  simp only [hy2] at H3
  have H3 := Lib.hid H3
  have hi0 : (0 : Int) ≤ (i : Int) := by omega
  have hij2 : (i : Int) ≤ (j : Int) := by omega
  have hjl : (j : Int) ≤ ((placesFrom s 0).length : Int) := by omega
  have hxi : (x : Int) ≤ (y : Int) := by omega
  have hyi : (y : Int) ≤ (s.size : Int) := by omega
  have hx0 : (0 : Int) ≤ (x : Int) := by omega
  clear hro hx2 hy2 hx hy
  go_wp2_with fail
  refine (H1.out _ HP.out).mono ?_
  rintro e w4 ⟨rfl, hb4⟩
  have HBX := Lib.hid hb4
  clear hb4
  clear d0 d1 d2 ht hr hf
  obtain ⟨⟨d0, d1, d2⟩, ht, hr, hf⟩ := HC.out _ HBX.out
  go_wp2_with fail
  refine (H2.out _).mono ?_
  rintro e w5 ⟨rfl, hb5⟩
  have HBX := Lib.hid (after HBX.out hb5)
  clear hb5
  clear d0 d1 d2 ht hr hf
  obtain ⟨⟨d0, d1, d2⟩, ht, hr, hf⟩ := HC.out _ HBX.out
  go_wp2_with fail
  refine (H3.out _).mono ?_
  rintro e w6 ⟨rfl, hb6⟩
  have HBX := Lib.hid (after HBX.out hb6)
  clear hb6
  clear d0 d1 d2 ht hr hf
  obtain ⟨⟨d0, d1, d2⟩, ht, hr, hf⟩ := HC.out _ HBX.out
  go_wp2_with fail
  have X1 := ((HR.out.kept (below_grown HBX.out) (by simp)).set (.bool true)).cell
  refine ⟨.bool true, ?_, rfl, (after HB.out HBX.out).setCell (p := ⟨w.heap.size + 1, 0, none⟩) (Nat.le_succ _) _⟩
  simp [results, Tryd.f43, go_sem, X1]

end Go.Proofs.YthkehgmeaedflaaDoor
