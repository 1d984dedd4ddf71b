/-
  One question of a text's places, held against the reference: walked (printed by gask.py).
-/
import Derived.Test.YthkehgmeaedflaaDoorRAsk
import Derived.Test.YthkehgmeaedflaaDoorWalk
import Derived.Test.YthkehgmeaedflaaDoorLostM
import Derived.Deep.CutBlock
namespace Go.Proofs.YthkehgmeaedflaaDoor
open Go.RowKit Go.Shelf
set_option linter.unusedVariables false
attribute [local go_sem] Oper.semAt_some

theorem block3 {W : World} {g : Nat} {a b c : Value} (h : W.heap[g]? = some (.cells #[a, b, c] 70 (0, 0))) : W.cell? ⟨g, 0, none⟩ = some a ∧ W.cell? ⟨g, 1, none⟩ = some b ∧ W.cell? ⟨g, 2, none⟩ = some c := by
  refine ⟨?_, ?_, ?_⟩ <;> simp [World.cell?, h]

set_option maxRecDepth 100000 in
set_option maxHeartbeats 4000000 in
theorem ask_zero (w : World) (B : Nat) (s : ByteArray) (hs : s.size ≤ 65536) (hp : PlacesAt w B s) (a b : Int) :
    CallsIn Fence.wide 5 Tryd.prog 43 #[.pointer (some ⟨B, 0, none⟩), .string s, .agg #[.int .i64 0, .int .i64 a, .int .i64 b]] w fun e W' => e = .returned (.bool true) ∧ Below w.heap.size w W' := by
  have HPP := Lib.hid hp
  have hle := places_le s
  have HRS := Lib.hid (fun w => rspots_any w s (by omega))
  clear hp
  refine callsIn_of_wp_marks Tryd.func43 rfl trivial ?_ rfl
  simp only [Tryd.ntmps43, List.size_toArray, List.length_cons, List.length_nil, Nat.reduceAdd, Nat.reduceSub, Array.replicate_succ, Array.replicate_zero, List.push_toArray, List.append_toArray, List.nil_append, List.cons_append]
  refine wpIn_wide.2 ?_
  go_wp2_with fail
  have k0 : ((w.alloc (.cells #[.int .i64 0, .int .i64 a, .int .i64 b] 70)).alloc (.cells #[.bool false] 4)).heap[w.heap.size]? = some (.cells #[.int .i64 0, .int .i64 a, .int .i64 b] 70 (0, 0)) := (Below.heap_alloc _ _ _ (by simp)).trans (World.alloc_heap_new w _)
  have b0 := Boxed.new (w.alloc (.cells #[.int .i64 0, .int .i64 a, .int .i64 b] 70)) 4 (.bool false)
  rw [World.size_alloc] at b0
  have hbw : Below w.heap.size w ((w.alloc (.cells #[.int .i64 0, .int .i64 a, .int .i64 b] 70)).alloc (.cells #[.bool false] 4)) := ((Below.refl _ _).alloc (Nat.le_refl _) _).alloc (by simp) _
  refine (HRS.out _).mono ?_
  rintro e w1 ⟨a1, c1, rfl, hown, hb1⟩
  have hK1 := ((hb1.block w.heap.size (by simp; omega)).trans k0)
  have hR1 := b0.kept (below_grown hb1) (by simp)
  have hB1 := after hbw hb1
  have hz1 : w.heap.size + 1 < w1.heap.size := hR1.lt
  have HKK := Lib.hid ((Below.heap_alloc w1 (.cells #[.slice a1 (placesFrom s 0).length c1] 38) w.heap.size (by omega)).trans hK1)
  have HR := Lib.hid (hR1.alloc (.cells #[.slice a1 (placesFrom s 0).length c1] 38))
  have HT := Lib.hid (Boxed.new w1 38 (.slice a1 (placesFrom s 0).length c1))
  have HO := Lib.hid (hown.alloc (.cells #[.slice a1 (placesFrom s 0).length c1] 38))
  have HB := Lib.hid (hB1.alloc hB1.size (.cells #[.slice a1 (placesFrom s 0).length c1] 38))
  have hTb : w1.heap.size < (w1.alloc (.cells #[.slice a1 (placesFrom s 0).length c1] 38)).heap.size := by simp
  have HP := Lib.hid (HPP.out.below HB.out)
  clear k0 b0 hbw hown hb1 hK1 hR1 hB1
  go_upto_region 2 with (fail)
  obtain ⟨Tb, hTT⟩ : ∃ x, x = w1.heap.size := ⟨_, rfl⟩
  rw [← hTT] at HT hTb hz1 ⊢
  generalize w1.alloc (.cells #[.slice a1 (placesFrom s 0).length c1] 38) = w2 at *
  clear hTT
  have HC := Lib.hid (fun W (h : Below w2.heap.size w2 W) => show (W.cell? ⟨w.heap.size, 0, none⟩ = some (.int .i64 0) ∧ W.cell? ⟨w.heap.size, 1, none⟩ = some (.int .i64 a) ∧ W.cell? ⟨w.heap.size, 2, none⟩ = some (.int .i64 b)) ∧ W.cell? ⟨Tb, 0, none⟩ = some (.slice a1 (placesFrom s 0).length c1) ∧ W.cell? ⟨w.heap.size + 1, 0, none⟩ = some (.bool false) ∧ W.frozen? ⟨w.heap.size + 1, 0, none⟩ = false from
    ⟨block3 ((h.block _ (by omega)).trans HKK.out), (HT.out.kept (below_grown h) (by simp)).cell, (HR.out.kept (below_grown h) (by simp)).cell, (HR.out.kept (below_grown h) (by simp)).frozen⟩)
  obtain ⟨⟨d0, d1, d2⟩, ht, hr, hf⟩ := HC.out w2 (Below.refl _ _)
  obtain ⟨x, hx⟩ : ∃ x, x = byteOf s a := ⟨_, rfl⟩
  have H1 := Lib.hid (fun W hp => byte_any W B s hp a)
  have H2 := Lib.hid (fun W => rbyte_any W s (by omega) a)
  rw [← hx] at H1 H2
  clear hx
  obtain ⟨x, c⟩ := x
  have e1 : ((x : Int) == x) = true := by simp
  have e2 : ((c : Int) == c) = true := by simp
  go_wp2_with fail
  refine (H1.out _ HP.out).mono ?_
  rintro e w' ⟨rfl, rfl⟩
  go_wp2_with fail
  refine (H2.out _).mono ?_
  rintro e w4 ⟨rfl, hb4⟩
  have HBX := Lib.hid hb4
  clear hb4
  clear d0 d1 d2 ht hr hf
  obtain ⟨⟨d0, d1, d2⟩, ht, hr, hf⟩ := HC.out _ HBX.out
  go_wp2_with fail
  have X1 := ((HR.out.kept (below_grown HBX.out) (by simp)).set (.bool true)).cell
  refine ⟨.bool true, ?_, rfl, (after HB.out HBX.out).setCell (p := ⟨w.heap.size + 1, 0, none⟩) (Nat.le_succ _) _⟩
  simp [results, Tryd.f43, go_sem, X1]

set_option maxRecDepth 100000 in
set_option maxHeartbeats 4000000 in
theorem ask_one (w : World) (B : Nat) (s : ByteArray) (hs : s.size ≤ 65536) (hp : PlacesAt w B s) (a b : Int) :
    CallsIn Fence.wide 5 Tryd.prog 43 #[.pointer (some ⟨B, 0, none⟩), .string s, .agg #[.int .i64 1, .int .i64 a, .int .i64 b]] w fun e W' => e = .returned (.bool true) ∧ Below w.heap.size w W' := by
  have HPP := Lib.hid hp
  have hle := places_le s
  have HRS := Lib.hid (fun w => rspots_any w s (by omega))
  clear hp
  refine callsIn_of_wp_marks Tryd.func43 rfl trivial ?_ rfl
  simp only [Tryd.ntmps43, List.size_toArray, List.length_cons, List.length_nil, Nat.reduceAdd, Nat.reduceSub, Array.replicate_succ, Array.replicate_zero, List.push_toArray, List.append_toArray, List.nil_append, List.cons_append]
  refine wpIn_wide.2 ?_
  go_wp2_with fail
  have k0 : ((w.alloc (.cells #[.int .i64 1, .int .i64 a, .int .i64 b] 70)).alloc (.cells #[.bool false] 4)).heap[w.heap.size]? = some (.cells #[.int .i64 1, .int .i64 a, .int .i64 b] 70 (0, 0)) := (Below.heap_alloc _ _ _ (by simp)).trans (World.alloc_heap_new w _)
  have b0 := Boxed.new (w.alloc (.cells #[.int .i64 1, .int .i64 a, .int .i64 b] 70)) 4 (.bool false)
  rw [World.size_alloc] at b0
  have hbw : Below w.heap.size w ((w.alloc (.cells #[.int .i64 1, .int .i64 a, .int .i64 b] 70)).alloc (.cells #[.bool false] 4)) := ((Below.refl _ _).alloc (Nat.le_refl _) _).alloc (by simp) _
  refine (HRS.out _).mono ?_
  rintro e w1 ⟨a1, c1, rfl, hown, hb1⟩
  have hK1 := ((hb1.block w.heap.size (by simp; omega)).trans k0)
  have hR1 := b0.kept (below_grown hb1) (by simp)
  have hB1 := after hbw hb1
  have hz1 : w.heap.size + 1 < w1.heap.size := hR1.lt
  have HKK := Lib.hid ((Below.heap_alloc w1 (.cells #[.slice a1 (placesFrom s 0).length c1] 38) w.heap.size (by omega)).trans hK1)
  have HR := Lib.hid (hR1.alloc (.cells #[.slice a1 (placesFrom s 0).length c1] 38))
  have HT := Lib.hid (Boxed.new w1 38 (.slice a1 (placesFrom s 0).length c1))
  have HO := Lib.hid (hown.alloc (.cells #[.slice a1 (placesFrom s 0).length c1] 38))
  have HB := Lib.hid (hB1.alloc hB1.size (.cells #[.slice a1 (placesFrom s 0).length c1] 38))
  have hTb : w1.heap.size < (w1.alloc (.cells #[.slice a1 (placesFrom s 0).length c1] 38)).heap.size := by simp
  have HP := Lib.hid (HPP.out.below HB.out)
  clear k0 b0 hbw hown hb1 hK1 hR1 hB1
  go_upto_region 2 with (fail)
  obtain ⟨Tb, hTT⟩ : ∃ x, x = w1.heap.size := ⟨_, rfl⟩
  rw [← hTT] at HT hTb hz1 ⊢
  generalize w1.alloc (.cells #[.slice a1 (placesFrom s 0).length c1] 38) = w2 at *
  clear hTT
  have HC := Lib.hid (fun W (h : Below w2.heap.size w2 W) => show (W.cell? ⟨w.heap.size, 0, none⟩ = some (.int .i64 1) ∧ W.cell? ⟨w.heap.size, 1, none⟩ = some (.int .i64 a) ∧ W.cell? ⟨w.heap.size, 2, none⟩ = some (.int .i64 b)) ∧ W.cell? ⟨Tb, 0, none⟩ = some (.slice a1 (placesFrom s 0).length c1) ∧ W.cell? ⟨w.heap.size + 1, 0, none⟩ = some (.bool false) ∧ W.frozen? ⟨w.heap.size + 1, 0, none⟩ = false from
    ⟨block3 ((h.block _ (by omega)).trans HKK.out), (HT.out.kept (below_grown h) (by simp)).cell, (HR.out.kept (below_grown h) (by simp)).cell, (HR.out.kept (below_grown h) (by simp)).frozen⟩)
  obtain ⟨⟨d0, d1, d2⟩, ht, hr, hf⟩ := HC.out w2 (Below.refl _ _)
  obtain ⟨x, hx⟩ : ∃ x, x = hasOf s a := ⟨_, rfl⟩
  have H1 := Lib.hid (fun W hp => at_any W B s (by omega) hp a)
  have H2 := Lib.hid (fun W => rhas_any W s (by omega) a)
  rw [← hx] at H1 H2
  clear hx
  obtain ⟨x, c⟩ := x
  have e1 : ((x : Int) == x) = true := by simp
  have e2 : ((c : Int) == c) = true := by simp
  go_wp2_with fail
  refine (H1.out _ HP.out).mono ?_
  rintro e w3 ⟨rfl, hb3⟩
  have HBX := Lib.hid hb3
  clear d0 d1 d2 ht hr hf
  obtain ⟨⟨d0, d1, d2⟩, ht, hr, hf⟩ := HC.out _ HBX.out
  go_wp2_with fail
  refine (H2.out _).mono ?_
  rintro e w4 ⟨rfl, hb4⟩
  have HBX := Lib.hid (after hb3 hb4)
  clear hb3 hb4
  clear d0 d1 d2 ht hr hf
  obtain ⟨⟨d0, d1, d2⟩, ht, hr, hf⟩ := HC.out _ HBX.out
  go_wp2_with fail
  have X1 := ((HR.out.kept (below_grown HBX.out) (by simp)).set (.bool true)).cell
  refine ⟨.bool true, ?_, rfl, (after HB.out HBX.out).setCell (p := ⟨w.heap.size + 1, 0, none⟩) (Nat.le_succ _) _⟩
  simp [results, Tryd.f43, go_sem, X1]

end Go.Proofs.YthkehgmeaedflaaDoor
