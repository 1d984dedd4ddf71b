/-
  One question of a text's places, held against the reference: walked (printed by gask.py).
-/
import Derived.Test.YthkehgmeaedflaaDoorRAsk
import Derived.Test.YthkehgmeaedflaaDoorWalk
import Derived.Test.YthkehgmeaedflaaDoorLostM
import Derived.Deep.CutBlock
import Derived.Test.YthkehgmeaedflaaDoorAsk
import Derived.Deep.RegionHeld3
namespace Go.Proofs.YthkehgmeaedflaaDoor
open Go.RowKit Go.Shelf
set_option linter.unusedVariables false
attribute [local go_sem] Oper.semAt_some


set_option maxRecDepth 100000 in
set_option maxHeartbeats 4000000 in
theorem ask_else (w : World) (B : Nat) (s : ByteArray) (hs : s.size ≤ 65536) (hp : PlacesAt w B s) (d a b : Int) (hd : d < 0 ∨ 5 < d) :
    CallsIn Fence.wide 5 Tryd.prog 43 #[.pointer (some ⟨B, 0, none⟩), .string s, .agg #[.int .i64 d, .int .i64 a, .int .i64 b]] w fun e W' => e = .returned (.bool true) ∧ Below w.heap.size w W' := by
  have HPP := Lib.hid hp
  have hle := places_le s
  have HRS := Lib.hid (fun w => rspots_any w s (by omega))
  clear hp
  refine callsIn_of_wp_marks Tryd.func43 rfl trivial ?_ rfl
  simp only [Tryd.ntmps43, List.size_toArray, List.length_cons, List.length_nil, Nat.reduceAdd, Nat.reduceSub, Array.replicate_succ, Array.replicate_zero, List.push_toArray, List.append_toArray, List.nil_append, List.cons_append]
  refine wpIn_wide.2 ?_
  have n0 : ((d : Int) == 0) = false := by simp; omega
  have n1 : ((d : Int) == 1) = false := by simp; omega
  have n2 : ((d : Int) == 2) = false := by simp; omega
  have n3 : ((d : Int) == 3) = false := by simp; omega
  have n4 : ((d : Int) == 4) = false := by simp; omega
  have n5 : ((d : Int) == 5) = false := by simp; omega
  go_wp2_with fail
  have k0 : ((w.alloc (.cells #[.int .i64 d, .int .i64 a, .int .i64 b] 70)).alloc (.cells #[.bool false] 4)).heap[w.heap.size]? = some (.cells #[.int .i64 d, .int .i64 a, .int .i64 b] 70 (0, 0)) := (Below.heap_alloc _ _ _ (by simp)).trans (World.alloc_heap_new w _)
  have b0 := Boxed.new (w.alloc (.cells #[.int .i64 d, .int .i64 a, .int .i64 b] 70)) 4 (.bool false)
  rw [World.size_alloc] at b0
  have hbw : Below w.heap.size w ((w.alloc (.cells #[.int .i64 d, .int .i64 a, .int .i64 b] 70)).alloc (.cells #[.bool false] 4)) := ((Below.refl _ _).alloc (Nat.le_refl _) _).alloc (by simp) _
  refine (HRS.out _).mono ?_
  rintro e w1 ⟨a1, c1, rfl, hown, hb1⟩
  have hK1 := ((hb1.block w.heap.size (by simp; omega)).trans k0)
  have hR1 := b0.kept (below_grown hb1) (by simp)
  have hB1 := after hbw hb1
  have hz1 : w.heap.size + 1 < w1.heap.size := hR1.lt
  have HKK := Lib.hid ((Below.heap_alloc w1 (.cells #[.slice a1 (placesFrom s 0).length c1] 38) w.heap.size (by omega)).trans hK1)
  have HR := Lib.hid (hR1.alloc (.cells #[.slice a1 (placesFrom s 0).length c1] 38))
  have HT := Lib.hid (Boxed.new w1 38 (.slice a1 (placesFrom s 0).length c1))
  have HO := Lib.hid (hown.alloc (.cells #[.slice a1 (placesFrom s 0).length c1] 38))
  have HB := Lib.hid (hB1.alloc hB1.size (.cells #[.slice a1 (placesFrom s 0).length c1] 38))
  have hTb : w1.heap.size < (w1.alloc (.cells #[.slice a1 (placesFrom s 0).length c1] 38)).heap.size := by simp
  have HP := Lib.hid (HPP.out.below HB.out)
  clear k0 b0 hbw hown hb1 hK1 hR1 hB1
  go_upto_region 2 with (fail)
  obtain ⟨Tb, hTT⟩ : ∃ x, x = w1.heap.size := ⟨_, rfl⟩
  rw [← hTT] at HT hTb hz1 ⊢
  generalize w1.alloc (.cells #[.slice a1 (placesFrom s 0).length c1] 38) = w2 at *
  clear hTT
  have HC := Lib.hid (fun W (h : Below w2.heap.size w2 W) => show (W.cell? ⟨w.heap.size, 0, none⟩ = some (.int .i64 d) ∧ W.cell? ⟨w.heap.size, 1, none⟩ = some (.int .i64 a) ∧ W.cell? ⟨w.heap.size, 2, none⟩ = some (.int .i64 b)) ∧ W.cell? ⟨Tb, 0, none⟩ = some (.slice a1 (placesFrom s 0).length c1) ∧ W.cell? ⟨w.heap.size + 1, 0, none⟩ = some (.bool false) ∧ W.frozen? ⟨w.heap.size + 1, 0, none⟩ = false from
    ⟨block3 ((h.block _ (by omega)).trans HKK.out), (HT.out.kept (below_grown h) (by simp)).cell, (HR.out.kept (below_grown h) (by simp)).cell, (HR.out.kept (below_grown h) (by simp)).frozen⟩)
  obtain ⟨⟨d0, d1, d2⟩, ht, hr, hf⟩ := HC.out w2 (Below.refl _ _)
  have H1 := Lib.hid (fun W hp => text_any W B s hp)
  have H2 := Lib.hid (fun W hp => len_any W B s hp)
  have e1 : (((placesFrom s 0).length : Int) == ((placesFrom s 0).length : Int)) = true := by simp
  have e2 : (s.toList == s.toList) = true := by simp
  go_wp2_with fail
  have HBX := Lib.hid ((Below.refl w2.heap.size w2).drew)
  have HLW := Lib.hid (fun W (h : Below w2.heap.size w2 W) => HP.out.below h)
  have hne : w.heap.size + 1 ≠ Tb := by omega
  go_region_held3 (fun w' => w'.cell? ⟨Tb, 0, none⟩ = some (.slice a1 (placesFrom s 0).length c1)) (first | go_keep | exact (HC.out _ HBX.out).2.1)
    (first
      | (go_at_call 49; (with_reducible refine (H1.out _ (HLW.out _ HBX.out)).mono ?_); rintro e wA ⟨rfl, rfl⟩)
      | (go_at_call 50; (with_reducible refine (H2.out _ (HLW.out _ HBX.out)).mono ?_); rintro e wB ⟨rfl, rfl⟩; have hrc := (HC.out _ HBX.out).2.2.1; have hrf := (HC.out _ HBX.out).2.2.2))
  have hX := (HR.out.set (.bool true)).kept (below_grown (Below.refl (w2.setCell ⟨w.heap.size + 1, 0, none⟩ (.bool true)).heap.size (w2.setCell ⟨w.heap.size + 1, 0, none⟩ (.bool true))).drew) (by simp)
  have X1 := hX.cell
  go_wp2_with fail
  refine ⟨.bool true, ?_, rfl, (HB.out.setCell (p := ⟨w.heap.size + 1, 0, none⟩) (Nat.le_succ _) _).drew⟩
  simp [results, Tryd.f43, go_sem, X1]

end Go.Proofs.YthkehgmeaedflaaDoor
