/-
  One question of a text's places, held against the reference: walked (printed by gask.py).
-/
import Derived.Test.YthkehgmeaedflaaDoorRAsk
import Derived.Test.YthkehgmeaedflaaDoorWalk
import Derived.Test.YthkehgmeaedflaaDoorLostM
import Derived.Deep.CutBlock
import Derived.Test.YthkehgmeaedflaaDoorAsk
namespace Go.Proofs.YthkehgmeaedflaaDoor
open Go.RowKit Go.Shelf
set_option linter.unusedVariables false
attribute [local go_sem] Oper.semAt_some


/-- Is the byte the end, or where one of the first characters begins? -/
def seenB (n : Nat) (L : List Nat) (a : Int) (k : Nat) : Bool := (a == (n : Int)) || (L.take k).any (fun x : Nat => (x : Int) == a)
theorem seen_zero (n : Nat) (L : List Nat) (a : Int) : seenB n L a 0 = (a == (n : Int)) := by simp [seenB]
theorem seen_step (n : Nat) {L : List Nat} (a : Int) {k x : Nat} (h : L[k]? = some x) : seenB n L a (k + 1) = (seenB n L a k || ((x : Int) == a)) := by
  unfold seenB
  rw [List.take_add_one, h, List.any_append, Bool.or_assoc]
  simp
theorem seen_all (s : ByteArray) (a : Int) : seenB s.size (placesFrom s 0) a (placesFrom s 0).length = startsB s a := by
  rw [startsB_eq, Bool.eq_iff_iff]
  unfold seenB
  rw [List.take_of_length_le (Nat.le_refl _)]
  simp

set_option maxRecDepth 100000 in
set_option maxHeartbeats 4000000 in
theorem ask_two (w : World) (B : Nat) (s : ByteArray) (hs : s.size ≤ 65536) (hp : PlacesAt w B s) (a b : Int) :
    CallsIn Fence.wide 5 Tryd.prog 43 #[.pointer (some ⟨B, 0, none⟩), .string s, .agg #[.int .i64 2, .int .i64 a, .int .i64 b]] w fun e W' => e = .returned (.bool true) ∧ Below w.heap.size w W' := by
  have HPP := Lib.hid hp
  have hle := places_le s
  have HRS := Lib.hid (fun w => rspots_any w s (by omega))
  clear hp
  refine callsIn_of_wp_marks Tryd.func43 rfl trivial ?_ rfl
  simp only [Tryd.ntmps43, List.size_toArray, List.length_cons, List.length_nil, Nat.reduceAdd, Nat.reduceSub, Array.replicate_succ, Array.replicate_zero, List.push_toArray, List.append_toArray, List.nil_append, List.cons_append]
  refine wpIn_wide.2 ?_
  go_wp2_with fail
  have k0 : ((w.alloc (.cells #[.int .i64 2, .int .i64 a, .int .i64 b] 70)).alloc (.cells #[.bool false] 4)).heap[w.heap.size]? = some (.cells #[.int .i64 2, .int .i64 a, .int .i64 b] 70 (0, 0)) := (Below.heap_alloc _ _ _ (by simp)).trans (World.alloc_heap_new w _)
  have b0 := Boxed.new (w.alloc (.cells #[.int .i64 2, .int .i64 a, .int .i64 b] 70)) 4 (.bool false)
  rw [World.size_alloc] at b0
  have hbw : Below w.heap.size w ((w.alloc (.cells #[.int .i64 2, .int .i64 a, .int .i64 b] 70)).alloc (.cells #[.bool false] 4)) := ((Below.refl _ _).alloc (Nat.le_refl _) _).alloc (by simp) _
  refine (HRS.out _).mono ?_
  rintro e w1 ⟨a1, c1, rfl, hown, hb1⟩
  have hK1 := ((hb1.block w.heap.size (by simp; omega)).trans k0)
  have hR1 := b0.kept (below_grown hb1) (by simp)
  have hB1 := after hbw hb1
  have hz1 : w.heap.size + 1 < w1.heap.size := hR1.lt
  have HKK := Lib.hid ((Below.heap_alloc w1 (.cells #[.slice a1 (placesFrom s 0).length c1] 38) w.heap.size (by omega)).trans hK1)
  have HR := Lib.hid (hR1.alloc (.cells #[.slice a1 (placesFrom s 0).length c1] 38))
  have HT := Lib.hid (Boxed.new w1 38 (.slice a1 (placesFrom s 0).length c1))
  have HO := Lib.hid (hown.alloc (.cells #[.slice a1 (placesFrom s 0).length c1] 38))
  have HB := Lib.hid (hB1.alloc hB1.size (.cells #[.slice a1 (placesFrom s 0).length c1] 38))
  have hTb : w1.heap.size < (w1.alloc (.cells #[.slice a1 (placesFrom s 0).length c1] 38)).heap.size := by simp
  have HP := Lib.hid (HPP.out.below HB.out)
  clear k0 b0 hbw hown hb1 hK1 hR1 hB1
  go_upto_region 2 with (fail)
  obtain ⟨Tb, hTT⟩ : ∃ x, x = w1.heap.size := ⟨_, rfl⟩
  rw [← hTT] at HT hTb hz1 ⊢
  generalize w1.alloc (.cells #[.slice a1 (placesFrom s 0).length c1] 38) = w2 at *
  clear hTT
  have HC := Lib.hid (fun W (h : Below w2.heap.size w2 W) => show (W.cell? ⟨w.heap.size, 0, none⟩ = some (.int .i64 2) ∧ W.cell? ⟨w.heap.size, 1, none⟩ = some (.int .i64 a) ∧ W.cell? ⟨w.heap.size, 2, none⟩ = some (.int .i64 b)) ∧ W.cell? ⟨Tb, 0, none⟩ = some (.slice a1 (placesFrom s 0).length c1) ∧ W.cell? ⟨w.heap.size + 1, 0, none⟩ = some (.bool false) ∧ W.frozen? ⟨w.heap.size + 1, 0, none⟩ = false from
    ⟨block3 ((h.block _ (by omega)).trans HKK.out), (HT.out.kept (below_grown h) (by simp)).cell, (HR.out.kept (below_grown h) (by simp)).cell, (HR.out.kept (below_grown h) (by simp)).frozen⟩)
  obtain ⟨⟨d0, d1, d2⟩, ht, hr, hf⟩ := HC.out w2 (Below.refl _ _)
  obtain ⟨L, hL⟩ : ∃ L, L = placesFrom s 0 := ⟨_, rfl⟩
  have HS := seen_all s a
  rw [← hL] at HS HO HC ht hle ⊢
  have H1 := fun W hp => begins_any W B s (by omega) hp a
  rw [← HS] at H1
  have H1 := Lib.hid H1
  have HSA := Lib.hid HS
  clear hL HS
  go_wp2_with fail
  rw [← seen_zero s.size L a]
  go_loopw [16, 17] (fun v i wr => ∃ k : Nat, k ≤ L.length ∧ v = .bool (seenB s.size L a k) ∧ i = .int .i64 k ∧ Hid (Below w2.heap.size w2 wr)) (fun _ i _ => L.length - (intOf i).toNat)
  case atStart => exact ⟨0, Nat.zero_le _, rfl, rfl, Lib.hid (Below.refl _ _)⟩
  case round =>
    obtain ⟨k, hk, rfl, rfl, HBX⟩ := hrel
    have hk0 : (0 : Int) ≤ (k : Int) := by omega
    clear d0 d1 d2 ht hr hf
    obtain ⟨⟨d0, d1, d2⟩, ht, hr, hf⟩ := HC.out _ HBX.out
    by_cases hlt : k < L.length
    · have h1 : (k : Int) < (L.length : Int) := by omega
      obtain ⟨x, hx⟩ : ∃ x, L[k]? = some x := ⟨_, List.getElem?_eq_getElem hlt⟩
      obtain ⟨g, rfl, p0, p1, p2, p3⟩ := spot_cells (HO.out.below HBX.out) hx
      have HSS := Lib.hid (seen_step s.size a hx)
      clear hx p1 p2 p3
      cases hv : seenB s.size L a k
      · rw [hv] at HSS
        go_wp2
        go_quiet (fail)
        have HBQ := Lib.hid (below_drewN HBX.out nq)
        go_wp2
        go_roundw
        case rel => exact ⟨k + 1, by omega, by rw [HSS.out]; rfl, by go_num, HBQ⟩
        case measure => simp [intOf]; omega
      · rw [hv] at HSS
        go_wp2
        go_quiet (fail)
        have HBQ := Lib.hid (below_drewN HBX.out nq)
        go_wp2
        go_roundw
        case rel => exact ⟨k + 1, by omega, by rw [HSS.out]; rfl, by go_num, HBQ⟩
        case measure => simp [intOf]; omega
    · obtain rfl : k = L.length := by omega
      generalize seenB s.size L a L.length = v at *
      have e1 : (v == v) = true := by simp
      go_wp2_with fail
      refine (H1.out _ (HP.out.below HBX.out)).mono ?_
      rintro e w5 ⟨rfl, hb5⟩
      have HBX := Lib.hid (after HBX.out hb5)
      clear d0 d1 d2 ht hr hf hb5
      obtain ⟨⟨d0, d1, d2⟩, ht, hr, hf⟩ := HC.out _ HBX.out
      go_wp2_with fail
      have X1 := ((HR.out.kept (below_grown HBX.out) (by simp)).set (.bool true)).cell
      refine ⟨.bool true, ?_, rfl, (after HB.out HBX.out).setCell (p := ⟨w.heap.size + 1, 0, none⟩) (Nat.le_succ _) _⟩
      simp [results, Tryd.f43, go_sem, X1]

end Go.Proofs.YthkehgmeaedflaaDoor
