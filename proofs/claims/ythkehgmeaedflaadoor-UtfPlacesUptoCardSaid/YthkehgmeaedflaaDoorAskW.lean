/-
  One question of a text's places, held against the reference: walked (printed by gask.py).
-/
import Derived.Test.YthkehgmeaedflaaDoorRAsk
import Derived.Test.YthkehgmeaedflaaDoorWalk
import Derived.Test.YthkehgmeaedflaaDoorLostM
import Derived.Deep.CutBlock
import Derived.Test.YthkehgmeaedflaaDoorAsk
import Derived.Test.YthkehgmeaedflaaDoorAll
namespace Go.Proofs.YthkehgmeaedflaaDoor
open Go.RowKit Go.Shelf
set_option linter.unusedVariables false
attribute [local go_sem] Oper.semAt_some


theorem walkF_len : ∀ (l : List Int) (k : Nat), (walkF l k).length = l.length
  | [], _ => rfl
  | _ :: l, k => by rw [walkF, List.length_cons, walkF_len l (k + 1), List.length_cons]
theorem walkL_len (l : List Int) (k : Nat) : (walkL l k).length = l.length - k := by unfold walkL; rw [walkF_len, List.length_drop]
theorem walkF_at : ∀ (l : List Int) (k i : Nat), (walkF l k)[i]? = (l[i]?).map fun r => (k + i, r)
  | [], _, i => by simp [walkF]
  | x :: l, k, 0 => rfl
  | x :: l, k, i + 1 => by
    rw [walkF, List.getElem?_cons_succ, List.getElem?_cons_succ, walkF_at l (k + 1) i]
    congr 1
    funext r
    rw [show k + 1 + i = k + (i + 1) by omega]
theorem walkL_at (l : List Int) (k i : Nat) : (walkL l k)[i]? = (l[k + i]?).map fun r => (k + i, r) := by unfold walkL; rw [walkF_at, List.getElem?_drop]
theorem eq_fn78w (w : World) (f : Fn) (ts bs : Array Value) : (binOp .eql 78 (.func f ts bs) .nilFunc).run Tryd.prog w = .ok (.bool false) w := eq_fn w f ts bs 78 _ _ _ Tryd.underlying78
attribute [local go_sem] eq_fn78w
theorem ask_kept (V w2 : World) (B n0 k0 : Nat) (pre : List (Nat × Int)) (x : Nat × Int) (hn : n0 = w2.heap.size + 1 + 1) (h6 : Boxed V w2.heap.size 3 (.int .i64 ((k0 : Int) + (pre.length : Nat)))) (h7 : Boxed V (w2.heap.size + 1) 3 (.int .i64 (pre.length : Nat))) (hB : Below w2.heap.size w2 V) :
    KeepsFrom B V ((V.setCell ⟨w2.heap.size, 0, none⟩ (.int .i64 ((k0 : Int) + (pre.length : Int) + 1))).setCell ⟨w2.heap.size + 1, 0, none⟩ (.int .i64 ((pre.length : Int) + 1))) ∧
    KeepsP w2.heap.size n0 (n0 + 1) V ((V.setCell ⟨w2.heap.size, 0, none⟩ (.int .i64 ((k0 : Int) + (pre.length : Int) + 1))).setCell ⟨w2.heap.size + 1, 0, none⟩ (.int .i64 ((pre.length : Int) + 1))) ∧
    (Boxed ((V.setCell ⟨w2.heap.size, 0, none⟩ (.int .i64 ((k0 : Int) + (pre.length : Int) + 1))).setCell ⟨w2.heap.size + 1, 0, none⟩ (.int .i64 ((pre.length : Int) + 1))) w2.heap.size 3 (.int .i64 ((k0 : Int) + ((pre ++ [x]).length : Nat))) ∧
      Boxed ((V.setCell ⟨w2.heap.size, 0, none⟩ (.int .i64 ((k0 : Int) + (pre.length : Int) + 1))).setCell ⟨w2.heap.size + 1, 0, none⟩ (.int .i64 ((pre.length : Int) + 1))) (w2.heap.size + 1) 3 (.int .i64 ((pre ++ [x]).length : Nat))) ∧
    Below w2.heap.size w2 ((V.setCell ⟨w2.heap.size, 0, none⟩ (.int .i64 ((k0 : Int) + (pre.length : Int) + 1))).setCell ⟨w2.heap.size + 1, 0, none⟩ (.int .i64 ((pre.length : Int) + 1))) := by
  subst hn
  have hc : ∀ (i : Nat) (v : Value), w2.heap.size + 1 < i → V.cell? ⟨i, 0, none⟩ = some v → ((V.setCell ⟨w2.heap.size, 0, none⟩ (.int .i64 ((k0 : Int) + (pre.length : Int) + 1))).setCell ⟨w2.heap.size + 1, 0, none⟩ (.int .i64 ((pre.length : Int) + 1))).cell? ⟨i, 0, none⟩ = some v := fun i v hi hv =>
    (World.cell?_of_block ((Below.heap_setCell _ ⟨w2.heap.size + 1, 0, none⟩ _ i (by show i ≠ w2.heap.size + 1; omega)).trans (Below.heap_setCell V ⟨w2.heap.size, 0, none⟩ _ i (by show i ≠ w2.heap.size; omega)))).trans hv
  have hb : ∀ {u : World}, Below w2.heap.size u V → Below w2.heap.size u ((V.setCell ⟨w2.heap.size, 0, none⟩ (.int .i64 ((k0 : Int) + (pre.length : Int) + 1))).setCell ⟨w2.heap.size + 1, 0, none⟩ (.int .i64 ((pre.length : Int) + 1))) := fun h => (h.setCell (p := ⟨w2.heap.size, 0, none⟩) (Nat.le_refl _) _).setCell (p := ⟨w2.heap.size + 1, 0, none⟩) (Nat.le_succ _) _
  refine ⟨((KeepsOthers.setCell _ _ _).trans (KeepsOthers.setCell _ _ _)).from _, ⟨hb (Below.refl _ _), fun v hv => hc _ v (by omega) hv, fun v hv => hc _ v (by omega) hv⟩, ⟨?_, ?_⟩, hb hB⟩
  · rw [show (k0 : Int) + (((pre ++ [x]).length : Nat) : Int) = (k0 : Int) + (pre.length : Int) + 1 by simp; omega]
    exact (h6.set _).other (by omega) _
  · rw [show (((pre ++ [x]).length : Nat) : Int) = (pre.length : Int) + 1 by simp]
    exact (h7.other (by omega) _).set _

set_option maxRecDepth 100000 in
set_option maxHeartbeats 4000000 in
theorem ask_five (w : World) (B : Nat) (s : ByteArray) (hs : s.size ≤ 65536) (hp : PlacesAt w B s) (a b : Int) (k0 : Nat) (hk0 : max 0 a = (k0 : Int)) :
    CallsIn Fence.wide 5 Tryd.prog 43 #[.pointer (some ⟨B, 0, none⟩), .string s, .agg #[.int .i64 5, .int .i64 a, .int .i64 b]] w fun e W' => e = .returned (.bool true) ∧ Below w.heap.size w W' := by
  have HPP := Lib.hid hp
  have hle := places_le s
  have HRS := Lib.hid (fun w => rspots_any w s (by omega))
  clear hp
  refine callsIn_of_wp_marks Tryd.func43 rfl trivial ?_ rfl
  simp only [Tryd.ntmps43, List.size_toArray, List.length_cons, List.length_nil, Nat.reduceAdd, Nat.reduceSub, Array.replicate_succ, Array.replicate_zero, List.push_toArray, List.append_toArray, List.nil_append, List.cons_append]
  refine wpIn_wide.2 ?_
  go_wp2_with fail
  have k0 : ((w.alloc (.cells #[.int .i64 5, .int .i64 a, .int .i64 b] 70)).alloc (.cells #[.bool false] 4)).heap[w.heap.size]? = some (.cells #[.int .i64 5, .int .i64 a, .int .i64 b] 70 (0, 0)) := (Below.heap_alloc _ _ _ (by simp)).trans (World.alloc_heap_new w _)
  have b0 := Boxed.new (w.alloc (.cells #[.int .i64 5, .int .i64 a, .int .i64 b] 70)) 4 (.bool false)
  rw [World.size_alloc] at b0
  have hbw : Below w.heap.size w ((w.alloc (.cells #[.int .i64 5, .int .i64 a, .int .i64 b] 70)).alloc (.cells #[.bool false] 4)) := ((Below.refl _ _).alloc (Nat.le_refl _) _).alloc (by simp) _
  refine (HRS.out _).mono ?_
  rintro e w1 ⟨a1, c1, rfl, hown, hb1⟩
  have hK1 := ((hb1.block w.heap.size (by simp; omega)).trans k0)
  have hR1 := b0.kept (below_grown hb1) (by simp)
  have hB1 := after hbw hb1
  have hz1 : w.heap.size + 1 < w1.heap.size := hR1.lt
  have HKK := Lib.hid ((Below.heap_alloc w1 (.cells #[.slice a1 (placesFrom s 0).length c1] 38) w.heap.size (by omega)).trans hK1)
  have HR := Lib.hid (hR1.alloc (.cells #[.slice a1 (placesFrom s 0).length c1] 38))
  have HT := Lib.hid (Boxed.new w1 38 (.slice a1 (placesFrom s 0).length c1))
  have HO := Lib.hid (hown.alloc (.cells #[.slice a1 (placesFrom s 0).length c1] 38))
  have HB := Lib.hid (hB1.alloc hB1.size (.cells #[.slice a1 (placesFrom s 0).length c1] 38))
  have hTb : w1.heap.size < (w1.alloc (.cells #[.slice a1 (placesFrom s 0).length c1] 38)).heap.size := by simp
  have HP := Lib.hid (HPP.out.below HB.out)
  clear k0 b0 hbw hown hb1 hK1 hR1 hB1
  go_upto_region 2 with (fail)
  obtain ⟨Tb, hTT⟩ : ∃ x, x = w1.heap.size := ⟨_, rfl⟩
  rw [← hTT] at HT hTb hz1 ⊢
  generalize w1.alloc (.cells #[.slice a1 (placesFrom s 0).length c1] 38) = w2 at *
  clear hTT
  have HC := Lib.hid (fun W (h : Below w2.heap.size w2 W) => show (W.cell? ⟨w.heap.size, 0, none⟩ = some (.int .i64 5) ∧ W.cell? ⟨w.heap.size, 1, none⟩ = some (.int .i64 a) ∧ W.cell? ⟨w.heap.size, 2, none⟩ = some (.int .i64 b)) ∧ W.cell? ⟨Tb, 0, none⟩ = some (.slice a1 (placesFrom s 0).length c1) ∧ W.cell? ⟨w.heap.size + 1, 0, none⟩ = some (.bool false) ∧ W.frozen? ⟨w.heap.size + 1, 0, none⟩ = false from
    ⟨block3 ((h.block _ (by omega)).trans HKK.out), (HT.out.kept (below_grown h) (by simp)).cell, (HR.out.kept (below_grown h) (by simp)).cell, (HR.out.kept (below_grown h) (by simp)).frozen⟩)
  obtain ⟨⟨d0, d1, d2⟩, ht, hr, hf⟩ := HC.out w2 (Below.refl _ _)
  have hd1b := (HC.out _ (((Below.refl _ w2).alloc (Nat.le_refl _) (.cells #[.int .i64 (k0 : Nat)] 3)).alloc (by simp) (.cells #[.int .i64 0] 3))).1.2.1
  go_wp2_with (go_at_call 48; refine (walk_any _ _ _).mono ?_; rintro e w' ⟨rfl, rfl⟩)
  have hlenT : (textRunes s).length = (placesFrom s 0).length := places_runes s
  have hrunes : textRunes s = (placesFrom s 0).map (runeAt s) := (runeAt_all s s.size 0).symm
  have hwl := walkL_len (textRunes s) k0
  have b26 := (((Boxed.new w2 3 (.int .i64 (k0 : Nat))).alloc (.cells #[.int .i64 0] 3)).alloc (.cells #[.pointer (some ⟨B, 0, none⟩)] 66)).alloc (.cells #[.int .i64 a] 3)
  have b27 := ((Boxed.new (w2.alloc (.cells #[.int .i64 (k0 : Nat)] 3)) 3 (.int .i64 0)).alloc (.cells #[.pointer (some ⟨B, 0, none⟩)] 66)).alloc (.cells #[.int .i64 a] 3)
  have p1 := (Boxed.new ((w2.alloc (.cells #[.int .i64 (k0 : Nat)] 3)).alloc (.cells #[.int .i64 0] 3)) 66 (.pointer (some ⟨B, 0, none⟩))).alloc (.cells #[.int .i64 a] 3)
  have p2 := Boxed.new (((w2.alloc (.cells #[.int .i64 (k0 : Nat)] 3)).alloc (.cells #[.int .i64 0] 3)).alloc (.cells #[.pointer (some ⟨B, 0, none⟩)] 66)) 3 (.int .i64 a)
  simp only [World.size_alloc] at b27 p1 p2
  have hB0 : Below w2.heap.size w2 ((((w2.alloc (.cells #[.int .i64 (k0 : Nat)] 3)).alloc (.cells #[.int .i64 0] 3)).alloc (.cells #[.pointer (some ⟨B, 0, none⟩)] 66)).alloc (.cells #[.int .i64 a] 3)) :=
    ((((Below.refl _ w2).alloc (Nat.le_refl _) _).alloc (by simp) _).alloc (by simp only [World.size_alloc]; omega) _).alloc (by simp only [World.size_alloc]; omega) _
  have hwz : w.heap.size ≤ w2.heap.size := HB.out.size
  obtain ⟨M, hM⟩ : ∃ M, M = walkL (textRunes s) k0 := ⟨_, rfl⟩
  have hstops := walk_stops (5 - 1) (by omega) (w2.heap.size + 1 + 1) (w2.heap.size + 1 + 1 + 1) B s a k0 hk0 w2 _ (by omega) HP.out hB0 (by simp) (by simp) p1.cell p2.cell
  rw [← hM] at hstops hwl
  have HM := Lib.hid hM
  have HRU := Lib.hid hrunes
  have HLT := Lib.hid hlenT
  clear hM hrunes hlenT d0 d1 d2 ht hr hf hd1b
  refine (wpIn_wide (n := 5)).1 ?_
  refine wpIn_rangeFunc_ownG rfl (by omega) (gf := 69) (lb := #[.pointer (some ⟨w2.heap.size + 1 + 1, 0, none⟩), .pointer (some ⟨w2.heap.size + 1 + 1 + 1, 0, none⟩)]) rfl trivial (enters_of Tryd.func69 (by kernel_rfl) rfl)
    hstops (fun h k => h.trans k) (keepsP_b _ _ _ (by simp only [World.size_alloc]; omega) (by simp) (by simp)) (Below.refl _ _) (fun _ => rfl)
    (fun pre V => (Boxed V w2.heap.size 3 (.int .i64 ((k0 : Int) + (pre.length : Nat))) ∧ Boxed V (w2.heap.size + 1) 3 (.int .i64 (pre.length : Nat))) ∧ Below w2.heap.size w2 V)
    (fun c pre V => ((c = .ret ∧ Boxed V (w.heap.size + 1) 4 (.bool true)) ∧ Below w.heap.size w V) ∨ ∃ (pre' : List (Nat × Int)) (x : Nat × Int), pre = pre' ++ [x] ∧ ¬ M[pre'.length]? = some x)
    (OwnFrom.and (Own.from (fun pre A B row hs hg hr => ⟨boxed_own _ _ (fun pre : List (Nat × Int) => .int .i64 ((k0 : Int) + (pre.length : Nat))) pre A B row hs.1 hg hr, boxed_own _ _ (fun pre : List (Nat × Int) => .int .i64 (pre.length : Nat)) pre A B row hs.2 hg hr⟩) _) (ownFrom_below (Nat.le_refl _) (by simp only [World.size_alloc]; omega)))
    (fun c pre A B row hs hg hr => hs.imp (fun h => ⟨⟨h.1.1, boxed_own _ _ (fun _ : Unit => _) () A B row h.1.2 hg (fun r e => (hr r e).2)⟩, ownFrom_below (Nat.le_refl w.heap.size) (show w.heap.size ≤ _ by simp only [World.size_alloc]; omega) () A B row h.2 hg hr⟩) id)
    ⟨⟨by simpa using b26, b27⟩, hB0⟩
    (fun x => { tmps := #[.pointer (some ⟨B, 0, none⟩), .string s, .agg #[.int .i64 5, .int .i64 a, .int .i64 b], undef, undef, .pointer (some ⟨w.heap.size, 0, none⟩), .pointer (some ⟨w.heap.size + 1, 0, none⟩), .pointer (some ⟨Tb, 0, none⟩), undef, undef, undef, undef, undef, undef, undef, undef, undef, undef, undef, undef, undef, undef, undef, undef, undef, undef, .pointer (some ⟨w2.heap.size, 0, none⟩), .pointer (some ⟨w2.heap.size + 1, 0, none⟩), .func (.func 69) #[] #[.pointer (some ⟨w2.heap.size + 1 + 1, 0, none⟩), .pointer (some ⟨w2.heap.size + 1 + 1 + 1, 0, none⟩)], .int .i64 (x.1 : Int), .int .i32 x.2, .string s, .slice a1 (placesFrom s 0).length c1, .pointer (some ⟨w.heap.size, 0, none⟩), .int .i64 5, .bool false, .bool false, undef, undef, undef, undef, undef, undef, undef, undef, undef, undef, undef, undef, undef, undef, undef, undef, undef, undef, undef, undef, undef, undef, .bool false, .bool false, undef, undef, undef, undef, undef, undef, undef, undef, undef, undef, undef, undef, undef, undef, undef, undef, undef, undef, undef, undef, undef, undef, .bool false, .bool false, undef, undef, undef, undef, undef, undef, undef, undef, undef, undef, undef, undef, undef, undef, undef, undef, undef, undef, undef, undef, undef, undef, undef, undef, undef, undef, undef, undef, .bool false, .bool false, undef, undef, undef, undef, undef, undef, undef, undef, undef, undef, undef, undef, undef, undef, undef, undef, undef, undef, undef, undef, undef, undef, undef, undef, undef, undef, undef, undef, undef, undef, undef, undef, undef, undef, undef, .bool false, .bool false, undef, undef, undef, undef, undef, undef, undef, undef, undef, undef, undef, undef, undef, undef, undef, undef, undef, undef, undef, undef, undef, undef, undef, undef, undef, undef, undef, undef, undef, undef, undef, undef, undef, undef, undef, undef, undef, undef, undef, undef, undef, undef, undef, undef, undef, undef, undef, undef, undef, undef, undef, undef, undef, undef, undef, undef, .bool true, .bool true, .pointer (some ⟨w.heap.size, 1, none⟩), .int .i64 a, .int .i64 ↑k0, .pointer (some ⟨B, 0, none⟩), .pointer (some ⟨w.heap.size, 1, none⟩), .int .i64 a, .func (.func 69) #[] #[.pointer (some ⟨w2.heap.size + 1 + 1, 0, none⟩), .pointer (some ⟨w2.heap.size + 1 + 1 + 1, 0, none⟩)], .func (.func 69) #[] #[.pointer (some ⟨w2.heap.size + 1 + 1, 0, none⟩), .pointer (some ⟨w2.heap.size + 1 + 1 + 1, 0, none⟩)], .bool false, .func (.func 69) #[] #[.pointer (some ⟨w2.heap.size + 1 + 1, 0, none⟩), .pointer (some ⟨w2.heap.size + 1 + 1 + 1, 0, none⟩)], .int .i64 (x.1 : Int), .int .i32 x.2, undef, undef, undef, undef, undef, undef, undef, undef, undef, undef, undef, undef, undef, undef, undef, undef, undef, undef, undef, undef, undef, undef, undef, undef, undef, undef, undef, undef, undef, undef, undef, undef, undef, undef, undef, undef, undef, undef, undef, undef, undef, undef, undef, undef, undef, undef, undef, undef, undef, undef, undef, undef, undef], defers := [] }) ?assign ?body ?done ?stop
  case assign =>
    intro l x V K hK
    gi_wp2
    exact hK
  case stop =>
    rintro D c pre V hD hpre (⟨⟨rfl, hb⟩, hB⟩ | ⟨pre', x, rfl, hbad⟩) hK
    · clear b26 b27 p1 p2 hB0 hstops
      gi_wp2
      refine ⟨by simp, .inl ⟨_, _, rfl, run_takeDeferred hK, ?_⟩⟩
      have hk5 := cell_kept hb.cell (grownBy_putObj' _ D (.deferred none)) (fun r e => by cases e; exact ⟨_, hK, rfl⟩)
      refine ⟨.bool true, ?_, rfl, hB.trans (belowK_b (w := w) (Nat.le_refl _) V D _ _ (by simp only [World.size_alloc] at hD; omega) hK rfl rfl)⟩
      simp [results, Tryd.f43, go_sem, hk5]
    · refine (hbad ?_).elim
      obtain ⟨r, hr⟩ := hpre
      rw [← hr]
      simp
  case body =>
    rintro l pre ⟨xk, xr⟩ V ⟨⟨hv6, hv7⟩, hB⟩ hlt
    simp only at *
    have HV6 := Lib.hid hv6
    have HV7 := Lib.hid hv7
    have HBV := Lib.hid hB
    have hpl : pre.length < (placesFrom s 0).length - k0 := by rw [← HLT.out, ← hwl]; exact hlt
    have hkl : k0 + pre.length < (placesFrom s 0).length := by omega
    obtain ⟨p, hp⟩ : ∃ p, (placesFrom s 0)[k0 + pre.length]? = some p := ⟨_, List.getElem?_eq_getElem hkl⟩
    have hMx : M[pre.length]? = some (k0 + pre.length, runeAt s p) := by rw [HM.out, walkL_at, HRU.out, List.getElem?_map, hp]; rfl
    obtain ⟨g, hg, q0, q1, q2, q3⟩ := spot_cells (HO.out.below hB) hp
    subst hg
    obtain ⟨⟨d0, d1, d2⟩, ht, hr, hf⟩ := HC.out V hB
    have hc6 := hv6.cell
    have hc7 := hv7.cell
    have hf6 := hv6.frozen
    have hf7 := hv7.frozen
    have hkn : (k0 : Int) + (pre.length : Int) < ((placesFrom s 0).length : Int) := by omega
    have hk00 : (0 : Int) ≤ (k0 : Int) + (pre.length : Int) := by omega
    have htn : ((k0 : Int) + (pre.length : Int)).toNat = k0 + pre.length := by omega
    have hge : decide (((placesFrom s 0).length : Int) ≤ (k0 : Int) + (pre.length : Int)) = false := by simp; omega
    have hpm : pre.length ≤ 65536 := by omega
    have hkm : k0 ≤ 65536 := by omega
    have hX6 := Lib.hid (show Boxed (V.setCell ⟨w2.heap.size, 0, none⟩ (.int .i64 ((k0 : Int) + (pre.length : Int) + 1))) (w2.heap.size + 1) 3 (.int .i64 (pre.length : Nat)) from hv7.other (by omega) _)
    have hc7b := hX6.out.cell
    have hf7b := hX6.out.frozen
    have HB6 := Lib.hid (hB.setCell (p := ⟨w2.heap.size, 0, none⟩) (Nat.le_refl _) (.int .i64 ((k0 : Int) + (pre.length : Int) + 1)))
    have hX7 := Lib.hid (hX6.out.set (.int .i64 ((pre.length : Int) + 1)))
    have HB7 := Lib.hid (HB6.out.setCell (p := ⟨w2.heap.size + 1, 0, none⟩) (by simp) (.int .i64 ((pre.length : Int) + 1)))
    obtain ⟨⟨_, _, d2b⟩, _, hr7, hf7c⟩ := HC.out _ HB7.out
    have hc7d := hX7.out.cell
    have HMX := Lib.hid hMx
    clear b26 b27 p1 p2 hB0 hstops hv6 hv7 hB hlt hp hMx
    by_cases hx1 : xk = k0 + pre.length
    · have e1 : ((xk : Int) != (k0 : Int) + (pre.length : Int)) = false := by simp; omega
      by_cases hx2 : xr = runeAt s p
      · have e2 : ((xr : Int) != ((Utf8.decode s p).1 : Int)) = false := by simp [hx2, runeAt]
        clear hx1 hx2
        generalize (Utf8.decode s p).1 = r at *
        have hRV := Lib.hid ((HB7.out.block (w.heap.size + 1) (by omega)).trans HR.out)
        have HBW := Lib.hid (HB.out.trans (HB7.out.mono hwz))
        by_cases hb : 0 ≤ b
        · by_cases hb2 : b < (pre.length : Int) + 1
          · gi_wp2
            exact ⟨(((KeepsOthers.setCell _ _ _).trans (KeepsOthers.setCell _ _ _)).trans (KeepsOthers.setCell _ _ _)).from _, .inl ⟨⟨rfl, (show Boxed _ _ 4 _ from hRV.out).set _⟩, HBW.out.setCell (p := ⟨w.heap.size + 1, 0, none⟩) (Nat.le_succ _) _⟩⟩
          · have hb3 : (pre.length : Int) + 1 ≤ b := by omega
            clear hb2
            gi_wp2
            exact ask_kept V w2 _ _ k0 pre (xk, xr) rfl HV6.out HV7.out HBV.out
        · have hb3 : b < 0 := by omega
          clear hb
          gi_wp2
          exact ask_kept V w2 _ _ k0 pre (xk, xr) rfl HV6.out HV7.out HBV.out
      · have e2 : ((xr : Int) != ((Utf8.decode s p).1 : Int)) = true := by
          have : ¬ xr = ((Utf8.decode s p).1 : Int) := hx2
          simpa using this
        have HG : Hid (¬ M[pre.length]? = some (xk, xr)) := Lib.hid (by
          rw [HMX.out]
          intro e
          have := Option.some.inj e
          exact hx2 (by rw [Prod.mk.injEq] at this; exact this.2.symm))
        clear hx1 hx2
        generalize (Utf8.decode s p).1 = r at *
        gi_wp2
        exact ⟨(KeepsOthers.setCell _ _ _).from _, .inr ⟨pre, _, rfl, HG.out⟩⟩
    · have e1 : ((xk : Int) != (k0 : Int) + (pre.length : Int)) = true := by simp; omega
      have HG : Hid (¬ M[pre.length]? = some (xk, xr)) := Lib.hid (by
        rw [HMX.out]
        intro e
        have := Option.some.inj e
        exact hx1 (by rw [Prod.mk.injEq] at this; exact this.1.symm))
      clear hx1
      generalize (Utf8.decode s p).1 = r at *
      gi_wp2
      exact ⟨(KeepsOthers.setCell _ _ _).from _, .inr ⟨pre, _, rfl, HG.out⟩⟩
  case done =>
    rintro D ys V hD rfl ⟨⟨hv6, hv7⟩, hB⟩ hK
    have hB2 := hB
    obtain ⟨⟨d0, d1, d2⟩, ht, hr, hf⟩ := HC.out V hB
    have hc6 := hv6.cell
    have hRV : Boxed V (w.heap.size + 1) 4 (.bool false) := (hB.block (w.heap.size + 1) (by omega)).trans HR.out
    have HRV := Lib.hid hRV
    have HBW := Lib.hid (HB.out.trans (hB.mono hwz))
    have HK := Lib.hid hK
    have hyl : ys.length = (placesFrom s 0).length - k0 := by rw [hwl, HLT.out]
    have HYL := Lib.hid hyl
    clear b26 b27 p1 p2 hB0 hstops hv6 hv7 hB hB2 hRV hK hwl
    have hK' := (KeepsOthers.setCell V ⟨w.heap.size + 1, 0, none⟩ (.bool true)).same D _ HK.out rfl
    have hk5 := cell_kept (HRV.out.set (.bool true)).cell (grownBy_putObj' _ D (.deferred none)) (fun r e => by cases e; exact ⟨_, hK', rfl⟩)
    have HK' := Lib.hid hK'
    have HK5 := Lib.hid hk5
    clear hK' hk5
    by_cases hkl : k0 ≤ (placesFrom s 0).length
    · have e1 : ((k0 : Int) + (ys.length : Int) == ((placesFrom s 0).length : Int)) = true := by simp; omega
      clear hyl
      go_wp2_with fail
      refine ⟨by simp, .inl ⟨_, _, rfl, run_takeDeferred HK'.out, ?_⟩⟩
      refine ⟨.bool true, ?_, rfl, (HBW.out.setCell (p := ⟨w.heap.size + 1, 0, none⟩) (Nat.le_succ _) _).trans (belowK_b (w := w) (Nat.le_refl _) _ D _ _ (by simp only [World.size_alloc] at hD; omega) HK'.out rfl rfl)⟩
      simp [results, Tryd.f43, go_sem, HK5.out]
    · have e1 : ((k0 : Int) + (ys.length : Int) == ((placesFrom s 0).length : Int)) = false := by simp; omega
      have e2 : ((placesFrom s 0).length : Int) < a := by omega
      clear hyl
      go_wp2_with fail
      refine ⟨by simp, .inl ⟨_, _, rfl, run_takeDeferred HK'.out, ?_⟩⟩
      refine ⟨.bool true, ?_, rfl, (HBW.out.setCell (p := ⟨w.heap.size + 1, 0, none⟩) (Nat.le_succ _) _).trans (belowK_b (w := w) (Nat.le_refl _) _ D _ _ (by simp only [World.size_alloc] at hD; omega) HK'.out rfl rfl)⟩
      simp [results, Tryd.f43, go_sem, HK5.out]

end Go.Proofs.YthkehgmeaedflaaDoor
