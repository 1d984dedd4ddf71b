/-
  Answers written over, arguments with marks behind them: the laws' own small functions, walked.
-/
import Derived.Test.YtmdcbpdmkonmlaaRSpots
import Derived.Test.YtmdcbpdmkonmlaaSame
namespace Go.Proofs.Ytmdcbpdmkonmlaa
open Go.RowKit

theorem Apped.apart {w w' : World} {a a' b : Option Addr} {B size n c : Nat} {xs : List Value} (h : Apped w w' a a') (ho : Own w B size b n c xs) (hne : b = none ∨ blockOf b ≠ blockOf a) : b = none ∨ blockOf b ≠ blockOf a' := by
  rcases hne with h0 | h0
  · exact .inl h0
  · rcases h.place with e | ⟨g, e, hg⟩
    · right; rw [e]; exact h0
    · rcases ho.row with ⟨h1, _⟩ | ⟨g', ha, _, h2, _⟩
      · exact .inl h1
      · right
        rw [e, ha]
        simp [blockOf]
        omega

theorem apart_of {w1 w' : World} {B size size' n c n' c' : Nat} {a b : Option Addr} {xs ys : List Value} (ha : Own w1 B size a n c xs) (hb : Own w' w1.heap.size size' b n' c' ys) : b = none ∨ blockOf b ≠ blockOf a := by
  rcases hb.row with ⟨h1, _⟩ | ⟨g', hb1, h2, _⟩
  · exact .inl h1
  · right
    rcases ha.row with ⟨h3, _⟩ | ⟨g, ha1, _, h4, _⟩
    · rw [h3, hb1]; simp [blockOf]
    · rw [ha1, hb1]; simp [blockOf]; omega

theorem apart_block {w : World} {B size n c : Nat} {b : Option Addr} {xs : List Value} {g o : Nat} (_h : Own w B size b n c xs) (hne : b = none ∨ blockOf b ≠ blockOf (some ⟨g, o, none⟩)) : ∀ g', b = some ⟨g', 0, none⟩ → g' ≠ g := by
  intro g' hb
  rcases hne with h0 | h0
  · rw [h0] at hb; cases hb
  · rw [hb] at h0
    simpa [blockOf] using h0

/-- One block turned, behind another turn of it (or of a newer one). -/
theorem grown_trans {w w1 w2 : World} {r r' : Option Nat} (h : w.grownBy w1 r) (k : w1.grownBy w2 r') (hr : r' = r ∨ r' = none ∨ ∃ g, r' = some g ∧ w.heap.size ≤ g) : w.grownBy w2 r :=
  ⟨k.os.trans h.os, k.tape.trans h.tape, k.output.trans h.output, Nat.le_trans h.size k.size, fun i hi hne => by
    rw [k.block i (Nat.lt_of_lt_of_le hi h.size) ?_]
    · exact h.block i hi hne
    · intro e
      rcases hr with e1 | e1 | ⟨g, e1, hg⟩
      · exact hne (e.trans e1)
      · rw [e1] at e; cases e
      · rw [e1] at e; cases e; omega⟩
theorem grown_refl (w : World) (r : Option Nat) : w.grownBy w r := ⟨rfl, rfl, rfl, Nat.le_refl _, fun _ _ _ => rfl⟩
theorem grown_set (w : World) (g k : Nat) (v : Value) : w.grownBy (w.setCell ⟨g, k, none⟩ v) (some g) := ⟨rfl, rfl, rfl, by simp, fun i _ hne => Below.heap_setCell w ⟨g, k, none⟩ v i (fun e => hne (by rw [e]))⟩
theorem grown_below {w w' : World} (h : Below w.heap.size w w') : w.grownBy w' none := ⟨h.os, h.tape, h.output, h.size, fun i hi _ => h.block i hi⟩

theorem Own.grown {w w' : World} {B size n c : Nat} {b : Option Addr} {xs : List Value} {r : Option Nat} (ho : Own w B size b n c xs) (h : w.grownBy w' r) (hne : b = none ∨ blockOf b ≠ r) : Own w' B size b n c xs :=
  ho.same h.size fun g hg => by
    rcases ho.row with ⟨h0, _⟩ | ⟨g', ha, _, h2, _⟩
    · rw [h0] at hg; cases hg
    · rw [ha] at hg
      simp at hg
      subst hg
      refine h.block g' h2 ?_
      rcases hne with h0 | h0
      · rw [h0] at ha; cases ha
      · rw [ha] at h0
        exact h0
theorem own_grown_below {w w' : World} {B size n c B0 : Nat} {a : Option Addr} {xs : List Value} (ho : Own w B size a n c xs) (h : w.grownBy w' (blockOf a)) (hB : B0 ≤ B) (hw : B0 ≤ w.heap.size) : Below B0 w w' :=
  (Below.refl B0 w).grown h hw fun k hk => by
    rcases ho.row with ⟨h0, _⟩ | ⟨g, ha, h1, _⟩
    · rw [h0] at hk; cases hk
    · rw [ha] at hk
      simp [blockOf] at hk
      omega
/-- Where a row is the later one it isn't in the earlier one's block. -/
theorem later_apart {w1 w : World} {B B' size size' n c n' c' : Nat} {a b : Option Addr} {xs ys : List Value} (ha : Own w1 B size a n c xs) (hb : Own w B' size' b n' c' ys) (hB : w1.heap.size ≤ B') : b = none ∨ blockOf b ≠ blockOf a := by
  rcases hb.row with ⟨h1, _⟩ | ⟨g', hb1, h2, _⟩
  · exact .inl h1
  · right
    rcases ha.row with ⟨h3, _⟩ | ⟨g, ha1, _, h4, _⟩
    · rw [h3, hb1]; simp [blockOf]
    · rw [ha1, hb1]; simp [blockOf]; omega

set_option maxHeartbeats 2000000 in
theorem apart_any (w : World) (B Bb Bd : Nat) (a : Option Addr) (ca : Nat) (xs : List Value) (b : Option Addr) (cb : Nat) (d : Option Addr) (cd : Nat) (ys : List Int) (hn : ys.length ≤ 17592186044416)
    (hA : Own w B 1 a ys.length ca xs) (hBb : Own w Bb 1 b ys.length cb (ys.map (Value.int .u16))) (hD : Own w Bd 1 d ys.length cd (ys.map (Value.int .u16))) (pab : b = none ∨ blockOf b ≠ blockOf a) (pad : d = none ∨ blockOf d ≠ blockOf a) :
    Calls Try.prog 27 #[.slice a ys.length ca, .slice b ys.length cb, .slice d ys.length cd] w fun e w' => e = .returned (.bool true) ∧ w.grownBy w' (blockOf a) := by
  obtain ⟨i0, hi, hz0, hz1, hz2⟩ := info_parts info22
  have hA := hA.mono (Nat.zero_le B)
  have HA := Lib.hid hA
  have HBB := Lib.hid hBb
  have HD := Lib.hid hD
  have PAB := Lib.hid pab
  have PAD := Lib.hid pad
  clear hA hBb hD pab pad
  go_enter Try.func27, Try.ntmps27
  go_wp2
  go_loopw [7] (fun i wr => ∃ (k : Nat) (l : List Value), k ≤ ys.length ∧ i = .int .i64 k ∧ Own wr 0 1 a ys.length ca l ∧ Own wr Bb 1 b ys.length cb (ys.map (Value.int .u16)) ∧ Own wr Bd 1 d ys.length cd (ys.map (Value.int .u16)) ∧ w.grownBy wr (blockOf a)) (fun i _ => ys.length - (intOf i).toNat)
  case atStart => exact ⟨0, xs, Nat.zero_le _, rfl, HA.out, HBB.out, HD.out, grown_refl _ _⟩
  case round =>
    obtain ⟨k, l, hk, rfl, hA, hBb, hD, hgr⟩ := hrel
    by_cases hlt : k < ys.length
    · obtain ⟨ga, hga, q1, q2, q3, q4⟩ := hA.addr (by have := hA.le; omega)
      obtain ⟨u, hu⟩ := Option.isSome_iff_exists.1 (q4 k (by have := hA.le; omega)).1
      have hf := (q4 k (by have := hA.le; omega)).2
      subst hga
      have H2 := Lib.hid hA
      have H3 := Lib.hid hBb
      have H4 := Lib.hid hD
      have H5 := Lib.hid hgr
      clear hA hBb hD hgr q3 q4
      have h0 : (0 : Int) ≤ (k : Int) := by omega
      have h1 : (k : Int) < (ys.length : Int) := by omega
      go_wp2
      go_roundw
      case rel => exact ⟨k + 1, _, by omega, by go_num, H2.out.stored k hlt _, H3.out.stored_other _ _ (apart_block H3.out PAB.out), H4.out.stored_other _ _ (apart_block H4.out PAD.out), grown_trans H5.out (grown_set _ _ _ _) (.inl rfl)⟩
      case measure => simp [intOf]; omega
    · obtain rfl : ys.length = k := by omega
      have H2 := Lib.hid hA
      have H3 := Lib.hid hBb
      have H4 := Lib.hid hD
      have H5 := Lib.hid hgr
      clear hA hBb hD hgr
      go_wp2
      go_loopw [0, 8] (fun v i wr => ∃ (k : Nat) (a' : Option Addr) (c' : Nat) (l : List Value), k ≤ 40 ∧ i = .int .i64 k ∧ v = .slice a' (ys.length + k) c' ∧ Own wr 0 1 a' (ys.length + k) c' l ∧ Own wr Bb 1 b ys.length cb (ys.map (Value.int .u16)) ∧ Own wr Bd 1 d ys.length cd (ys.map (Value.int .u16)) ∧ w.grownBy wr (blockOf a) ∧ (blockOf a' = blockOf a ∨ blockOf a' = none ∨ ∃ g, blockOf a' = some g ∧ w.heap.size ≤ g) ∧ (b = none ∨ blockOf b ≠ blockOf a') ∧ (d = none ∨ blockOf d ≠ blockOf a')) (fun _ i _ => 40 - (intOf i).toNat)
      case atStart => exact ⟨0, a, ca, _, by omega, rfl, rfl, H2.out, H3.out, H4.out, H5.out, .inl rfl, PAB.out, PAD.out⟩
      case round =>
        obtain ⟨k, a2, c2, l2, hk9, rfl, rfl, hA, hBb, hD, hgr, hpl, pb, pd⟩ := hrel
        by_cases hlt : k < 40
        · have K1 := Lib.hid hBb
          have K2 := Lib.hid hD
          have K3 := Lib.hid pb
          have K4 := Lib.hid pd
          have KG := Lib.hid hgr
          have KP := Lib.hid hpl
          clear hBb hD pb pd hgr hpl
          go_wp2_with (at_builtin; refine wpList_app rfl _ _ 31 31 rfl 22 i0 (.int .u16 0) 1 2 Try.underlying31 hi hz0 hz1 hz2 rfl (by simp [Value.cells, Value.oneCell']) 0 _ _ _ _ rfl (hA.alloc _) _ 1 [.int .u16 9] rfl (Src.ofCells Try.underlying31 _ _ _ _ rfl (Cells.new _ _ _) (by simp [Value.oneCell']) (by decide)) (by simp [maxLen]; omega) (by omega) (Nat.zero_le _) ?_; intro a4 c4 w4 hown4 hap4; have hg4 := Lib.hid (grown_trans (grown_trans KG.out (World.grownBy_alloc _ _ none) (.inr (.inl rfl))) hap4.grown KP.out); have hp4 := Lib.hid hap4.place; have hs4 := Lib.hid KG.out.size; have HO4 := Lib.hid hown4; have K5 := Lib.hid (hap4.other (K1.out.alloc _) K3.out); have K6 := Lib.hid (hap4.other (K2.out.alloc _) K4.out); have K7 := Lib.hid (hap4.apart (K1.out.alloc _) K3.out); have K8 := Lib.hid (hap4.apart (K2.out.alloc _) K4.out); clear hown4 hap4 hA)
          go_roundw
          case rel =>
            refine ⟨k + 1, a4, c4, _, by omega, by go_num, rfl, HO4.out, K5.out, K6.out, hg4.out, ?_, K7.out, K8.out⟩
            rcases hp4.out with e | ⟨g, e, hg⟩
            · rw [e]; exact KP.out
            · exact .inr (.inr ⟨g, e, by have := hs4.out; simp at hg; omega⟩)
          case measure => simp [intOf]; omega
        · obtain rfl : k = 40 := by omega
          have hsm := rsame_any wr b cb ys d cd ys (by omega) hBb.toCells hD.toCells
          rw [decide_eq_true rfl] at hsm
          have HS := Lib.hid hsm
          have K3 := Lib.hid hgr
          clear hA hBb hD hgr pb pd hsm hpl
          go_wp2_with (go_at_call 23; refine HS.out.mono ?_; rintro e w6 ⟨rfl, hb6⟩)
          go_ret
          exact ⟨rfl, grown_trans K3.out (grown_below hb6) (.inr (.inl rfl))⟩

set_option maxHeartbeats 1000000 in
theorem lent_any (w : World) (a : Option Addr) (c : Nat) (us : List Int) (hn : us.length ≤ 17592186044416) (hr : Cells w a (us.map (Value.int .u16))) :
    Calls Try.prog 38 #[.slice a us.length c] w fun e w' => ∃ g c', e = .returned (.slice (some ⟨g, 0, none⟩) us.length c') ∧ Own w' w.heap.size 1 (some ⟨g, 0, none⟩) (us.length + 2) c' (us.map (Value.int .u16) ++ [.int .u16 7, .int .u16 8]) ∧ Below w.heap.size w w' := by
  obtain ⟨i0, hi, hz0, hz1, hz2⟩ := info_parts info22
  go_enter Try.func38, Try.ntmps38
  go_wp2_with (at_builtin; first | (refine wpList_app rfl _ _ 31 31 rfl 22 i0 (.int .u16 0) 1 2 Try.underlying31 hi hz0 hz1 hz2 rfl (by simp [Value.cells, Value.oneCell']) w.heap.size _ _ _ _ rfl (Own.nil _ _ _) _ _ _ rfl (Src.ofCells Try.underlying31 _ _ _ _ (by simp) hr (ints_one _ _) (by decide)) (by simp only [maxLen]; omega) (by omega) (Nat.le_refl _) ?_; intro a1 c1 w1 hown1 hap1; rw [Nat.zero_add, List.nil_append] at hown1; have HB1 := Lib.hid (hap1.below (Own.nil w w.heap.size 1) (Nat.le_refl _)); clear hap1 hr) | ((refine wpList_app rfl _ _ 31 31 rfl 22 i0 (.int .u16 0) 1 2 Try.underlying31 hi hz0 hz1 hz2 rfl (by simp [Value.cells, Value.oneCell']) w.heap.size _ _ _ _ rfl (hown1.alloc _) _ 2 [.int .u16 7, .int .u16 8] rfl (Src.ofCells Try.underlying31 _ _ _ _ rfl (Cells.new _ _ _) (by simp [Value.oneCell']) (by decide)) (by simp [maxLen] <;> omega) (by omega) (by have := HB1.out.size; exact Nat.le_trans this (by simp)) ?_; intro a2 c2 w2 hown2 hap2; have hb2 := Lib.hid ((HB1.out.alloc HB1.out.size _).trans (hap2.below (hown1.alloc _) (by have := HB1.out.size; exact Nat.le_trans this (by simp)))); obtain ⟨g, rfl, _, _, _⟩ := hown2.addr (by have := hown2.le; omega); have hle := hown2.le; have HO2 := Lib.hid hown2; clear hown2 hap2 hown1; have h0 : (0 : Int) ≤ (us.length : Int) := (by omega); have h1 : (us.length : Int) ≤ (c2 : Int) := Int.ofNat_le.mpr (Nat.le_trans (Nat.le_add_right _ 2) hle))))
  go_ret
  exact ⟨g, c2, rfl, HO2.out, hb2.out⟩

set_option maxHeartbeats 1000000 in
theorem kept_any (w : World) (B g c' : Nat) (a : Option Addr) (c : Nat) (us : List Int) (hn : us.length ≤ 17592186044416) (hown : Own w B 1 (some ⟨g, 0, none⟩) (us.length + 2) c' (us.map (Value.int .u16) ++ [.int .u16 7, .int .u16 8])) (hr : Cells w a (us.map (Value.int .u16))) :
    Calls Try.prog 41 #[.slice (some ⟨g, 0, none⟩) us.length c', .slice a us.length c] w fun e w' => e = .returned (.bool true) ∧ Below w.heap.size w w' := by
  have hle := hown.le
  have hpre := hown.prefix us.length (by omega)
  rw [Nat.mul_one, List.take_left' (by simp)] at hpre
  have hsm := rsame_any w (some ⟨g, 0, none⟩) c' us a c us (by omega) hpre.toCells hr
  rw [decide_eq_true rfl] at hsm
  have HS := Lib.hid hsm
  have HO := Lib.hid hown
  clear hpre hsm hown hr
  have h0 : (0 : Int) ≤ (us.length : Int) + 2 := by omega
  have h1 : (us.length : Int) + 2 ≤ (c' : Int) := by omega
  have h2 : (us.length : Int) < (us.length : Int) + 2 := by omega
  have h3 : (us.length : Int) + 1 < (us.length : Int) + 2 := by omega
  go_enter Try.func41, Try.ntmps41
  go_wp2_with fail
  refine HS.out.mono ?_
  rintro e w1 ⟨rfl, hb1⟩
  have hb1c := hb1
  obtain ⟨g', hg', q1, q2, q3, q4⟩ := (HO.out.below hb1c).addr (by omega)
  simp at hg'
  subst hg'
  have hc7 : w1.cell? ⟨g, us.length, none⟩ = some (.int .u16 7) := q3 _ _ (by rw [List.getElem?_append_right (by simp)]; simp)
  have hc8 : w1.cell? ⟨g, us.length + 1, none⟩ = some (.int .u16 8) := q3 _ _ (by rw [List.getElem?_append_right (by simp)]; simp)
  have HB := Lib.hid hb1
  clear hb1 hb1c q3 q4
  go_wp2
  go_ret
  exact ⟨rfl, HB.out⟩

set_option maxHeartbeats 400000 in
theorem sameRunes_any (w : World) (a : Option Addr) (c : Nat) (xs : List Int) (b : Option Addr) (d : Nat) (ys : List Int) (hn : xs.length ≤ 140737488355328) (hx : Cells w a (xs.map (Value.int .i32))) (hy : Cells w b (ys.map (Value.int .i32))) :
    Calls Try.prog 24 #[.slice a xs.length c, .slice b ys.length d] w fun e w' => e = .returned (.bool (decide (xs = ys))) ∧ Below w.heap.size w w' := by
  have HC := Lib.hid (rsameRunes_any w a c xs b d ys hn hx hy)
  clear hx hy
  go_enter Try.func24, Try.ntmps24
  go_wp2_with (go_at_call 57; refine HC.out.mono ?_; rintro e w1 ⟨rfl, hb1⟩)
  go_ret
  exact ⟨rfl, hb1⟩

end Go.Proofs.Ytmdcbpdmkonmlaa
