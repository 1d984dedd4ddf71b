/-
  The iterator over units from behind, walked: its contract.
-/
import Derived.Test.YtmdcbpdmkonmlaaBackW
namespace Go.Proofs.Ytmdcbpdmkonmlaa
open Go.RowKit Go.Shelf

attribute [local go_sem] Oper.semAt_some

set_option maxRecDepth 100000 in
set_option maxHeartbeats 4000000 in
/-- **The closure of Back: it tells what the units stand for, from behind.** -/
theorem back_stops (n : Nat) (hn1 : 1 ≤ n) (Bu : Nat) (a : Option Addr) (c : Nat) (us : List Int) (w : World) (hn : us.length ≤ 70368744177664) (hB : Bu < w.heap.size) (hc : w.cell? ⟨Bu, 0, none⟩ = some (.slice a us.length c)) (hr : Cells w a (us.map (Value.int .u16))) (hwf : ∀ u ∈ us, 0 ≤ u ∧ u ≤ 65535) :
    SeqStopsK Fence.wide n Try.prog 67 #[.pointer (some ⟨Bu, 0, none⟩)] (fun x : Nat × Int => #[Value.int .i64 (x.1 : Int), Value.int .i32 x.2]) (KeepsT 22) (fun ys => ys = (marksFrom us 0).reverse) (fun pre => pre <+: (marksFrom us 0).reverse) (marksFrom us 0).length w := fun l J Jx W hW hJ hJx hY h0 => by
  have hf65 : Fence.wide.fn 65 := trivial
  have hf66 : Fence.wide.fn 66 := trivial
  have hcW : W.cell? ⟨Bu, 0, none⟩ = some (.slice a us.length c) := (hW.cell (p := ⟨Bu, 0, none⟩) hB).trans hc
  have HR := Lib.hid (hr.below hW)
  have HWF := Lib.hid hwf
  have HJ := Lib.hid hJ
  have HY := Lib.hid hY
  clear hr hwf hJ hY
  refine callsIn_of_wp Try.func67 rfl trivial ?_ rfl
  simp only [Try.ntmps67, List.size_toArray, List.length_cons, List.length_nil, Nat.reduceAdd, Nat.reduceSub, Array.replicate_succ, Array.replicate_zero, List.push_toArray, List.append_toArray, List.nil_append, List.cons_append]
  gi_wp2_with fail
  refine (callsIn_wide.2 (clone_any _ a c us hn HR.out)).mono ?_
  rintro e W1 ⟨v, rfl, hown, hb1⟩
  have hJ1 := HJ.out [] W W1 none h0 (below_grown hb1) (by rintro r h; cases h)
  rcases hown.2 with ⟨rfl, hz⟩ | ⟨g, cap, cur, rfl, hg1, hgb, hle, hcm, hcs, htk⟩
  · have hus : us = [] := by
      have := hown.1
      rw [hz] at this
      simpa using this
    subst hus
    gi_wp2
    gi_loopw [4] (fun i wr => i = .int .i64 0 ∧ J [] wr) (fun _ _ => 0)
    case atStart => exact ⟨rfl, hJ1⟩
    case round =>
      obtain ⟨rfl, hJs⟩ := hrel
      gi_wp2
      go_end0
      exact ⟨⟨_, rfl⟩, .inl ⟨_, rfl, hJs⟩⟩
  · have HD := Lib.hid (drop_cells htk)
    clear htk hown hcs
    gi_wp2
    gi_loopw [4] (fun i wr => ∃ (k : Nat), k ≤ us.length ∧ i = .int .i64 k ∧ Hid (Bnd us k) ∧ J (marksFrom (us.drop k) k).reverse wr ∧ wr.heap[g]? = some (.cells cur 22 (0, 0)) ∧ W.heap.size ≤ wr.heap.size) (fun i _ => (intOf i).toNat)
    case atStart => exact ⟨us.length, Nat.le_refl _, rfl, Lib.hid (bnd_end us), by simp [marksFrom]; exact hJ1, hgb, hb1.size⟩
    case round =>
      obtain ⟨k, hk, rfl, HBD, hJs, hrow, hsz⟩ := hrel
      by_cases hlt : 0 < k
      · obtain ⟨hb1', hb2', hb3'⟩ := mark_back us k HBD.out hlt
        obtain ⟨A, hA⟩ : ∃ A, marksFrom us 0 = A ++ marksFrom (us.drop (k - (tailOf us k).2)) (k - (tailOf us k).2) := by
          obtain ⟨nn, hnn⟩ := hb1'
          have := bndN_marks us nn
          rwa [hnn] at this
        have hpl : (marksFrom (us.drop k) k).reverse.length < (marksFrom us 0).length := by
          rw [hA, hb3']
          simp
          omega
        obtain ⟨v, hv⟩ : ∃ v, us[k - 1]? = some v := ⟨_, List.getElem?_eq_getElem (by omega)⟩
        have HCE1 := Lib.hid (row_cells hrow (k - 1) ([v].map (Value.int .u16)) (fun j u hu => HD.out (k - 1) j u (by
          match j, hu with
          | 0, hu => rw [List.getElem?_map, List.getElem?_drop, Nat.add_zero, hv]; exact hu)))
        have hwf1 : ∀ u ∈ [v], 0 ≤ u ∧ u ≤ 65535 := fun u hu => by simp at hu; subst hu; exact HWF.out _ (List.mem_of_getElem? hv)
        have HW1 := Lib.hid hwf1
        have hk1 : (1 : Int) ≤ (k : Int) := by omega
        have hk2 : (k : Int) ≤ (us.length : Int) := by omega
        have H1 := Lib.hid hb1'
        have H2 := Lib.hid hb3'
        have H3 := Lib.hid hA
        have H4 := Lib.hid hpl
        have H5 := Lib.hid hrow
        have H6 := Lib.hid hJs
        clear hb1' hb3' hA hpl hrow hJs hgb hwf1
        have hsub : (k : Int) - 1 = ((k - 1 : Nat) : Int) := by omega
        have hcast : ((k - 1 : Nat) : Int) + 1 = (k : Int) := by omega
        have hp0 : (0 : Int) ≤ ((k - 1 : Nat) : Int) := by omega
        have HSUB := Lib.hid hsub
        gi_wp2_with fail
        refine (callsIn_wide.2 (first_len _ g (k - 1) _ (k - (k - 1)) [v] (by simp; omega) (by simp) (by omega) HCE1.out HW1.out)).mono ?_
        rw [firstOf_one]
        rintro e W3 ⟨rfl, hb3⟩
        have H8 := Lib.hid hb3
        clear hb3
        by_cases h2 : 2 ≤ k
        · obtain ⟨u, hu⟩ : ∃ u, us[k - 2]? = some u := ⟨_, List.getElem?_eq_getElem (by omega)⟩
          have hrow3 := (H8.out.block g (Array.getElem?_eq_some_iff.1 H5.out).1).trans H5.out
          have HCE2 := Lib.hid (row_cells hrow3 (k - 2) ([u, v].map (Value.int .u16)) (fun j x hx => HD.out (k - 2) j x (by
            match j, hx with
            | 0, hx => rw [List.getElem?_map, List.getElem?_drop, Nat.add_zero, hu]; exact hx
            | 1, hx => rw [List.getElem?_map, List.getElem?_drop, show k - 2 + 1 = k - 1 by omega, hv]; exact hx)))
          have hwf2 : ∀ x ∈ [u, v], 0 ≤ x ∧ x ≤ 65535 := fun x hx => by
            simp at hx
            rcases hx with rfl | rfl
            · exact HWF.out _ (List.mem_of_getElem? hu)
            · exact HWF.out _ (List.mem_of_getElem? hv)
          have HW2 := Lib.hid hwf2
          have HT := Lib.hid (show tailOf us k = if (joinOf u v).2 = true then ((joinOf u v).1, 2) else (loneR v, 1) by
            unfold tailOf
            rw [hu, hv]
            simp only [Option.getD_some, h2, true_and])
          have hp1 : (0 : Int) < ((k - 1 : Nat) : Int) := by omega
          have hsub2 : ((k - 1 : Nat) : Int) - 1 = ((k - 2 : Nat) : Int) := by omega
          have hp2 : (0 : Int) ≤ ((k - 2 : Nat) : Int) := by omega
          have hp3 : ((k - 2 : Nat) : Int) ≤ (k : Int) := by omega
          clear hwf2 hrow3 hu hv
          gi_wp2_with fail
          refine (callsIn_wide.2 (first_len _ g (k - 2) _ (k - (k - 2)) [u, v] (by simp; omega) (by simp) (by omega) HCE2.out HW2.out)).mono ?_
          cases hj : (joinOf u v).2
          · rw [firstOf_no hj]
            rintro e W4 ⟨rfl, hb4⟩
            have HTV := Lib.hid (show tailOf us k = (loneR v, 1) by rw [HT.out, hj]; rfl)
            have hkeep := (hb4.block g (Nat.lt_of_lt_of_le (Array.getElem?_eq_some_iff.1 H5.out).1 H8.out.size)).trans ((H8.out.block g (Array.getElem?_eq_some_iff.1 H5.out).1).trans H5.out)
            have HSZ := Lib.hid (Nat.le_trans H8.out.size hb4.size)
            obtain ⟨fn, tmps, assign, body, hy, hR⟩ := HY.out (marksFrom (us.drop k) k).reverse (k - 1, loneR v) W4 (HJ.out _ _ W4 none (HJ.out _ _ W3 none H6.out (below_grown H8.out) (by rintro r h; cases h)) (below_grown hb4) (by rintro r h; cases h)) H4.out
            dsimp only at hy
            have H9 := Lib.hid hkeep
            clear hb4 hkeep hj
            gi_wp2
            refine hR.mono ?_
            rintro e W5 (⟨rfl, hJ5, hk5⟩ | ⟨rfl, hJx5⟩)
            · have H10 := Lib.hid hJ5
              have H11 := Lib.hid hk5
              clear hJ5 hk5 hy hR
              gi_wp2
              go_roundw
              case rel => exact ⟨k - 1, by omega, by go_num, Lib.hid (by have := H1.out; rwa [HTV.out] at this), by have := H2.out; rw [HTV.out] at this; rw [this, List.reverse_cons]; exact H10.out, H11.out.row _ _ _ H9.out, Nat.le_trans hsz (Nat.le_trans HSZ.out H11.out.size)⟩
              case measure => simp [intOf]; omega
            · clear hy hR
              gi_wp2
              refine bodyPost_ret (results_none rfl _ _ _) rfl ?_
              refine ⟨⟨_, rfl⟩, .inr ⟨_, ⟨?_, ?_⟩, hJx5⟩⟩
              rotate_left
              · have h2 := H2.out
                have h3 := H3.out
                rw [HTV.out] at h2 h3
                rw [h3, h2, List.reverse_append, List.reverse_cons]
          · rw [firstOf_yes hj]
            rintro e W4 ⟨rfl, hb4⟩
            have HTV := Lib.hid (show tailOf us k = ((joinOf u v).1, 2) by rw [HT.out, hj]; rfl)
            have hkeep := (hb4.block g (Nat.lt_of_lt_of_le (Array.getElem?_eq_some_iff.1 H5.out).1 H8.out.size)).trans ((H8.out.block g (Array.getElem?_eq_some_iff.1 H5.out).1).trans H5.out)
            have HSZ := Lib.hid (Nat.le_trans H8.out.size hb4.size)
            obtain ⟨fn, tmps, assign, body, hy, hR⟩ := HY.out (marksFrom (us.drop k) k).reverse (k - 2, (joinOf u v).1) W4 (HJ.out _ _ W4 none (HJ.out _ _ W3 none H6.out (below_grown H8.out) (by rintro r h; cases h)) (below_grown hb4) (by rintro r h; cases h)) H4.out
            dsimp only at hy
            have H9 := Lib.hid hkeep
            have hrep : ((k - 1 : Nat) : Int) - 1 = ((k - 2 : Nat) : Int) := by omega
            clear hb4 hkeep hj
            gi_wp2
            refine hR.mono ?_
            rintro e W5 (⟨rfl, hJ5, hk5⟩ | ⟨rfl, hJx5⟩)
            · have H10 := Lib.hid hJ5
              have H11 := Lib.hid hk5
              clear hJ5 hk5 hy hR
              gi_wp2
              go_roundw
              case rel => exact ⟨k - 2, by omega, by go_num, Lib.hid (by have := H1.out; rwa [HTV.out] at this), by have := H2.out; rw [HTV.out] at this; rw [this, List.reverse_cons]; exact H10.out, H11.out.row _ _ _ H9.out, Nat.le_trans hsz (Nat.le_trans HSZ.out H11.out.size)⟩
              case measure => simp [intOf]; omega
            · clear hy hR
              gi_wp2
              refine bodyPost_ret (results_none rfl _ _ _) rfl ?_
              refine ⟨⟨_, rfl⟩, .inr ⟨_, ⟨?_, ?_⟩, hJx5⟩⟩
              rotate_left
              · have h2 := H2.out
                have h3 := H3.out
                rw [HTV.out] at h2 h3
                rw [h3, h2, List.reverse_append, List.reverse_cons]
        · obtain rfl : k = 1 := by omega
          have HTV := Lib.hid (show tailOf us 1 = (loneR v, 1) by
            unfold tailOf
            rw [if_neg (by omega), hv]
            rfl)
          have hkeep := (H8.out.block g (Array.getElem?_eq_some_iff.1 H5.out).1).trans H5.out
          obtain ⟨fn, tmps, assign, body, hy, hR⟩ := HY.out (marksFrom (us.drop 1) 1).reverse (0, loneR v) W3 (HJ.out _ _ W3 none H6.out (below_grown H8.out) (by rintro r h; cases h)) H4.out
          dsimp only at hy
          rw [show ((0 : Nat) : Int) = 0 from rfl] at hy
          have H9 := Lib.hid hkeep
          have G1 := Lib.hid (show Bnd us 0 by have := H1.out; rw [HTV.out] at this; exact this)
          have G2 := Lib.hid (show marksFrom (us.drop 0) 0 = (0, loneR v) :: marksFrom (us.drop 1) 1 by have := H2.out; rw [HTV.out] at this; exact this)
          have G3 := Lib.hid (show marksFrom us 0 = A ++ marksFrom (us.drop 0) 0 by have := H3.out; rw [HTV.out] at this; exact this)
          clear hkeep hv h2
          gi_wp2
          refine hR.mono ?_
          rintro e W5 (⟨rfl, hJ5, hk5⟩ | ⟨rfl, hJx5⟩)
          · have H10 := Lib.hid hJ5
            have H11 := Lib.hid hk5
            clear hJ5 hk5 hy hR
            gi_wp2
            go_roundw
            case rel => exact ⟨0, by omega, rfl, G1, by rw [G2.out, List.reverse_cons]; exact H10.out, H11.out.row _ _ _ H9.out, Nat.le_trans hsz (Nat.le_trans H8.out.size H11.out.size)⟩
            case measure => simp [intOf]
          · clear hy hR
            gi_wp2
            refine bodyPost_ret (results_none rfl _ _ _) rfl ?_
            exact ⟨⟨_, rfl⟩, .inr ⟨_, ⟨A.reverse, by rw [G3.out, G2.out, List.reverse_append, List.reverse_cons]⟩, hJx5⟩⟩
      · obtain rfl : k = 0 := by omega
        have H6 := Lib.hid hJs
        clear hJs
        gi_wp2
        go_end0
        exact ⟨⟨_, rfl⟩, .inl ⟨_, rfl, by have := H6.out; simpa using this⟩⟩

end Go.Proofs.Ytmdcbpdmkonmlaa
