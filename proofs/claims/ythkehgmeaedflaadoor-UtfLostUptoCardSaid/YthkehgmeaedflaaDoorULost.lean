/-
  The walk of the law UtfLost.
-/
import Derived.Test.YthkehgmeaedflaaDoorLostM
import Derived.Test.YthkehgmeaedflaaDoorLostK
import Derived.Test.YthkehgmeaedflaaDoorMeth
import Derived.Test.YthkehgmeaedflaaDoorAll
import Derived.Test.YthkehgmeaedflaaDoorPartsW
import Derived.Test.YthkehgmeaedflaaDoorLives
import Derived.Test.YthkehgmeaedflaaDoorRound
import Derived.Deep.CutBlock
import Derived.Test.YthkehgmeaedflaaDoorPairs
namespace Go.Proofs.YthkehgmeaedflaaDoor
open Go.RowKit Go.Shelf
set_option linter.unusedVariables false

theorem eq_fn44l (w : World) (f : Fn) (ts bs : Array Value) : (binOp .eql 44 (.func f ts bs) .nilFunc).run Tryd.prog w = .ok (.bool false) w := eq_fn w f ts bs 44 _ _ _ Tryd.underlying44
theorem eq_fn54l (w : World) (f : Fn) (ts bs : Array Value) : (binOp .eql 54 (.func f ts bs) .nilFunc).run Tryd.prog w = .ok (.bool false) w := eq_fn w f ts bs 54 _ _ _ Tryd.underlying54
attribute [local go_sem] Oper.semAt_some eq_fn44l eq_fn54l

theorem spots_len' (s : ByteArray) : (spotsFrom s 0).length = (placesFrom s 0).length := by
  have h1 : (spotsFrom s 0).map Prod.fst = placesFrom s 0 := rfl
  rw [← h1, List.length_map]

set_option maxRecDepth 100000 in
set_option maxHeartbeats 8000000 in
theorem lost_in (w : World) (s : ByteArray) (hT : Lib.Utf8Tabs 0 1 w) :
    CallsIn Fence.wide 5 Tryd.prog 14 #[.string s] w fun e W' => e = .returned (.bool true) ∧ Below w.heap.size w W' := by
  obtain ⟨i0, hi, hz0, hz1, hz2⟩ := info_parts info3
  have HT := Lib.hid hT
  have h2w := tabs_at hT
  clear hT
  refine callsIn_of_wp_marks Tryd.func14 rfl trivial ?_ rfl
  simp only [Tryd.ntmps14, List.size_toArray, List.length_cons, List.length_nil, Nat.reduceAdd, Nat.reduceSub, Array.replicate_succ, Array.replicate_zero, List.push_toArray, List.append_toArray, List.nil_append, List.cons_append]
  refine wpIn_wide.2 ?_
  have b0 := (Boxed.new w 9 (.string s)).alloc (.cells #[.bool false] 4)
  have b1 := Boxed.new (w.alloc (.cells #[.string s] 9)) 4 (.bool false)
  simp only [World.size_alloc] at b1
  have hbw : Below w.heap.size w ((w.alloc (.cells #[.string s] 9)).alloc (.cells #[.bool false] 4)) := ((Below.refl _ _).alloc (Nat.le_refl _) _).alloc (by simp) _
  by_cases hs : 65536 < s.size
  · have hsi : (65536 : Int) < (s.size : Int) := by omega
    go_wp2_with fail
    refine (lives_any _ (tabs_below HT.out hbw)).mono ?_
    rintro e w1 ⟨rfl, hb1⟩
    have B1 := Lib.hid (b1.kept (below_grown hb1) (by simp))
    have HB1 := Lib.hid (after hbw hb1)
    have hc := B1.out.cell
    have hf := B1.out.frozen
    clear hb1 b0 b1 hbw
    go_wp2_with fail
    have X1 := (B1.out.set (.bool true)).cell
    refine ⟨.bool true, ?_, rfl, HB1.out.setCell (p := ⟨w.heap.size + 1, 0, none⟩) (by simp) _⟩
    simp [results, Tryd.f14, go_sem, X1]
  · have hsi : (s.size : Int) ≤ 65536 := by omega
    have hs2 : s.size ≤ 65536 := by omega
    have hsd : decide ((65536 : Int) < (s.size : Int)) = false := by simp; omega
    clear hs
    go_wp2_with fail
    refine (lives_any _ (tabs_below HT.out hbw)).mono ?_
    rintro e w1 ⟨rfl, hb1⟩
    have S1 := Lib.hid (b0.kept (below_grown hb1) (by simp))
    have B1 := Lib.hid (b1.kept (below_grown hb1) (by simp))
    have HB1 := Lib.hid (after hbw hb1)
    clear hb1 b0 b1 hbw
    have hsc := S1.out.cell
    go_wp2_with fail
    refine (new_any _ s (by omega)).mono ?_
    rintro e w2 ⟨Bp, rfl, hBp, hP, hb2⟩
    have S2 := Lib.hid ((S1.out.kept (below_grown hb2) (by simp)).alloc (.cells #[.pointer (some ⟨Bp, 0, none⟩)] 66))
    have B2 := Lib.hid ((B1.out.kept (below_grown hb2) (by simp)).alloc (.cells #[.pointer (some ⟨Bp, 0, none⟩)] 66))
    have HB2 := Lib.hid ((after HB1.out hb2).alloc (after HB1.out hb2).size (.cells #[.pointer (some ⟨Bp, 0, none⟩)] 66))
    have P2 := Lib.hid (hP.below ((Below.refl _ _).alloc (Nat.le_refl _) (.cells #[.pointer (some ⟨Bp, 0, none⟩)] 66)))
    have T2 := Lib.hid (Boxed.new w2 66 (.pointer (some ⟨Bp, 0, none⟩)))
    have hlt2 : w.heap.size + 1 < w2.heap.size := (Array.getElem?_eq_some_iff.1 (B1.out.kept (below_grown hb2) (by simp))).1
    have hn0 : (w2.alloc (.cells #[.pointer (some ⟨Bp, 0, none⟩)] 66)).heap.size = w2.heap.size + 1 := by simp
    clear hb2 hP S1 B1 HB1 hsc
    go_upto_region 6 with (fail)
    obtain ⟨Tb, hTb⟩ : ∃ x, x = w2.heap.size := ⟨_, rfl⟩
    rw [← hTb] at T2 hn0 hlt2 ⊢
    generalize w2.alloc (.cells #[.pointer (some ⟨Bp, 0, none⟩)] 66) = w3 at *
    clear hTb hBp
    have A4 := Lib.hid ((Boxed.new w3 3 (.int .i64 0)).alloc (.cells #[.int .i64 0] 3))
    have A5 := Lib.hid (by have := Boxed.new (w3.alloc (.cells #[.int .i64 0] 3)) 3 (.int .i64 0); rwa [World.size_alloc] at this)
    have HN := Lib.hid (((Below.refl _ w3).alloc (Nat.le_refl _) (.cells #[.int .i64 0] 3)).alloc (by simp) (.cells #[.int .i64 0] 3))
    rw [hn0] at A4 A5
    have hsc := ((S2.out.alloc (.cells #[.int .i64 0] 3)).alloc (.cells #[.int .i64 0] 3)).cell
    go_wp2_with (at_make; refine wpList_mk (by rfl) _ _ 84 3 (by rfl) i0 (.int .i64 0) 8 Tryd.underlying84 hi hz0 hz1 hz2 rfl (s.size + 1) (by rfl) (by rfl) (by omega) (by simp [maxLen]; omega) ?_; intro g w4 hown hb4; have S4 := Lib.hid ((((S2.out.alloc (.cells #[.int .i64 0] 3)).alloc (.cells #[.int .i64 0] 3)).kept (below_grown hb4) (by simp)).alloc (.cells #[.slice (some ⟨g, 0, none⟩) (s.size + 1) (s.size + 1)] 84)); have B4 := Lib.hid ((((B2.out.alloc (.cells #[.int .i64 0] 3)).alloc (.cells #[.int .i64 0] 3)).kept (below_grown hb4) (by simp)).alloc (.cells #[.slice (some ⟨g, 0, none⟩) (s.size + 1) (s.size + 1)] 84)); have T4 := Lib.hid ((((T2.out.alloc (.cells #[.int .i64 0] 3)).alloc (.cells #[.int .i64 0] 3)).kept (below_grown hb4) (by simp)).alloc (.cells #[.slice (some ⟨g, 0, none⟩) (s.size + 1) (s.size + 1)] 84)); have E4 := Lib.hid ((A4.out.kept (below_grown hb4) (by simp)).alloc (.cells #[.slice (some ⟨g, 0, none⟩) (s.size + 1) (s.size + 1)] 84)); have E5 := Lib.hid ((A5.out.kept (below_grown hb4) (by simp)).alloc (.cells #[.slice (some ⟨g, 0, none⟩) (s.size + 1) (s.size + 1)] 84)); have E6 := Lib.hid (Boxed.new w4 84 (.slice (some ⟨g, 0, none⟩) (s.size + 1) (s.size + 1))); have O4 := Lib.hid (hown.alloc (.cells #[.slice (some ⟨g, 0, none⟩) (s.size + 1) (s.size + 1)] 84)); have N4 := Lib.hid ((afterB HN.out hb4 (by simp)).alloc (by have := hb4.size; simp at this; omega) (.cells #[.slice (some ⟨g, 0, none⟩) (s.size + 1) (s.size + 1)] 84)); have hz4 : w3.heap.size + 2 ≤ w4.heap.size := (by have := hb4.size; simp at this; omega); have hgc : g < w4.heap.size := ((show BegAt _ _ g _ from ⟨_, hown⟩).bound (by omega)).2; have hz5 : w4.heap.size < (w4.alloc (.cells #[.slice (some ⟨g, 0, none⟩) (s.size + 1) (s.size + 1)] 84)).heap.size := (by simp); clear hown hb4 A4 A5 HN hsc; have hsc := S4.out.cell)
    have hO := O4.out
    rw [World.size_alloc, World.size_alloc, hn0] at hO
    have HO5 := Lib.hid hO
    have hN := N4.out
    rw [hn0] at hN
    have HN5 := Lib.hid hN
    rw [hn0] at hz4
    clear hO hN O4 N4 hsc
    obtain ⟨Cb, hCb⟩ : ∃ x, x = w4.heap.size := ⟨_, rfl⟩
    rw [← hCb] at E6 hz4 hz5 hgc ⊢
    have hsc := S4.out.cell
    generalize w4.alloc (.cells #[.slice (some ⟨g, 0, none⟩) (s.size + 1) (s.size + 1)] 84) = w5 at *
    clear hCb
    refine (spots_any _ _).mono ?_
    rintro e w' ⟨rfl, rfl⟩
    have hsc2 := (S4.out.alloc (.cells #[.string s] 9)).cell
    go_wp2_with (go_at_call 25; refine (spots_any _ _).mono ?_; rintro e w' ⟨rfl, rfl⟩)
    -- RANGE1
    have hgC : g < Cb := by
      have := (show BegAt _ _ g _ from ⟨_, HO5.out⟩).bound (show 0 < s.size + 1 by omega)
      exact hgc
    have c0 : Lst ((w5.alloc (.cells #[.string s] 9)).alloc (.cells #[.string s] 9)) w3 (Tb + 1) g Cb (w5.heap.size + 1) (s.size + 1) s 0 0 :=
      ⟨(E4.out.alloc _).alloc _, (E5.out.alloc _).alloc _, (E6.out.alloc _).alloc _, by have := Boxed.new (w5.alloc (.cells #[.string s] 9)) 9 (.string s); rwa [World.size_alloc] at this, ⟨_, (HO5.out.alloc _).alloc _⟩, (HN5.out.alloc (by omega) _).alloc (by simp; omega) _⟩
    have HS := Lib.hid (fun W (h : Below (Tb + 1) w3 W) => show W.cell? ⟨w.heap.size, 0, none⟩ = some (.string s) ∧ W.cell? ⟨w.heap.size + 1, 0, none⟩ = some (.bool false) ∧ W.frozen? ⟨w.heap.size + 1, 0, none⟩ = false ∧ W.cell? ⟨Tb, 0, none⟩ = some (.pointer (some ⟨Bp, 0, none⟩)) ∧ PlacesAt W Bp s ∧ Boxed W (w.heap.size + 1) 4 (.bool false) from by
      have e1 : Boxed W w.heap.size 9 (.string s) := (h.block _ (by omega)).trans S2.out
      have e2 : Boxed W (w.heap.size + 1) 4 (.bool false) := (h.block _ (by omega)).trans B2.out
      have e3 : Boxed W Tb 66 (.pointer (some ⟨Bp, 0, none⟩)) := (h.block _ (by omega)).trans T2.out
      exact ⟨e1.cell, e2.cell, e2.frozen, e3.cell, P2.out.below (by rw [hn0]; exact h), e2⟩)
    have hlow := c0.low
    have hT0 : Lib.Utf8Tabs 0 1 ((w5.alloc (.cells #[.string s] 9)).alloc (.cells #[.string s] 9)) := tabs_below HT.out (after HB2.out (by rw [hn0]; exact hlow))
    have hn1 : 0 < s.size + 1 := by omega
    have hCB : Cb < w5.heap.size + 1 := by omega
    have h2T : 2 ≤ Tb + 1 := by omega
    have HC0 := Lib.hid c0
    have HT0 := Lib.hid hT0
    clear hsc hsc2 hlow S4 B4 T4 E4 E5 E6 HO5 HN5
    refine (wpIn_wide (n := 5)).1 ?_
    refine wpIn_rangeFunc_ownH rfl (by omega) (gf := 56) (lb := #[.pointer (some ⟨w5.heap.size + 1, 0, none⟩)]) rfl trivial (enters_of Tryd.func56 (by kernel_rfl) rfl)
      (spots_stops (5 - 1) (by omega) (w5.heap.size + 1) s _ (by omega) (by simp) c0.txt.cell hT0) (fun h k => h.trans k) (keepsS_b _ (by simp) (tabs_at hT0)) (Below.refl _ _) (fun _ => rfl)
      (fun pre W => Lst W w3 (Tb + 1) g Cb (w5.heap.size + 1) (s.size + 1) s (placeAt s pre.length) pre.length)
      (fun (_ : Code) (pre : List Nat) (_ : World) => ∃ (pre' : List Nat) (x : Nat), pre = pre' ++ [x] ∧ ¬ (placesFrom s 0)[pre'.length]? = some x)
      (lst_own (fun pre : List Nat => placeAt s pre.length) (fun pre => pre.length) hn1 (by omega) (by simp; omega)) (fun _ _ _ _ _ hs _ _ => hs)
      (by simpa [placeAt_zero] using c0)
      (fun x a' W => ∃ Bx, w5.heap.size + 1 < Bx ∧ SpotBox W Bx s x ∧ a' = { tmps := #[.string s, .pointer (some ⟨w.heap.size, 0, none⟩), .pointer (some ⟨w.heap.size + 1, 0, none⟩), .pointer (some ⟨Tb, 0, none⟩), .pointer (some ⟨Tb + 1, 0, none⟩), .pointer (some ⟨Tb + 1 + 1, 0, none⟩), .pointer (some ⟨Cb, 0, none⟩), .pointer (some ⟨Bx, 0, none⟩), undef, undef, undef, undef, undef, undef, undef, undef, undef, undef, undef, undef, undef, .string s, .int .i64 ↑s.size, .bool false, .bool false, .bool true, .bool false, .bool false, undef, .string s, .pointer (some ⟨Bp, 0, none⟩), .pointer (some ⟨Bp, 0, none⟩), .bool false, .string s, .int .i64 ↑s.size, .int .i64 (↑s.size + 1), .slice (some ⟨g, 0, none⟩) (s.size + 1) (s.size + 1), .string s, .func (.func 56) #[] #[.pointer (some ⟨w5.heap.size, 0, none⟩)], .bool false, .string s, .func (.func 56) #[] #[.pointer (some ⟨w5.heap.size + 1, 0, none⟩)], spotE s x, undef, undef, undef, undef, undef, undef, undef, undef, undef, undef, undef, undef, undef, undef, undef, undef, undef, undef, undef, undef, undef, undef, undef, undef, undef, undef, undef, undef, undef, undef, undef, undef, undef, undef, undef, undef, undef, undef, undef, undef, undef, undef, undef, undef, undef, undef, undef, undef, undef, undef, undef, undef, undef, undef, undef, undef, undef, undef, undef, undef, undef, undef, undef, undef, undef, undef, undef, undef, undef, undef, undef, undef, undef, undef, undef, undef, undef, undef, undef, undef, undef, undef, undef, undef, undef, undef, undef, undef, undef, undef, undef, undef, undef, undef, undef, undef, undef, undef, undef, undef, undef, undef, undef, undef, undef, undef, undef, undef, undef, undef, undef, undef, undef, undef, undef, undef, undef, undef, undef, undef, undef, undef, undef, undef, undef, undef, undef, undef, undef, undef, undef, undef, undef, undef, undef, undef, undef, undef, undef, undef, undef, undef, undef, undef, undef, undef, undef, undef, undef, undef, undef, undef, undef, undef, undef, undef, undef, undef, undef, undef, undef, undef, undef, undef, undef, undef, undef, undef, undef, undef, undef, undef, undef, undef, undef, undef, undef, undef, undef], defers := [] })
      (fun x a' _ X Y row hs hg hr => by obtain ⟨Bx, h1, h2, h3⟩ := hs; exact ⟨Bx, h1, spotBox_own Bx s x () X Y row h2 hg (fun r e => (hr r e).2), h3⟩)
      ?assign ?body ?done ?stop
    case assign =>
      rintro l pre x W K hI hK
      have hsz := hI.low.size
      have hE : spotE s x = .agg #[.int .i64 x, .int .i64 (Utf8.decode s x).2, .int .i32 (Utf8.decode s x).1, .int .i64 (codeOf s x)] := rfl
      have hbul := hI.txt.lt
      have HI := Lib.hid hI
      clear hI
      gi_wp2
      exact hK _ _ ((KeepsOthers.alloc _ _).from _) (KeepsS.below ((Below.refl _ _).alloc (Nat.le_refl _) _)) (HI.out.below ((Below.refl _ _).alloc (Nat.le_refl _) _) (by omega)) ⟨W.heap.size, hbul, World.alloc_heap_new W _, rfl⟩
    case stop =>
      rintro D k pre W hD hpre ⟨pre', x, rfl, hbad⟩ hK
      refine (hbad ?_).elim
      obtain ⟨r, hr⟩ := hpre
      rw [← hr]
      simp
    case body =>
      rintro l pre x a' W hl ⟨r0, hr0⟩ hI ⟨Bx, hBx, bX, rfl⟩ hlt
      have hpm : pre.length ≤ 65536 := by have := places_le s; omega
      clear hl hr0 HC0 HT0 hT0 c0
      have hf33 : Fence.wide.fn 33 := trivial
      have hf44 : Fence.wide.fn 44 := trivial
      have hf45 : Fence.wide.fn 45 := trivial
      have hf51 : Fence.wide.fn 51 := trivial
      by_cases hg : (placesFrom s 0)[pre.length]? = some x
      · have hxs := place_lt (List.mem_of_getElem? hg)
        have hwd := decode_width s x
        have hfit := decode_fits s x hxs
        have H44 := Lib.hid (fun W (h : Below (Tb + 1) w3 W) => by have := byte_any W Bp s (HS.out W h).2.2.2.2.1 (pre.length : Int); rw [byteOf_at hg] at this; exact this)
        have H51 := Lib.hid (fun W (h : Below (Tb + 1) w3 W) => by have := begins_any W Bp s (by omega) (HS.out W h).2.2.2.2.1 (x : Int); rw [startsB_at hg] at this; exact this)
        have H45 := Lib.hid (fun W (j : Nat) (hj : j < (Utf8.decode s x).2) (h : Below (Tb + 1) w3 W) => by have := at_any W Bp s (by omega) (HS.out W h).2.2.2.2.1 ((x : Int) + (j : Int)); rw [hasOf_at hg hj] at this; exact this)
        have HNX := Lib.hid (placeAt_next hg)
        rw [placeAt_is hg] at hI
        have HI := Lib.hid hI
        have HX := Lib.hid (show W.heap[Bx]? = some (.cells #[.int .i64 x, .int .i64 (Utf8.decode s x).2, .int .i32 (Utf8.decode s x).1, .int .i64 (codeOf s x)] 41 (0, 0)) from bX)
        obtain ⟨x0, x1, x2, x3⟩ := bX.cell
        have hpc := hI.pos.cell
        have hkc := hI.num.cell
        have hlc := hI.sl.cell
        have hNW : Tb + 1 ≤ W.heap.size := by have := hI.low.size; omega
        obtain ⟨hsb, hrc, hrf, hpt, _, _⟩ := HS.out W hI.low
        have e0 : ((x : Int) != (x : Int)) = false := by simp
        have hk0 : ((pre.length : Int) != (pre.length : Int)) = false := by simp
        have HW := fun W => width_any ((Utf8.decode s x).1 : Int) W
        have HRW := fun h => right_width (s := s) (x := x) hxs h
        have HBD := fun h => code_pos (s := s) (p := x) h
        unfold badB at HBD
        clear hI bX hg
        generalize (Utf8.decode s x).1 = r at *
        generalize hwdd : (Utf8.decode s x).2 = wd at *
        generalize codeOf s x = cd at *
        have hw1 : (1 : Int) ≤ (wd : Int) := by omega
        have hw4 : (wd : Int) ≤ 4 := by omega
        have hf : (x : Int) + (wd : Int) ≤ (s.size : Int) := by omega
        by_cases hcd : cd = 0
        case' pos =>
          simp only [HRW hcd] at HW
          have H33 := Lib.hid HW
          have e1 : ((cd : Int) != 0) = false := by simp [hcd]
          have e2 : ((cd : Int) == 0) = true := by simp [hcd]
          have e3 : ((wd : Int) != (wd : Int)) = false := by simp
          clear hcd HW HRW HBD
          gi_wp2
          refine round_quiet (by kernel_rfl) (by kernel_rfl) (by kernel_rfl) ?_
          iterate 26 (gi_big_quiet_step ((gi_at_call 33; refine CallsIn.quiet_of_same (CallsIn.inRound l (callsIn_wide.2 ((H33.out _).mono (fun e w' h => ⟨h.1, h.2.symm⟩)))))))
        case' neg =>
          have e1 : ((cd : Int) != 0) = true := by simp; omega
          have e2 : ((cd : Int) == 0) = false := by simp; omega
          have e3 : ((wd : Int) != 1) = false := by simp; have := (HBD hcd).2; omega
          have e4 : ((r : Int) != 65533) = false := by simp; have := (HBD hcd).1; omega
          clear hcd HW HRW HBD
          gi_wp2
          refine round_quiet (by kernel_rfl) (by kernel_rfl) (by kernel_rfl) ?_
          iterate 26 (gi_big_quiet_step (fail))
        all_goals
          refine wpQuietIn_nil ?_
          intro _ hw'
          obtain ⟨nq, hw''⟩ := hw'
          subst hw''
          have bd := below_drewN (Below.refl W.heap.size W) nq
          have HI2 := Lib.hid (HI.out.below bd hNW)
          have HX2 := Lib.hid ((bd.block Bx (Array.getElem?_eq_some_iff.1 HX.out).1).trans HX.out)
          have HKO := Lib.hid (keepsO_below bd)
          have HKS := Lib.hid (KeepsS.below (b := w5.heap.size + 1) bd)
          clear x0 x1 x2 x3 hpc hkc hlc hsb hrc hrf hpt bd HI HX e1 e2 e3
          generalize W.drewN nq = W2 at *
          have hpc := HI2.out.pos.cell
          have hkc := HI2.out.num.cell
          have hNW2 : Tb + 1 ≤ W2.heap.size := by have := HI2.out.low.size; omega
          obtain ⟨hsb, hrc, hrf, hpt, _, _⟩ := HS.out W2 HI2.out.low
          gi_wp2_with (first | (gi_at_call 44; refine (CallsIn.inRound l (callsIn_wide.2 (H44.out _ HI2.out.low))).mono ?_; rintro e w' ⟨rfl, rfl⟩) | (gi_at_call 51; refine (CallsIn.inRound l (callsIn_wide.2 (H51.out _ HI2.out.low))).mono ?_; rintro e W3 ⟨rfl, hb3⟩; have HI3 := Lib.hid (HI2.out.below hb3 hNW2); have HX3 := Lib.hid ((hb3.block Bx (Array.getElem?_eq_some_iff.1 HX2.out).1).trans HX2.out); have HKO3 := Lib.hid (HKO.out.trans (keepsO_below hb3)); have HKS3 := Lib.hid (HKS.out.trans (KeepsS.below hb3)); clear hpc hkc hsb hrc hrf hpt hb3 HI2 HX2 HKO HKS))
          gi_loopw [10] (fun i wr => ∃ j : Nat, j ≤ wd ∧ i = .int .i64 j ∧ Hid (Lst wr w3 (Tb + 1) g Cb (w5.heap.size + 1) (s.size + 1) s x pre.length) ∧ Hid (wr.heap[Bx]? = some (.cells #[.int .i64 x, .int .i64 wd, .int .i32 r, .int .i64 cd] 41 (0, 0))) ∧ Hid (KeepsOthers W wr) ∧ Hid (KeepsS (w5.heap.size + 1) W wr)) (fun i _ => wd - (intOf i).toNat)
          case atStart => exact ⟨0, Nat.zero_le _, rfl, HI3, HX3, HKO3, HKS3⟩
          case round =>
            obtain ⟨j, hj, rfl, HL, HB, HKO4, HKS4⟩ := hrel
            clear HI3 HX3 HKO3 HKS3
            have hpc := HL.out.pos.cell
            have hpf := HL.out.pos.frozen
            have hkc := HL.out.num.cell
            have hlc := HL.out.sl.cell
            have hbg := HL.out.beg.bound hn1
            obtain ⟨hsb, hrc, hrf, hpt, _, _⟩ := HS.out wr HL.out.low
            obtain ⟨x0, x1, x2, x3⟩ := block4 HB.out
            have hj0 : (0 : Int) ≤ (j : Int) := by omega
            by_cases hjw : j < wd
            · have hji : (j : Int) < (wd : Int) := by omega
              have hjn : x + j < s.size + 1 := by omega
              obtain ⟨⟨v, hv⟩, hvf⟩ := HL.out.beg.at hjn
              have htn : ((x : Int) + (j : Int)).toNat = x + j := by omega
              have HLs := Lib.hid (HL.out.setBeg hn1 hgC hCB hjn (.int .i64 (x : Int)))
              have HBs := Lib.hid ((Below.heap_setCell wr ⟨g, x + j, none⟩ (.int .i64 (x : Int)) Bx (by show Bx ≠ g; omega)).trans HB.out)
              have HKOs := Lib.hid (HKO4.out.trans (KeepsOthers.setCell wr ⟨g, x + j, none⟩ (.int .i64 (x : Int))))
              have HKSs := Lib.hid (HKS4.out.trans (keepsS_set (b := w5.heap.size + 1) wr (g := g) (x + j) (.int .i64 (x : Int)) (by omega) (by omega) (fun o ho => (HL.out.beg.obj hn1 ho).2)))
              have hpc2 := HLs.out.pos.cell
              have hkc2 := HLs.out.num.cell
              obtain ⟨_, _, _, hpt2, _, _⟩ := HS.out _ HLs.out.low
              have hNs : Tb + 1 ≤ (wr.setCell ⟨g, x + j, none⟩ (.int .i64 (x : Int))).heap.size := by have := HLs.out.low.size; omega
              gi_wp2_with (gi_at_call 45; refine (CallsIn.inRound l (callsIn_wide.2 (H45.out _ j hjw HLs.out.low))).mono ?_; rintro e W6 ⟨rfl, hb6⟩; have HL6 := Lib.hid (HLs.out.below hb6 hNs); have HB6 := Lib.hid ((hb6.block Bx (Array.getElem?_eq_some_iff.1 HBs.out).1).trans HBs.out); have HKO6 := Lib.hid (HKOs.out.trans (keepsO_below hb6)); have HKS6 := Lib.hid (HKSs.out.trans (KeepsS.below hb6)); clear hb6 hpc hkc hlc hsb hrc hrf hpt hpc2 hkc2 hpt2 hv hvf x0 x1 x2 x3; have hkc := HL6.out.num.cell)
              go_roundw
              case rel => exact ⟨j + 1, by omega, by go_num, HL6, HB6, HKO6, HKS6⟩
              case measure => simp [intOf]; omega
            · obtain rfl : j = wd := by omega
              have HLp := Lib.hid (show Lst (wr.setCell ⟨Tb + 1, 0, none⟩ (.int .i64 ((x : Int) + (j : Int)))) w3 (Tb + 1) g Cb (w5.heap.size + 1) (s.size + 1) s (x + j) pre.length from HL.out.setPos hn1 hgC hCB (x + j))
              have hkc2 := HLp.out.num.cell
              have hkf2 := HLp.out.num.frozen
              have hpw := boxed_walk HL.out.pos
              have hkw := boxed_walk HLp.out.num
              have HPW := Lib.hid hpw
              have HKW := Lib.hid hkw
              clear hpw hkw
              gi_wp2
              refine ⟨((HKO4.out.trans (KeepsOthers.setCell _ _ _)).trans (KeepsOthers.setCell _ _ _)).from _, (HKS4.out.trans (keepsS_set wr 0 _ h2T (by omega) HPW.out)).trans (keepsS_set _ 0 _ (by omega) (by omega) HKW.out), ?_⟩
              show Lst _ w3 _ g Cb _ _ s (placeAt s (pre ++ [x]).length) (pre ++ [x]).length
              rw [List.length_append, List.length_singleton, HNX.out]
              exact HLp.out.setNum hn1 hgC hCB (pre.length + 1)
      · obtain ⟨p, hp⟩ : ∃ p, (placesFrom s 0)[pre.length]? = some p := ⟨_, List.getElem?_eq_getElem hlt⟩
        have hxp : ((x : Int) != (p : Int)) = true := by
          have : x ≠ p := fun e => hg (by rw [e]; exact hp)
          simp
          omega
        rw [placeAt_is hp] at hI
        have HI := Lib.hid hI
        have HG := Lib.hid hg
        obtain ⟨x0, x1, x2, x3⟩ := bX.cell
        have hpc := hI.pos.cell
        obtain ⟨hsb, hrc, hrf, hpt, _, _⟩ := HS.out W hI.low
        clear hI bX hg hp hlt
        gi_wp2
        exact ⟨(KeepsOthers.setCell _ _ _).from _, pre, x, rfl, HG.out⟩
    case done =>
      rintro D ys W hD rfl hI hK
      have hlen := spots_len' s
      have HP := places_le s
      have H44 := fun W (h : Below (Tb + 1) w3 W) => byte_any W Bp s (HS.out W h).2.2.2.2.1 (((placesFrom s 0).length : Nat) : Int)
      simp only [byteOf_end] at H44
      have H44 := Lib.hid H44
      have H50 := Lib.hid (fun W (h : Below (Tb + 1) w3 W) => len_any W Bp s (HS.out W h).2.2.2.2.1)
      have H21 := Lib.hid (fun W => count_any W s (by omega))
      rw [placeAt_end] at hI
      obtain ⟨L, hL⟩ : ∃ L, L = placesFrom s 0 := ⟨_, rfl⟩
      rw [← hL] at hI hlen HP H44 H50 H21
      have HLE := Lib.hid hL
      have A1 := fun W hT => all_on W s (-1) (by omega) hT
      rw [show fewOf (spotsFrom s 0) (-1) = spotsFrom s 0 from rfl, hlen] at A1
      have A2 := fun W hT => all_back W s (-1) (by omega) hT
      rw [show fewOf (spotsFrom s 0).reverse (-1) = (spotsFrom s 0).reverse from rfl, List.length_reverse, hlen] at A2
      have HA1 := Lib.hid A1
      have HA2 := Lib.hid A2
      have HLN := Lib.hid hlen
      have hnL : L.length ≤ 65536 := by omega
      have HI := Lib.hid hI
      have HK := Lib.hid hK
      have hNW : Tb + 1 ≤ W.heap.size := by have := hI.low.size; omega
      obtain ⟨hsb, hrc, hrf, hpt, hpl, _⟩ := HS.out W hI.low
      have hpc := hI.pos.cell
      have hkc := hI.num.cell
      clear hI hK hL hlen A1 A2 HC0 HT0 hT0 c0 hpl hrc hrf
      go_wp2_with (go_at_call 44; refine (H44.out _ HI.out.low).mono ?_; rintro e w' ⟨rfl, rfl⟩)
      have hd1 : ((s.size : Int) != (s.size : Int)) = false := by simp
      have hd2 : ((L.length : Int) != (L.length : Int)) = false := by simp
      have HBX := Lib.hid ((Below.refl W.heap.size W).drew)
      have HLW := Lib.hid (fun W' (h : Below W.heap.size W W') => HI.out.low.trans (h.mono hNW))
      have HC := Lib.hid (fun W' (h : Below W.heap.size W W') => show W'.cell? ⟨Tb + 1, 0, none⟩ = some (.int .i64 (s.size : Nat)) ∧ W'.cell? ⟨w.heap.size, 0, none⟩ = some (.string s) ∧ W'.cell? ⟨Tb + 1 + 1, 0, none⟩ = some (.int .i64 (L.length : Nat)) ∧ W'.cell? ⟨Tb, 0, none⟩ = some (.pointer (some ⟨Bp, 0, none⟩)) from by
        have h1 := HI.out.below h hNW
        obtain ⟨u1, _, _, u4, _, _⟩ := HS.out W' h1.low
        exact ⟨h1.pos.cell, u1, h1.num.cell, u4⟩)
      go_region_held3 (fun w' => w'.cell? ⟨Tb + 1, 0, none⟩ = some (.int .i64 (s.size : Nat)) ∧ w'.cell? ⟨w.heap.size, 0, none⟩ = some (.string s) ∧ w'.cell? ⟨Tb + 1 + 1, 0, none⟩ = some (.int .i64 (L.length : Nat)) ∧ w'.cell? ⟨Tb, 0, none⟩ = some (.pointer (some ⟨Bp, 0, none⟩))) (first | go_keep | exact HC.out _ HBX.out)
        (first
          | (go_at_call 50; (with_reducible refine (H50.out _ (HLW.out _ HBX.out)).mono ?_); rintro e wA ⟨rfl, rfl⟩)
          | (go_at_call 21; (with_reducible refine (H21.out _).mono ?_); rintro e wB ⟨rfl, hbB⟩; have HBX := Lib.hid (after HBX.out hbB); clear hbB))
      have HBF := Lib.hid HBX.out
      obtain ⟨_, hsb3, hkc3, _⟩ := HC.out _ HBF.out
      have HTA := Lib.hid (fun W' (h : Below W.heap.size W W') => show Lib.Utf8Tabs 0 1 W' from tabs_below HT.out (after HB2.out (by rw [hn0]; exact HLW.out _ h)))
      clear hpc hkc hsb hpt
      go_wp2_with fail
      refine (HA1.out _ (HTA.out _ HBF.out)).mono ?_
      rintro e V1 ⟨aA, cA, rfl, hoA, hbA⟩
      have HBV1 := Lib.hid (after HBF.out hbA)
      obtain ⟨_, hsb4, hkc4, _⟩ := HC.out _ HBV1.out
      have HOA := Lib.hid hoA.toCells
      clear hoA hbA hsb3 hkc3
      go_wp2_with fail
      refine (HA2.out _ (HTA.out _ HBV1.out)).mono ?_
      rintro e V2 ⟨aC, cC, rfl, hoC, hbC⟩
      have HBV2 := Lib.hid (after HBV1.out hbC)
      obtain ⟨_, hsb5, hkc5, _⟩ := HC.out _ HBV2.out
      have HOC := Lib.hid hoC.toCells
      have HOA2 := Lib.hid (HOA.out.below hbC)
      clear hoC hbC hsb4 hkc4 HOA HBX
      go_wp2_with fail
      go_loopw [17] (fun i wr => ∃ k : Nat, k ≤ L.length ∧ i = .int .i64 k ∧ Hid (Below V2.heap.size V2 wr)) (fun i _ => L.length - (intOf i).toNat)
      case atStart => exact ⟨0, Nat.zero_le _, rfl, Lib.hid (Below.refl _ _)⟩
      case round =>
        obtain ⟨k, hk, rfl, HBR⟩ := hrel
        obtain ⟨_, hsb6, hkc6, _⟩ := HC.out _ (after HBV2.out HBR.out)
        have hk0 : (0 : Int) ≤ (k : Int) := by omega
        by_cases hlt : k < L.length
        · obtain ⟨j, hj⟩ : ∃ j, k + 1 + j = L.length := ⟨L.length - (k + 1), by omega⟩
          obtain ⟨b1, o1, x, rfl, hx, p0, p1⟩ := pair_in (HOA2.out.below HBR.out) (k := k) (by rw [HLN.out]; exact hlt)
          obtain ⟨b2, o2, y, rfl, hy, r0, r1⟩ := pair_in (HOC.out.below HBR.out) (k := j) (by rw [List.length_reverse, HLN.out]; omega)
          have hxy : x = y := by
            rw [List.getElem?_reverse (by rw [HLN.out]; omega), HLN.out, show L.length - 1 - j = k by omega, hx] at hy
            exact Option.some.inj hy
          subst hxy
          have e1 : ((x.1 : Int) == (x.1 : Int)) = true := by simp
          have e2 : ((x.2 : Int) == (x.2 : Int)) = true := by simp
          have h1 : (k : Int) < (L.length : Int) := by omega
          have hj0 : (0 : Int) ≤ (L.length : Int) - 1 - (k : Int) := by omega
          have hj1 : (L.length : Int) - 1 - (k : Int) < (L.length : Int) := by omega
          have htn : ((L.length : Int) - 1 - (k : Int)).toNat = j := by omega
          have hw1 := IntWalk.i64_in ((L.length : Int) - 1) (by omega)
          have hw2 := IntWalk.i64_in ((L.length : Int) - 1 - (k : Int)) (by omega)
          clear hx hy
          go_wp2
          go_quiet (fail)
          have HBQ := Lib.hid (below_drewN HBR.out nq)
          go_wp2
          go_roundw
          case rel => exact ⟨k + 1, by omega, by go_num, HBQ⟩
          case measure => simp [intOf]; omega
        · obtain rfl : k = L.length := by omega
          have HBZ := Lib.hid (after HBV2.out HBR.out)
          have HZ1 := Lib.hid (HBZ.out.alloc HBZ.out.size (.cells #[.string ⟨#[]⟩] 9))
          have HZ2 := Lib.hid (HZ1.out.alloc HZ1.out.size (.cells #[.string s] 9))
          have HZ3 := Lib.hid (HZ2.out.alloc HZ2.out.size (.cells #[.string s] 9))
          obtain ⟨_, q1, _, _⟩ := HC.out _ HZ1.out
          obtain ⟨_, q2, _, _⟩ := HC.out _ HZ2.out
          clear hlt hk HA1 HA2 HOA2 HOC H44 H50 H21 HBR HBV1 HBV2 HBF
          go_wp2_with (go_at_call 36; refine (piecesF_any _ _).mono ?_; rintro e w' ⟨rfl, rfl⟩)
          have c1 : Boxed (((wr.alloc (.cells #[.string ⟨#[]⟩] 9)).alloc (.cells #[.string s] 9)).alloc (.cells #[.string s] 9)) wr.heap.size 9 (.string (glue s [])) := ((Boxed.new wr 9 (.string ⟨#[]⟩)).alloc _).alloc _
          have c2 : Boxed (((wr.alloc (.cells #[.string ⟨#[]⟩] 9)).alloc (.cells #[.string s] 9)).alloc (.cells #[.string s] 9)) (wr.heap.size + 1 + 1) 9 (.string s) := by
            have := Boxed.new ((wr.alloc (.cells #[.string ⟨#[]⟩] 9)).alloc (.cells #[.string s] 9)) 9 (.string s)
            rwa [World.size_alloc, World.size_alloc] at this
          have hBz : Below wr.heap.size wr (((wr.alloc (.cells #[.string ⟨#[]⟩] 9)).alloc (.cells #[.string s] 9)).alloc (.cells #[.string s] 9)) := (((Below.refl _ wr).alloc (Nat.le_refl _) _).alloc (by simp only [World.size_alloc]; omega) _).alloc (by simp only [World.size_alloc]; omega) _
          have hTz := HTA.out _ HZ3.out
          have h2z : 2 ≤ wr.heap.size := by have := HBZ.out.size; omega
          have hDw : D < W.heap.size := (Array.getElem?_eq_some_iff.1 HK.out).1
          have hZW : W.heap.size ≤ wr.heap.size := HBZ.out.size
          have hpN := pieces_le s
          clear q1 q2 hsb5 hkc5 hsb6 hkc6 HZ1 HZ2 HZ3
          refine (wpIn_wide (n := 5)).1 ?_
          refine wpIn_rangeFunc_ownG rfl (by omega) (gf := 61) (lb := #[.pointer (some ⟨wr.heap.size + 1 + 1, 0, none⟩)]) rfl trivial (enters_of Tryd.func61 (by kernel_rfl) rfl)
            (pieces_stops (5 - 1) (by omega) (wr.heap.size + 1 + 1) s _ (by omega) (by simp) c2.cell hTz) (fun h k => h.trans k) (keepsQ_b _ (by simp) (tabs_at hTz)) (Below.refl _ _) (fun _ => rfl)
            (fun pre V => (Boxed V wr.heap.size 9 (.string (glue s pre)) ∧ Boxed V (wr.heap.size + 1 + 1) 9 (.string s)) ∧ Below wr.heap.size wr V) (fun _ _ _ => False)
            (OwnFrom.and (Own.from (fun pre A B row hs hg hr => ⟨boxed_own _ _ (fun pre : List Nat => .string (glue s pre)) pre A B row hs.1 hg hr, boxed_own _ _ (fun _ : Unit => _) () A B row hs.2 hg hr⟩) _) (ownFrom_below (Nat.le_refl _) (by simp; omega))) (fun _ _ _ _ _ hs _ _ => hs)
            ⟨⟨c1, c2⟩, hBz⟩
            (fun x => { tmps := #[.string s, .pointer (some ⟨w.heap.size, 0, none⟩), .pointer (some ⟨w.heap.size + 1, 0, none⟩), .pointer (some ⟨Tb, 0, none⟩), .pointer (some ⟨Tb + 1, 0, none⟩), .pointer (some ⟨Tb + 1 + 1, 0, none⟩), .pointer (some ⟨Cb, 0, none⟩), undef, undef, undef, undef, undef, undef, .int .i64 ↑s.size, .int .i64 0, .slice aA L.length cA, .slice aC L.length cC, .int .i64 ↑L.length, .pointer (some ⟨wr.heap.size, 0, none⟩), .string (partS s x), .int .i32 (runeAt s x), .string s, .int .i64 ↑s.size, .bool false, .bool false, .bool true, .bool false, .bool false, undef, .string s, .pointer (some ⟨Bp, 0, none⟩), .pointer (some ⟨Bp, 0, none⟩), .bool false, .string s, .int .i64 ↑s.size, .int .i64 (↑s.size + 1), .slice (some ⟨g, 0, none⟩) (s.size + 1) (s.size + 1), .string s, .func (.func 56) #[] #[.pointer (some ⟨w5.heap.size, 0, none⟩)], .bool false, .string s, .func (.func 56) #[] #[.pointer (some ⟨w5.heap.size + 1, 0, none⟩)], undef, undef, undef, undef, undef, undef, undef, undef, undef, undef, undef, undef, undef, undef, undef, undef, undef, undef, undef, undef, undef, undef, undef, undef, undef, undef, undef, undef, undef, undef, undef, undef, undef, undef, undef, undef, undef, undef, undef, undef, undef, undef, undef, undef, undef, undef, undef, undef, undef, undef, undef, undef, undef, undef, undef, undef, undef, undef, undef, undef, undef, undef, undef, undef, undef, undef, undef, undef, undef, undef, undef, undef, undef, undef, undef, undef, undef, undef, undef, undef, undef, undef, undef, undef, undef, undef, undef, undef, undef, undef, undef, undef, undef, undef, undef, undef, undef, undef, undef, undef, undef, undef, .tuple #[.int .i64 ↑s.size, .int .i64 0], .pointer (some ⟨Bp, 0, none⟩), .int .i64 ↑L.length, .tuple #[.int .i64 ↑s.size, .int .i64 0], .int .i64 ↑s.size, .int .i64 0, .int .i64 ↑s.size, .string s, .int .i64 ↑s.size, .bool false, .bool false, .int .i64 ↑L.length, .pointer (some ⟨Bp, 0, none⟩), .int .i64 ↑L.length, .bool false, .bool false, .bool false, .int .i64 ↑L.length, .string s, .int .i64 ↑L.length, .bool false, .bool false, .bool false, .int .i64 ↑s.size, .string s, .int .i64 ↑s.size, .bool false, .bool false, .bool false, .int .i64 0, .bool false, .bool false, .string s, .slice aA L.length cA, .string s, .slice aC L.length cC, .slice aA L.length cA, .int .i64 ↑L.length, .int .i64 ↑L.length, .bool false, .bool false, .slice aC L.length cC, .int .i64 ↑L.length, .int .i64 ↑L.length, .bool false, .bool false, .int .i64 ↑L.length, .int .i64 ↑L.length, .bool false, u193, u194, u195, u196, u197, u198, u199, u200, u201, u202, u203, u204, u205, u206, .string s, .func (.func 61) #[] #[.pointer (some ⟨wr.heap.size + 1, 0, none⟩)], .bool false, .string s, .func (.func 61) #[] #[.pointer (some ⟨wr.heap.size + 1 + 1, 0, none⟩)], .string (partS s x), .int .i32 (runeAt s x), undef, undef, undef, undef, undef, undef, undef, undef], defers := [] }) ?assign ?body ?done ?stop
          case assign =>
            intro l x V K hK
            gi_wp2
            exact hK
          case stop =>
            rintro _ _ _ _ _ _ h _
            exact h.elim
          case body =>
            rintro l pre x V ⟨⟨hv, hbu⟩, hB⟩ hlt
            have HV := Lib.hid hv
            have HBU := Lib.hid hbu
            have HBB := Lib.hid hB
            have hc := hv.cell
            have hf := hv.frozen
            have hgs := glue_size s pre
            have hps : (partS s x).size ≤ 4 := by have := part_range s x; unfold partS; rw [ByteArray.size_extract]; omega
            have HGA := Lib.hid (glue_add s pre x)
            have hr : ((runeAt s x : Int) == -1) = false := by unfold runeAt; simp
            clear hv hbu hB c1 c2 hBz hTz
            generalize runeAt s x = r at *
            generalize partS s x = p at *
            generalize glue s pre = t at *
            gi_wp2
            refine ⟨(KeepsOthers.setCell _ _ _).from _, (KeepsQ.refl _ V).setCell HV.out (by decide) h2z (by omega) _, ⟨?_, HBU.out.other (by omega) _⟩, HBB.out.setCell (p := ⟨wr.heap.size, 0, none⟩) (Nat.le_refl _) _⟩
            rw [HGA.out]
            exact HV.out.set _
          case done =>
            rintro D2 ys V hD2 rfl ⟨⟨hv, hbu⟩, hB⟩ hK2
            rw [glue_all] at hv
            have HV := Lib.hid hv
            have HBB := Lib.hid hB
            have HK2 := Lib.hid hK2
            have HVW := Lib.hid (HBZ.out.trans (hB.mono hZW))
            have HKD := Lib.hid (((HBZ.out.trans (hB.mono hZW)).block D hDw).trans HK.out)
            have htc := hv.cell
            obtain ⟨_, hsv, _, _⟩ := HC.out _ HVW.out
            obtain ⟨_, hrc, hrf, _, _, HRB⟩ := HS.out _ (HLW.out _ HVW.out)
            clear hv hbu hB hK2 c1 c2 hBz hTz
            go_wp2_with fail
            have hD1 : D < wr.heap.size := Nat.lt_of_lt_of_le hDw hZW
            have hD2' : wr.heap.size ≤ D2 := by simp at hD2; omega
            have hKa := (KeepsOthers.setCell V ⟨w.heap.size + 1, 0, none⟩ (.bool true)).same D2 _ HK2.out rfl
            have hKb := (KeepsOthers.setCell V ⟨w.heap.size + 1, 0, none⟩ (.bool true)).same D _ HKD.out rfl
            have X1 := HRB.set (.bool true)
            have hKb2 : ((V.setCell ⟨w.heap.size + 1, 0, none⟩ (.bool true)).putObj D2 (.deferred none)).heap[D]? = some (.deferred (some [])) := (World.putObj_heap_other (by omega)).trans hKb
            refine ⟨by simp, .inl ⟨_, _, rfl, run_takeDeferred hKa, by simp, .inl ⟨_, _, rfl, run_takeDeferred hKb2, ?_⟩⟩⟩
            have hk5 := cell_kept X1.cell (grownBy_putObj' _ D2 (.deferred none)) (fun r e => by cases e; exact ⟨_, hKa, rfl⟩)
            have hk6 := cell_kept hk5 (grownBy_putObj' _ D (.deferred none)) (fun r e => by cases e; exact ⟨_, hKb2, rfl⟩)
            have hfin : Below w.heap.size w V := after HB2.out (by rw [hn0]; exact HLW.out _ HVW.out)
            have hwD : w.heap.size ≤ D := by simp at hD; omega
            refine ⟨.bool true, ?_, rfl, ((hfin.setCell (p := ⟨w.heap.size + 1, 0, none⟩) (Nat.le_succ _) _).trans (belowK_b (w := w) (Nat.le_refl _) _ D2 _ _ (by omega) hKa rfl rfl)).trans (belowK_b (w := w) (Nat.le_refl _) _ D _ _ hwD hKb2 rfl rfl)⟩
            simp [results, Tryd.f14, go_sem, hk6]

theorem lost_walk (w : World) (s : ByteArray) (_hs : s.size ≤ 1048576) (hT : Lib.Utf8Tabs 0 1 w) :
    Calls Tryd.prog 14 #[.string s] w fun e w' => e = .returned (.bool true) ∧ Below w.heap.size w w' := callsIn_wide.1 (lost_in w s hT)

end Go.Proofs.YthkehgmeaedflaaDoor
