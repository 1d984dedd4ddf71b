/-
  The law TopApart: walked.
-/
import Derived.Test.YtjnidopbdjbbgaaGreatA24
import Derived.Test.YtjnidopbdjbbgaaGreatA23
import Derived.Test.YtjnidopbdjbbgaaGreatA32
namespace Go.Proofs.YtjnidopbdjbbgaaGreat
open Go.RowKit
set_option linter.unusedVariables false


set_option maxRecDepth 20000 in
set_option maxHeartbeats 8000000 in
theorem same_drew (w : World) (a b : Option Addr) (c d : Nat) (l : List Int) (n : Nat) (hn : l.length = n) (hbig : n ≤ 1048576) (ha : Cells w a (l.map i8V)) (hb : Cells w b (l.map i8V)) :
    Calls Tryz.prog 9 #[.slice a n c, .slice b n d] w fun e w' => e = .returned (.bool true) ∧ ∃ j, w' = w.drewN j := by
  have HA := Lib.hid ha
  have HB := Lib.hid hb
  have HN := Lib.hid hn
  clear ha hb hn
  go_enter Tryz.func9, Tryz.ntmps9
  go_wp2
  go_loopg [5] n (fun r i wr => ∃ k j : Nat, k + r = n ∧ i = .int .i64 k ∧ w.drewN j = wr)
  case atStart => exact ⟨0, 0, by omega, rfl, rfl⟩
  case round =>
    obtain ⟨k, j, hk, rfl, rfl⟩ := hrel
    have hbw : Below w.heap.size w (w.drewN j) := below_drewN (Below.refl _ _) j
    have HK := Lib.hid hk
    have hk0 : (0 : Int) ≤ (k : Int) := by omega
    by_cases hlt : k < n
    · have hk1 : (k : Int) < (n : Int) := by omega
      have hk2 : (k : Int) ≤ 1048576 := by omega
      obtain ⟨x, hx⟩ : ∃ x, l[k]? = some x := ⟨_, List.getElem?_eq_getElem (by have := HN.out; omega)⟩
      obtain ⟨ab, ao, rfl, q0⟩ := (HA.out.below hbw).getm hx
      obtain ⟨bb, bo, rfl, q1⟩ := (HB.out.below hbw).getm hx
      unfold i8V at q0 q1
      have HLT := Lib.hid hlt
      clear hk hbw hx hlt
      generalize hV : w.drewN j = V at q0 q1 ⊢
      have HV := Lib.hid hV
      clear hV
      go_wp2_with fail
      go_quiet (fail)
      go_wp2
      go_roundg (gk - 1)
      case measure => have := HK.out; have := HLT.out; omega
      case rel => exact ⟨k + 1, _, by have := HK.out; have := HLT.out; omega, rfl, by rw [← HV.out, World.drewN_drewN]⟩
    · have hk1 : ¬ (k : Int) < (n : Int) := by omega
      clear hk hbw hlt
      go_wp2
      go_ret
      exact ⟨rfl, _, rfl⟩

theorem cell_own {W : World} {B g n c : Nat} {l : List Int} (h : Own W B 1 (some ⟨g, 0, none⟩) n c (l.map i64V)) {k : Nat} {x : Int} (hx : l[k]? = some x) : W.cell? ⟨g, k, none⟩ = some (i64V x) := (h.getm hx).1
/-- What the engine answers to classes. -/
theorem classes_sum (w : World) (a : Option Addr) (c : Nat) (l : List Nat) (b : Int) (hn : l.length ≤ 1048576) (hc : Cells w a (l.map u8V)) :
    Calls Tryz.prog 6 #[.slice a l.length c, .int .i8 b] w fun e w' => ((∃ err : Int, (err = 2 ∨ err = 210) ∧ (mayB b = false ∨ lastB (l.map knownOf) = false) ∧ e = .returned (.tuple #[.agg #[.int .i8 0, .slice none 0 0, .slice none 0 0], .int .i64 err])) ∨
      (mayB b = true ∧ lastB (l.map knownOf) = true ∧ ∃ ka kc la lc, e = .returned (.tuple #[.agg #[.int .i8 (baseOf b (l.map knownOf)), .slice ka l.length kc, .slice la l.length lc], .int .i64 0]) ∧ Own w' w.heap.size 1 ka l.length kc ((l.map knownOf).map u8V) ∧
        Own w' w.heap.size 1 la l.length lc ((engineOf b (l.map knownOf)).map i8V))) ∧ Below w.heap.size w w' := by
  cases hb : mayB b with
  | false =>
    refine (classes_may w a l.length c b hb).mono ?_
    rintro e w' ⟨rfl, h⟩
    exact ⟨.inl ⟨2, .inl rfl, .inl rfl, rfl⟩, h⟩
  | true =>
    refine (classes_walk w a c l b hb hn hc).mono ?_
    rintro e w' ⟨⟨h1, rfl⟩ | ⟨h1, h2⟩, h⟩
    · exact ⟨.inl ⟨210, .inr rfl, .inr h1, rfl⟩, h⟩
    · exact ⟨.inr ⟨rfl, h1, h2⟩, h⟩

theorem classes_big (w : World) (a : Option Addr) (n c : Nat) (b : Int) (hb : mayB b = true) (hn : 1048576 < n) (hm : n ≤ 140737488355328) :
    Calls Tryz.prog 6 #[.slice a n c, .int .i8 b] w fun e w' => e = .returned (.tuple #[.agg #[.int .i8 0, .slice none 0 0, .slice none 0 0], .int .i64 4]) ∧ Below w.heap.size w w' := classes_long w a n c b hb hn hm

set_option maxRecDepth 20000 in
set_option maxHeartbeats 8000000 in
theorem apart_walk (w : World) (a0 : Option Addr) (c0 : Nat) (l : List Nat) (hl0 : l.length ≤ c0) (hc0 : c0 ≤ 1048576) (hx0 : Cells w a0 (l.map u8V)) (a1 : Option Addr) (c1 : Nat) (inner : List Nat) (hl1 : inner.length ≤ c1) (hc1 : c1 ≤ 1048576) (hx1 : Cells w a1 (inner.map u8V)) (at' : Int) (b : Int) :
    Calls Tryz.prog 3 #[.slice a0 l.length c0, .slice a1 inner.length c1, .int .i64 at', .int .i8 b] w fun e w' => e = .returned (.bool true) ∧ Below w.heap.size w w' := by
  have HX0 := Lib.hid hx0
  have HX1 := Lib.hid hx1
  have HC := Lib.hid (fun (w : World) hc => classes_sum w a0 c0 l b (by omega) hc)
  have HR := Lib.hid (fun w => runsT_any w)
  obtain ⟨n, hnn⟩ : ∃ n, n = l.length := ⟨_, rfl⟩
  have HN := Lib.hid hnn
  have HM := Lib.hid (fun (w : World) hc => rmatch_any w a0 c0 l (by omega) hc)
  rw [← hnn] at hl0 HC HM ⊢
  obtain ⟨n1, hn1⟩ : ∃ n, n = inner.length := ⟨_, rfl⟩
  have HN1 := Lib.hid hn1
  rw [← hn1] at hl1 ⊢
  clear hx0 hx1 hnn hn1
  go_enter Tryz.func3, Tryz.ntmps3
  go_wp2_with fail
  refine (HR.out _).mono ?_
  rintro e W1 ⟨rfl, b1⟩
  have B1 := Lib.hid b1
  clear b1
  go_wp2_with fail
  refine (HC.out _ (HX0.out.below B1.out)).mono ?_
  rintro e W2 ⟨⟨err, herr, _, rfl⟩ | ⟨hmay, hlast, ka, kc, la, lc, rfl, q1, q2⟩, b2⟩
  · have B2 := Lib.hid (B1.out.trans (b2.mono B1.out.size))
    clear b2
    rcases herr with rfl | rfl
    all_goals
      go_wp2
      go_ret
      exact ⟨rfl, B2.out.alloc B2.out.size _⟩
  · have B2 := Lib.hid (B1.out.trans (b2.mono B1.out.size))
    have Q2 := Lib.hid q2
    clear b2 q1 q2
    by_cases h0 : at' < 0
    · go_wp2
      go_ret
      exact ⟨rfl, B2.out.alloc B2.out.size _⟩
    by_cases h1 : (n : Int) ≤ at'
    · have h1' : at' ≥ (n : Int) := h1
      go_wp2
      go_ret
      exact ⟨rfl, B2.out.alloc B2.out.size _⟩
    obtain ⟨p, rfl⟩ := Int.eq_ofNat_of_zero_le (show 0 ≤ at' by omega)
    have hp : p < n := by omega
    obtain ⟨x, hx⟩ : ∃ x, l[p]? = some x := ⟨_, List.getElem?_eq_getElem (by rw [← HN.out]; exact hp)⟩
    obtain ⟨M, hM⟩ : ∃ M, (matchOf l)[p]? = some M := ⟨_, List.getElem?_eq_getElem (by rw [matchOf_len, ← HN.out]; exact hp)⟩
    go_wp2_with fail
    obtain ⟨N1, hN1⟩ : ∃ N1, N1 = W2.heap.size := ⟨_, rfl⟩
    obtain ⟨V2, hV2⟩ : ∃ V2, V2 = W2.alloc (.cells #[.int .i8 (baseOf b (l.map knownOf)), .slice ka n kc, .slice la n lc] 29) := ⟨_, rfl⟩
    have HX2 := Lib.hid (show V2.heap[N1]? = some (.cells #[.int .i8 (baseOf b (l.map knownOf)), .slice ka n kc, .slice la n lc] 29) from by rw [hV2, hN1]; exact heap_alloc_new _ _)
    have BV := Lib.hid (show Below w.heap.size w V2 from by rw [hV2]; exact B2.out.alloc B2.out.size _)
    have QV := Lib.hid (show Own V2 W1.heap.size 1 la n lc ((engineOf b (l.map knownOf)).map i8V) from by rw [hV2]; exact Q2.out.alloc _)
    have HNV := Lib.hid (show N1 < V2.heap.size from by rw [hV2, hN1]; simp)
    rw [← hN1, ← hV2]
    clear hN1 hV2
    refine (HM.out _ (HX0.out.below BV.out)).mono ?_
    rintro e W3 ⟨g, rfl, m1, m2⟩
    have B3 := Lib.hid (BV.out.trans (m2.mono BV.out.size))
    have HX3 := Lib.hid ((m2.block N1 HNV.out).trans HX2.out)
    have QW := Lib.hid (QV.out.below m2)
    have MM := Lib.hid m1
    have e0 := cells_at HX3.out 0
    have e1 := cells_at HX3.out 1
    have e2 := cells_at HX3.out 2
    obtain ⟨z0, o0, rfl, hcx⟩ := (HX0.out.below B3.out).getm hx
    have hcm := (MM.out.getm hM).1
    unfold u8V at hcx
    unfold i64V at hcm
    clear m1 m2
    have hp0 : (0 : Int) ≤ (p : Int) := by omega
    have hp1 : (p : Int) < (n : Int) := by omega
    by_cases hb : begins x = true
    case neg =>
      have h3 : x ≠ 20 ∧ x ≠ 21 ∧ x ≠ 22 := by simp only [begins, Bool.or_eq_true, beq_iff_eq] at hb; omega
      have f1 : ((x : Int) != 20) = true := by simp; omega
      have f2 : ((x : Int) != 21) = true := by simp; omega
      have f3 : ((x : Int) != 22) = true := by simp; omega
      clear h3 hb
      go_wp2
      go_ret
      exact ⟨rfl, B3.out⟩
    case pos =>
      by_cases hMn : M ≥ (n : Int)
      · have h3 : x = 20 ∨ x = 21 ∨ x = 22 := by simp only [begins, Bool.or_eq_true, beq_iff_eq] at hb; omega
        clear hb
        rcases h3 with rfl | rfl | rfl
        all_goals
          go_wp2
          go_ret
          exact ⟨rfl, B3.out⟩
      · have hxD : l.getD p 0 = x := by rw [List.getD_eq_getElem?_getD, hx]; rfl
        have hMD : (matchOf l).getD p 0 = M := by rw [List.getD_eq_getElem?_getD, hM]; rfl
        obtain ⟨q, hMq⟩ : ∃ q : Nat, M = (q : Int) := by
          have := match_close (l := l) (p := p) (by rw [hxD]; exact hb)
          rw [hMD] at this
          cases hcl : closeAt 0 (l.drop (p + 1)) with
          | none => rw [hcl] at this; exact ⟨_, this⟩
          | some k => rw [hcl] at this; exact ⟨_, this⟩
        subst hMq
        have hqn : q < n := by omega
        obtain ⟨v, hv, hv126⟩ := engine_at (b := b) (l := l) (p := p) (by rw [← HN.out]; omega) (by rw [← HN.out]; exact hp) (by rw [hxD]; exact hb)
        obtain ⟨z1, o1, rfl, hcv⟩ := QW.out.toCells.getm hv
        unfold i8V at hcv
        have h3 : x = 20 ∨ x = 21 ∨ x = 22 := by simp only [begins, Bool.or_eq_true, beq_iff_eq] at hb; omega
        by_cases hv123 : v > 123
        · have hv2 : (v : Int) > 123 := by omega
          clear hb
          rcases h3 with rfl | rfl | rfl
          all_goals
            go_wp2
            go_ret
            exact ⟨rfl, B3.out⟩
        · have hv2 : ¬ (v : Int) > 123 := by omega
          have hv3 : ¬ (123 : Int) < (v : Int) := by omega
          have HWI := Lib.hid (fun (w : World) hc => wholeT_any w a1 c1 inner (by rw [← HN1.out]; omega) hc)
          rw [← HN1.out] at HWI
          have HB := Lib.hid hb
          have HL : Hid (wholeB inner = true → lastB ((otherOf l inner p q).map knownOf) = true ∧ ((otherOf l inner p q).length ≤ 1048576 → baseOf b ((otherOf l inner p q).map knownOf) = baseOf b (l.map knownOf) ∧
      (engineOf b ((otherOf l inner p q).map knownOf)).take (p + 1) = (engineOf b (l.map knownOf)).take (p + 1) ∧ (engineOf b ((otherOf l inner p q).map knownOf)).drop (p + 1 + inner.length) = (engineOf b (l.map knownOf)).drop q) ∧
      (otherOf l inner p q).length = p + 1 + inner.length + (l.length - q) ∧ p < q) := Lib.hid fun hwh => other_known (by rw [hxD]; exact hb) hMD (by rw [← HN.out]; exact hqn) hwh (by rw [← HN.out]; omega) hlast (by rw [List.getD_eq_getElem?_getD, hv]; show (v : Int) ≤ 123; omega)
          have hM2 := Lib.hid hM
          have hv2' := Lib.hid hv
          clear hb hxD hMD hx hM hv hMn hlast
          rcases h3 with rfl | rfl | rfl
          all_goals
            go_wp2_with fail
            refine (HWI.out _ (HX1.out.below B3.out)).mono ?_
            rintro e W4 ⟨rfl, b4⟩
            have B4 := Lib.hid (B3.out.trans (b4.mono B3.out.size))
            have HX4 := Lib.hid ((b4.block N1 (Array.getElem?_eq_some_iff.1 HX3.out).1).trans HX3.out)
            have QX := Lib.hid (QW.out.below b4)
            have MX := Lib.hid (MM.out.below b4)
            clear b4
            cases hwh : wholeB inner with
            | false =>
              go_wp2
              go_ret
              exact ⟨rfl, B4.out⟩
            | true =>
              have HLA := Lib.hid (HL.out hwh)
              have HXA := Lib.hid (HX0.out.below B4.out)
              have HXB := Lib.hid (HX1.out.below B4.out)
              have hcm2 := cell_own MX.out hM2.out
              unfold i64V at hcm2
              clear hwh e0 e1 e2 hcx hcm hcv
              have hpc : (p : Int) + 1 ≤ (c0 : Int) := by omega
              obtain ⟨i0, hi, hz0, hz1, hz2⟩ := info_parts info35
              go_wp2_with (first
                | (at_builtin; refine wpList_app rfl _ _ 22 22 rfl 35 i0 (.int .u8 0) 1 1 Tryz.underlying22 hi hz0 hz1 hz2 rfl (by simp [Value.cells, Value.oneCell']) W4.heap.size _ _ _ _ rfl HO6.out _ _ ((l.drop q).map u8V) rfl (Src.ofCells Tryz.underlying22 _ _ _ _ (by rw [List.length_map, List.length_drop, ← HN.out]; omega) (by rw [List.map_drop]; exact (HXA.out.below HB6.out).drop _) (ones u8V (fun _ => rfl) _) (by decide)) (by simp only [maxLen]; omega) (by omega) HB6.out.size ?_; intro ac cc W7 hown7 hap7; have HO7 := Lib.hid hown7; have HB7 := Lib.hid (HB6.out.trans (hap7.below HO6.out HB6.out.size)); clear hown7 hap7)
                | (at_builtin; refine wpList_app rfl _ _ 22 22 rfl 35 i0 (.int .u8 0) 1 1 Tryz.underlying22 hi hz0 hz1 hz2 rfl (by simp [Value.cells, Value.oneCell']) W4.heap.size _ _ _ _ rfl HO5.out _ _ (inner.map u8V) rfl (Src.ofCells Tryz.underlying22 _ _ _ _ (by rw [List.length_map, ← HN1.out]; omega) (HXB.out.below HB5.out) (ones u8V (fun _ => rfl) _) (by decide)) (by simp only [maxLen]; omega) (by omega) HB5.out.size ?_; intro ab cb W6 hown6 hap6; have HO6 : Hid (Own W6 W4.heap.size 1 ab (p + 1 + n1) cb ((l.take (p + 1)).map u8V ++ inner.map u8V)) := Lib.hid hown6; have HB6 := Lib.hid (HB5.out.trans (hap6.below HO5.out HB5.out.size)); have hcm3 := cell_own (MX.out.below HB6.out) hM2.out; unfold i64V at hcm3; clear hown6 hap6)
                | (at_builtin; refine wpList_app rfl _ _ 22 22 rfl 35 i0 (.int .u8 0) 1 1 Tryz.underlying22 hi hz0 hz1 hz2 rfl (by simp [Value.cells, Value.oneCell']) W4.heap.size _ _ _ [] rfl (Own.nil _ _ _) _ _ ((l.take (p + 1)).map u8V) rfl (Src.ofCells Tryz.underlying22 _ _ _ _ (by rw [List.length_map, List.length_take, ← HN.out]; omega) (by rw [List.map_take]; exact HXA.out.take _) (ones u8V (fun _ => rfl) _) (by decide)) (by simp only [maxLen]; omega) (by omega) (Nat.le_refl _) ?_; intro aa ca W5 hown5 hap5; have HO5 : Hid (Own W5 W4.heap.size 1 aa (p + 1) ca ((l.take (p + 1)).map u8V)) := Lib.hid ((hown5.eqN (by omega)).eqL (by simp)); have HB5 := Lib.hid (hap5.below (Own.nil W4 W4.heap.size 1) (Nat.le_refl _)); clear hown5 hap5))
              obtain ⟨T, hT⟩ : ∃ T, T = p + 1 + n1 + (n - q) := ⟨_, rfl⟩
              rw [← hT]
              obtain ⟨hla, hrest, hlen, hpq⟩ := HLA.out
              have hTl : (otherOf l inner p q).length = T := by rw [hlen, hT, ← HN.out, ← HN1.out]
              have HO : Hid (Own W7 W4.heap.size 1 ac T cc ((otherOf l inner p q).map u8V)) := Lib.hid ((HO7.out.eqN hT.symm).eqL (by unfold otherOf; rw [List.map_append, List.map_append]))
              have B7 := Lib.hid (B4.out.trans (HB7.out.mono B4.out.size))
              have HX7 := Lib.hid ((HB7.out.block N1 (Array.getElem?_eq_some_iff.1 HX4.out).1).trans HX4.out)
              have QY := Lib.hid (QX.out.below HB7.out)
              have MY := Lib.hid (MX.out.below HB7.out)
              have HTL := Lib.hid hTl
              have HT := Lib.hid hT
              clear hTl hT hcm3 hcm2 hlen
              by_cases hbig : 1048576 < T
              · have hb2 : (T : Int) > 1048576 := by omega
                have hT9 : T ≤ 140737488355328 := by have := HT.out; omega
                refine (classes_big W7 ac T cc b hmay hbig hT9).mono ?_
                rintro e W8 ⟨rfl, b8⟩
                go_wp2
                go_ret
                exact ⟨rfl, (B7.out.trans (b8.mono B7.out.size)).alloc (B7.out.trans (b8.mono B7.out.size)).size _⟩
              · have hb2 : ¬ (T : Int) > 1048576 := by omega
                have hb3 : ¬ (1048576 : Int) < (T : Int) := by omega
                have HC2 := classes_sum W7 ac cc (otherOf l inner p q) b (by rw [HTL.out]; omega) HO.out.toCells
                rw [HTL.out] at HC2
                refine HC2.mono ?_
                rintro e W8 ⟨⟨err, herr, hbad, rfl⟩ | ⟨_, _, kb, kd, lb, ld, rfl, r1, r2⟩, b8⟩
                · exfalso
                  rcases hbad with h | h
                  · rw [hmay] at h; cases h
                  · rw [hla] at h; cases h
                · obtain ⟨hbase, htake, hdrop⟩ := hrest (by rw [HTL.out]; omega)
                  rw [hbase]
                  have HTK := Lib.hid htake
                  have HDR := Lib.hid hdrop
                  have B8 := Lib.hid (B7.out.trans (b8.mono B7.out.size))
                  have HX8 := Lib.hid ((b8.block N1 (Array.getElem?_eq_some_iff.1 HX7.out).1).trans HX7.out)
                  have QZ := Lib.hid (QY.out.below b8)
                  have MZ := Lib.hid (MY.out.below b8)
                  have RZ := Lib.hid r2
                  have hpT : p + 1 + n1 < T := by have := HT.out; omega
                  clear HC2 hbase htake hdrop b8 r1 r2 hla hrest
                  obtain ⟨z2, hz2⟩ := RZ.out.pos (by omega)
                  subst hz2
                  have hle1 := QZ.out.le
                  have hle2 := RZ.out.le
                  go_wp2_with fail
                  obtain ⟨N2, hN2⟩ : ∃ N2, N2 = W8.heap.size := ⟨_, rfl⟩
                  obtain ⟨V, hV⟩ : ∃ V, V = W8.alloc (.cells #[.int .i8 (baseOf b (l.map knownOf)), .slice kb T kd, .slice (some ⟨z2, 0, none⟩) T ld] 29) := ⟨_, rfl⟩
                  have BV8 : Below W8.heap.size W8 V := by rw [hV]; exact (Below.refl _ _).alloc (Nat.le_refl _) _
                  have HY2 := Lib.hid (show V.heap[N2]? = some (.cells #[.int .i8 (baseOf b (l.map knownOf)), .slice kb T kd, .slice (some ⟨z2, 0, none⟩) T ld] 29) from by rw [hV, hN2]; exact heap_alloc_new _ _)
                  have HY1 := Lib.hid ((BV8.block N1 (Array.getElem?_eq_some_iff.1 HX8.out).1).trans HX8.out)
                  have BV9 := Lib.hid (B8.out.trans (BV8.mono B8.out.size))
                  have QV := Lib.hid (QZ.out.below BV8)
                  have MV := Lib.hid (MZ.out.below BV8)
                  have RV := Lib.hid (RZ.out.below BV8)
                  rw [← hN2, ← hV]
                  clear hN2 hV BV8
                  have e0 := cells_at HY1.out 0
                  have e2 := cells_at HY1.out 2
                  have d0 := cells_at HY2.out 0
                  have d2 := cells_at HY2.out 2
                  have hcm := cell_own MV.out hM2.out
                  unfold i64V at hcm
                  have hel1 : (engineOf b (l.map knownOf)).length = n := by rw [engine_len, List.length_map, HN.out]
                  have hel2 : (engineOf b ((otherOf l inner p q).map knownOf)).length = T := by rw [engine_len, List.length_map, HTL.out]
                  have HS1 := Lib.hid (fun (W : World) (h1 : Cells W (some ⟨z2, 0, none⟩) (((engineOf b (l.map knownOf)).take (p + 1)).map i8V)) (h2 : Cells W (some ⟨z1, o1, none⟩) (((engineOf b (l.map knownOf)).take (p + 1)).map i8V)) => same_drew W (some ⟨z2, 0, none⟩) (some ⟨z1, o1, none⟩) ld lc ((engineOf b (l.map knownOf)).take (p + 1)) (p + 1) (by rw [List.length_take, hel1]; omega) (by omega) h1 h2)
                  have H1 := Lib.hid (show Cells V (some ⟨z2, 0, none⟩) (((engineOf b (l.map knownOf)).take (p + 1)).map i8V) from by rw [← HTK.out, List.map_take]; exact RV.out.toCells.take _)
                  have H2 := Lib.hid (show Cells V (some ⟨z1, o1, none⟩) (((engineOf b (l.map knownOf)).take (p + 1)).map i8V) from by rw [List.map_take]; exact QV.out.toCells.take _)
                  have hp2 : (p : Int) + 1 ≤ (ld : Int) := by omega
                  have hp3 : (p : Int) + 1 ≤ (lc : Int) := by omega
                  go_quiet ((go_at_call 9; exact Calls.quiet_of (HS1.out _ (H1.out.below (below_drewN (Below.refl _ _) _)) (H2.out.below (below_drewN (Below.refl _ _) _)))))
                  generalize hU : V.drewN _ = U
                  have hbU : Below V.heap.size V U := by rw [← hU]; exact below_drewN (Below.refl _ _) _
                  have BU := Lib.hid (BV9.out.trans (hbU.mono BV9.out.size))
                  have u2 := cellN hU e2
                  have v2 := cellN hU d2
                  have um := cellN hU hcm
                  have hTq : T - (p + 1 + n1) = n - q := by have := HT.out; omega
                  have H3 := Lib.hid (show Cells U (some ⟨z2, 0 + (p + 1 + n1), none⟩) (((engineOf b (l.map knownOf)).drop q).map i8V) from by
                    rw [← HDR.out, List.map_drop, ← HN1.out]
                    exact (RV.out.toCells.below hbU).drop _)
                  have H4 := Lib.hid (show Cells U (some ⟨z1, o1 + q, none⟩) (((engineOf b (l.map knownOf)).drop q).map i8V) from by
                    rw [List.map_drop]
                    exact (QV.out.toCells.below hbU).drop _)
                  rw [Nat.zero_add] at H3
                  have HS2 := Lib.hid (fun (W : World) (h1 : Cells W (some ⟨z2, p + 1 + n1, none⟩) (((engineOf b (l.map knownOf)).drop q).map i8V)) (h2 : Cells W (some ⟨z1, o1 + q, none⟩) (((engineOf b (l.map knownOf)).drop q).map i8V)) => same_drew W (some ⟨z2, p + 1 + n1, none⟩) (some ⟨z1, o1 + q, none⟩) (ld - (p + 1 + n1)) (lc - q) ((engineOf b (l.map knownOf)).drop q) (n - q) (by rw [List.length_drop, hel1]) (by omega) h1 h2)
                  have hq1 : p + 1 + n1 < ld := by omega
                  have hq2 : q < lc := by omega
                  have hn12 : (n1 : Int) ≤ 1048576 := by omega
                  have hp9 : (p : Int) ≤ 1048576 := by omega
                  clear hU e0 e2 d0 d2 hcm
                  go_wp2_with fail
                  go_quiet ((go_at_call 9; (try rw [hTq]); exact Calls.quiet_of (HS2.out _ (H3.out.below (below_drewN (Below.refl _ _) _)) (H4.out.below (below_drewN (Below.refl _ _) _)))))
                  go_wp2
                  go_ret
                  exact ⟨rfl, below_drewN BU.out _⟩

end Go.Proofs.YtjnidopbdjbbgaaGreat
