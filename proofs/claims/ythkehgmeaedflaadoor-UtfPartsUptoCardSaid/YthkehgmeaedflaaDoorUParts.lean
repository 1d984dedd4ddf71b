/-
  The walk of the law UtfParts.
-/
import Derived.Test.YthkehgmeaedflaaDoorPartsW
import Derived.Test.YthkehgmeaedflaaDoorLives
import Derived.Deep.CutBlock
namespace Go.Proofs.YthkehgmeaedflaaDoor
open Go.RowKit Go.Shelf
set_option linter.unusedVariables false

/-- The characters that are none of FFFD. -/
def fltR (l : List Int) : List Int := l.filter (· != 65533)
theorem flt_drop {l : List Int} {i : Nat} {x : Int} (h : l[i]? = some x) : l.drop i = x :: l.drop (i + 1) := by
  obtain ⟨hi, rfl⟩ := List.getElem?_eq_some_iff.1 h
  rw [← List.drop_eq_getElem_cons hi]
theorem flt_skip {l : List Int} {i : Nat} {x : Int} (h : l[i]? = some x) (hx : x = 65533) : fltR (l.drop i) = fltR (l.drop (i + 1)) := by
  rw [flt_drop h, hx]; rfl
theorem flt_keep {l : List Int} {i : Nat} {x : Int} (h : l[i]? = some x) (hx : x ≠ 65533) : fltR (l.drop i) = x :: fltR (l.drop (i + 1)) := by
  rw [flt_drop h]
  unfold fltR
  rw [List.filter_cons_of_pos (by simpa using hx)]
theorem flt_end {l : List Int} {i : Nat} (h : l.length ≤ i) : fltR (l.drop i) = [] := by rw [List.drop_eq_nil_of_le h]; rfl
theorem flt_over {A : List Int} {B : List Int} {i k : Nat} {x : Int} (h : fltR (A.drop i) = fltR (B.drop k)) (hx : A[i]? = some x) (hx2 : x ≠ 65533) (hk : B.length ≤ k) : False := by
  rw [flt_keep hx hx2, flt_end hk] at h
  cases h
theorem flt_meet {A : List Int} {B : List Int} {i k : Nat} {x y : Int} (h : fltR (A.drop i) = fltR (B.drop k)) (hx : A[i]? = some x) (hx2 : x ≠ 65533) (hy : B[k]? = some y) (hy2 : y ≠ 65533) : y = x ∧ fltR (A.drop (i + 1)) = fltR (B.drop (k + 1)) := by
  rw [flt_keep hx hx2, flt_keep hy hy2] at h
  simp only [List.cons.injEq] at h
  exact ⟨h.1.symm, h.2⟩
theorem flt_none {B : List Int} {k : Nat} {y : Int} (h : fltR (B.drop k) = []) (hy : B[k]? = some y) : y = 65533 := by
  by_cases hy2 : y = 65533
  · exact hy2
  · rw [flt_keep hy hy2] at h
    cases h

/-- What the law asks of a part. -/
def goodP (s : ByteArray) (x : Nat) : Prop := runeAt s x ≠ 65533 ∨ partS s x = ⟨#[239, 191, 189]⟩ ∨ (1 ≤ (partS s x).size ∧ (partS s x).size ≤ 3)

theorem eq_fn54 (w : World) (f : Fn) (ts bs : Array Value) : (binOp .eql 54 (.func f ts bs) .nilFunc).run Tryd.prog w = .ok (.bool false) w := eq_fn w f ts bs 54 _ _ _ Tryd.underlying54
attribute [local go_sem] Oper.semAt_some eq_fn54

set_option maxRecDepth 100000 in
set_option maxHeartbeats 8000000 in
theorem uparts_in (w : World) (s : ByteArray) (hs : s.size ≤ 1048576) (hT : Lib.Utf8Tabs 0 1 w) :
    CallsIn Fence.wide 5 Tryd.prog 10 #[.string s] w fun e W' => e = .returned (.bool true) ∧ Below w.heap.size w W' := by
  have h2w := tabs_at hT
  have HT := Lib.hid hT
  have hAl := textRunes_le s
  have hBl := parts_le s
  have hfew := parts_few s
  have HSM := Lib.hid (show fltR (textRunes s) = fltR (partsOf s) from parts_same s)
  have HRT := Lib.hid (fun h => parts_right (s := s) h)
  have HRA := Lib.hid (fun w => runes_any w s (by omega))
  have HPA := Lib.hid (fun w hT => parts_any w s (by omega) hT)
  have HCH := Lib.hid (fun w hT => check_any w s (by omega) hT)
  obtain ⟨A, hA⟩ : ∃ A, A = textRunes s := ⟨_, rfl⟩
  obtain ⟨B, hB⟩ : ∃ B, B = partsOf s := ⟨_, rfl⟩
  rw [← hA] at hAl hfew HSM HRT HRA
  rw [← hB] at hBl hfew HSM HRT HPA
  clear hA hB hT
  generalize checkOf s = C at *
  obtain ⟨c0, z⟩ := C
  simp only at HRT HCH
  have hAn : A.length ≤ 1048576 := by omega
  have hBn : B.length ≤ 1048576 := by omega
  have hgt : decide (A.length < B.length) = false := by simp; omega
  refine callsIn_of_wp_marks Tryd.func10 rfl trivial ?_ rfl
  simp only [Tryd.ntmps10, List.size_toArray, List.length_cons, List.length_nil, Nat.reduceAdd, Nat.reduceSub, Array.replicate_succ, Array.replicate_zero, List.push_toArray, List.append_toArray, List.nil_append, List.cons_append]
  refine wpIn_wide.2 ?_
  go_wp2_with fail
  have b0 := Boxed.new w 4 (.bool false)
  refine (lives_any _ (tabs_below HT.out ((Below.refl _ _).alloc (Nat.le_refl _) _))).mono ?_
  rintro e w1 ⟨rfl, hb1⟩
  have B1 := Lib.hid (b0.kept (below_grown hb1) (by simp))
  have HB1 := Lib.hid (((Below.refl _ _).alloc (Nat.le_refl _) _).trans (hb1.mono (by simp)))
  clear hb1 b0
  go_wp2_with fail
  refine (HRA.out _).mono ?_
  rintro e w2 ⟨a1, k1, rfl, hown1, hb2⟩
  have B2 := Lib.hid (B1.out.kept (below_grown hb2) (by simp))
  have HB2 := Lib.hid (after HB1.out hb2)
  have HO1 := Lib.hid hown1.toCells
  clear hb2 hown1 B1
  go_wp2_with fail
  refine (HPA.out _ (tabs_below HT.out HB2.out)).mono ?_
  rintro e w3 ⟨a2, k2, rfl, hown2, hb3⟩
  have B3 := Lib.hid (B2.out.kept (below_grown hb3) (by simp))
  have HB3 := Lib.hid (after HB2.out hb3)
  have HO2 := Lib.hid hown2.toCells
  have HO1' := Lib.hid (HO1.out.below hb3)
  clear hb3 hown2 B2 HO1
  go_wp2_with fail
  refine (HCH.out _ (tabs_below HT.out HB3.out)).mono ?_
  rintro e w4 ⟨rfl, hb4⟩
  have B4 := Lib.hid (B3.out.kept (below_grown hb4) (by simp))
  have HB4 := Lib.hid (after HB3.out hb4)
  have HA4 := Lib.hid (HO1'.out.below hb4)
  have HC4 := Lib.hid (HO2.out.below hb4)
  clear hb4 B3 HO2 HO1'
  have HZ := Lib.hid (show (((z : Nat) : Int) == 0) = false ∨ ((((z : Nat) : Int) == 0) = true ∧ ((B.length : Int) != (A.length : Int)) = false) by
    by_cases hz : z = 0
    · subst hz
      rw [HRT.out rfl]
      right
      simp
    · left
      simp
      omega)
  clear HRT HRA HPA HCH hfew
  rcases HZ.out with hz | ⟨hz, hne⟩
  all_goals
    clear HZ
    go_wp2_with fail
    try clear hne
    clear hz hgt
    go_loopw [7, 8] (fun q i wr => ∃ (k j : Nat), k ≤ B.length ∧ j ≤ A.length ∧ q = .int .i64 k ∧ i = .int .i64 j ∧ Hid (fltR (A.drop j) = fltR (B.drop k)) ∧ Hid (Below w4.heap.size w4 wr)) (fun _ i _ => A.length - (intOf i).toNat)
    case atStart => exact ⟨0, 0, Nat.zero_le _, Nat.zero_le _, rfl, rfl, HSM, Lib.hid (Below.refl _ _)⟩
    case round =>
      obtain ⟨k, j, hk, hj, rfl, rfl, HF, HBW⟩ := hrel
      have hj0 : (0 : Int) ≤ (j : Int) := by omega
      have hk0 : (0 : Int) ≤ (k : Int) := by omega
      by_cases hlt : j < A.length
      · have hji : (j : Int) < (A.length : Int) := by omega
        obtain ⟨ba, oa, x, hpa, hx, hca⟩ := (HA4.out.below HBW.out).at hlt
        subst hpa
        have HX := Lib.hid hx
        clear hx
        by_cases hxx : x = 65533
        · have HN := Lib.hid ((flt_skip HX.out hxx).symm.trans HF.out)
          have hxb : ((x : Int) == 65533) = true := by simp [hxx]
          subst hxx
          go_wp2
          go_roundw
          case rel => exact ⟨k, j + 1, hk, by omega, rfl, by go_num, HN, HBW⟩
          case measure => simp [intOf]; omega
        · have hxb : ((x : Int) == 65533) = false := by simp [hxx]
          have HXX := Lib.hid hxx
          clear hxx
          go_wp2_with fail
          go_loop [7] (fun q => ∃ m : Nat, m ≤ B.length ∧ q = .int .i64 m ∧ Hid (fltR (A.drop j) = fltR (B.drop m))) (fun q => B.length - (intOf q).toNat)
          case atStart => exact ⟨k, hk, rfl, HF⟩
          case round =>
            obtain ⟨m, hm, rfl, HG⟩ := hrel
            have hm0 : (0 : Int) ≤ (m : Int) := by omega
            by_cases hlm : m < B.length
            · have hmi : (m : Int) < (B.length : Int) := by omega
              obtain ⟨bb, ob, y, hpb, hy, hcb⟩ := (HC4.out.below HBW.out).at hlm
              subst hpb
              have HY := Lib.hid hy
              clear hy
              by_cases hyy : y = 65533
              · have HN := Lib.hid (HG.out.trans (flt_skip HY.out hyy))
                have hyb : ((y : Int) == 65533) = true := by simp [hyy]
                subst hyy
                go_wp2
                go_round
                case rel => exact ⟨m + 1, by omega, by go_num, HN⟩
                case measure => simp [intOf]; omega
              · have hyb : ((y : Int) == 65533) = false := by simp [hyy]
                obtain ⟨hyx, hnext⟩ := flt_meet HG.out HX.out HXX.out HY.out hyy
                have HN := Lib.hid hnext
                have hyx2 : ((y : Int) != x) = false := by simp [hyx]
                clear hyy hnext hyx
                go_wp2
                go_quiet (fail)
                go_wp2
                go_roundw
                case rel => exact ⟨m + 1, j + 1, by omega, by omega, by go_num, by go_num, HN, Lib.hid (below_drewN HBW.out _)⟩
                case measure => simp [intOf]; omega
            · exact (flt_over HG.out HX.out HXX.out (by omega)).elim
      · have hF : fltR (B.drop k) = [] := HF.out.symm.trans (flt_end (by omega))
        have HG := Lib.hid hF
        clear hF HF
        go_upto_block 4 with (fail)
        go_cut [] from 3 (fun wx => Hid (Below w4.heap.size w4 wx))
        case first =>
          go_wp2_with fail
          go_loop [7] (fun q => ∃ m : Nat, m ≤ B.length ∧ q = .int .i64 m ∧ Hid (fltR (B.drop m) = [])) (fun q => B.length - (intOf q).toNat)
          case atStart => exact ⟨k, hk, rfl, HG⟩
          case round =>
            obtain ⟨m, hm, rfl, HG⟩ := hrel
            have hm0 : (0 : Int) ≤ (m : Int) := by omega
            by_cases hlm : m < B.length
            · have hmi : (m : Int) < (B.length : Int) := by omega
              obtain ⟨bb, ob, y, hpb, hy, hcb⟩ := (HC4.out.below HBW.out).at hlm
              subst hpb
              obtain rfl := flt_none HG.out hy
              have HN := Lib.hid ((flt_skip hy rfl).symm.trans HG.out)
              clear hy
              go_wp2
              go_round
              case rel => exact ⟨m + 1, by omega, by go_num, HN⟩
              case measure => simp [intOf]; omega
            · have hmi : (B.length : Int) ≤ (m : Int) := by omega
              go_wp2
              go_meet
              case rel => exact HBW
        case rest =>
          have hB5 := after HB4.out hcut.out
          have B5 := Lib.hid (B4.out.kept (below_grown hcut.out) (by simp))
          have HB5 := Lib.hid hB5
          clear hB5 hcut HG HBW HA4 HC4 HSM hj hk
          go_wp2_with (go_at_call 36; refine (piecesF_any _ _).mono ?_; rintro e w' ⟨rfl, rfl⟩)
          have b1 := Boxed.new (wc.alloc (.cells #[.string s] 9)) 9 (.string s)
          simp only [World.size_alloc] at b1
          have hB0 : Below w.heap.size w ((wc.alloc (.cells #[.string s] 9)).alloc (.cells #[.string s] 9)) := after HB5.out (((Below.refl _ wc).alloc (Nat.le_refl _) _).alloc (by simp) _)
          have hT0 := tabs_below HT.out hB0
          refine (wpIn_wide (n := 5)).1 ?_
          refine wpIn_rangeFunc_ownG rfl (by omega) (gf := 61) (lb := #[.pointer (some ⟨wc.heap.size + 1, 0, none⟩)]) rfl trivial (enters_of Tryd.func61 (by kernel_rfl) rfl)
            (pieces_stops (5 - 1) (by omega) (wc.heap.size + 1) s _ (by omega) (by simp) b1.cell hT0) (fun h k => h.trans k) (keepsQ_b _ (by simp) (tabs_at hT0)) (Below.refl _ _) (fun _ => rfl)
            (fun pre W => (Boxed W w.heap.size 4 (.bool false) ∧ Boxed W (wc.heap.size + 1) 9 (.string s)) ∧ Below w.heap.size w W) (fun _ pre W => ∃ pre' x, pre = pre' ++ [x] ∧ ¬ goodP s x)
            (OwnFrom.and (Own.from (fun _ A B row hs hg hr => ⟨boxed_own _ _ (fun _ : Unit => _) () A B row hs.1 hg hr, boxed_own _ _ (fun _ : Unit => _) () A B row hs.2 hg hr⟩) _) (ownFrom_below (Nat.le_refl _) (by have := HB5.out.size; simp; omega))) (fun _ _ _ _ _ hs _ _ => hs)
            ⟨⟨(B5.out.alloc _).alloc _, b1⟩, hB0⟩
            (fun x => { tmps := #[.string s, undef, .pointer (some ⟨w.heap.size, 0, none⟩), u3, u4, u5, u6, u7, u8, .string (partS s x), .int .i32 (runeAt s x), u11, u12, u13, u14, u15, u16, u17, u18, u19, u20, u21, u22, u23, u24, u25, u26, u27, u28, u29, u30, u31, u32, u33, u34, u35, u36, u37, u38, u39, u40, u41, u42, u43, u44, u45, u46, u47, u48, u49, u50, u51, u52, u53, u54, u55, u56, u57, u58, u59, u60, u61, u62, u63, u64, u65, u66, u67, u68, u69, u70, u71, u72, u73, u74, u75, u76, u77, u78, u79, u80, u81, u82, u83, u84, u85, u86, u87, u88, u89, .string s, .func (.func 61) #[] #[.pointer (some ⟨wc.heap.size, 0, none⟩)], .bool false, .string s, .func (.func 61) #[] #[.pointer (some ⟨wc.heap.size + 1, 0, none⟩)], .string (partS s x), .int .i32 (runeAt s x), u97, u98, u99, u100, u101, u102, u103, u104, u105, u106, u107, u108, u109, u110, u111, u112, u113], defers := [] }) ?assign ?body ?done ?stop
          case assign =>
            intro l x W K hK
            gi_wp2
            exact hK
          case body =>
            rintro l pre x W ⟨⟨hv, hbu⟩, hB⟩ hlt
            have HI := Lib.hid (show (Boxed W w.heap.size 4 (.bool false) ∧ Boxed W (wc.heap.size + 1) 9 (.string s)) ∧ Below w.heap.size w W from ⟨⟨hv, hbu⟩, hB⟩)
            have hc := hv.cell
            have hf := hv.frozen
            clear hv hbu hB hlt hB0 hT0 b1
            by_cases hg : goodP s x
            · unfold goodP at hg
              generalize runeAt s x = r at *
              generalize partS s x = p at *
              by_cases hr : r = 65533
              · have hrb : ((r : Int) == 65533) = true := by simp [hr]
                rcases hg with h | rfl | ⟨h1, h3⟩
                · exact absurd hr h
                · clear hr
                  gi_wp2
                  all_goals first | exact ⟨KeepsFrom.refl _ _, KeepsQ.refl _ _, HI.out⟩ | (exfalso; rename_i hu _; simp [undef] at hu)
                · have h1i : (1 : Int) ≤ (p.size : Int) := by omega
                  have h3i : (p.size : Int) ≤ 3 := by omega
                  clear hr
                  gi_wp2
                  all_goals first | exact ⟨KeepsFrom.refl _ _, KeepsQ.refl _ _, HI.out⟩ | (exfalso; rename_i hu _; simp [undef] at hu)
              · have hrb : ((r : Int) == 65533) = false := by simp [hr]
                clear hr hg
                gi_wp2
                all_goals first | exact ⟨KeepsFrom.refl _ _, KeepsQ.refl _ _, HI.out⟩ | (exfalso; rename_i hu _; simp [undef] at hu)
            · have HG := Lib.hid hg
              unfold goodP at hg
              generalize runeAt s x = r at *
              generalize partS s x = p at *
              have hrb : ((r : Int) == 65533) = true := by
                simp
                exact Classical.byContradiction fun h => hg (.inl h)
              have hp : ¬ p.toList = [239, 191, 189] := fun h => hg (.inr (.inl (bytes_ext (by rw [← Lib.toList_data, h]))))
              have hp2 : (!p.toList == [239, 191, 189]) = true := by simp [hp]
              have hz : (p.size : Int) < 1 ∨ 3 < (p.size : Int) := Classical.byContradiction fun h => hg (.inr (.inr ⟨by omega, by omega⟩))
              clear hg
              rcases hz with hz | hz
              all_goals
                gi_wp2
                exact ⟨(KeepsOthers.setCell _ _ _).from _, pre, x, rfl, HG.out⟩
          case stop =>
            rintro D k pre W hD hpre ⟨pre', x, rfl, hbad⟩ hK
            refine (hbad ?_).elim
            have hm : x ∈ piecesFrom s 0 := hpre.subset (by simp)
            have hx := piece_lt s s.size 0 x hm
            unfold goodP
            by_cases hr : runeAt s x = 65533
            · exact .inr (part_fffd s x hx hr)
            · exact .inl hr
          case done =>
            rintro D ys W hD hall ⟨⟨hv, hbu⟩, hB⟩ hK
            have HV := Lib.hid hv
            have HBW := Lib.hid hB
            have HK := Lib.hid hK
            have hc := hv.cell
            have hf := hv.frozen
            clear hB0 hT0 b1 hall hK hB hv hbu
            go_wp2_with (go_at_call 16; refine (lives_any _ (tabs_below HT.out HBW.out)).mono ?_; rintro e w6 ⟨rfl, hb6⟩; have HV6 := Lib.hid (HV.out.kept (below_grown hb6) (by simp)); have HK6 := Lib.hid ((hb6.block D (Array.getElem?_eq_some_iff.1 HK.out).1).trans HK.out); have HB6 := Lib.hid (after HBW.out hb6); have hc6 := HV6.out.cell; have hf6 := HV6.out.frozen; clear hb6 hc hf)
            have hK' := (KeepsOthers.setCell w6 ⟨w.heap.size, 0, none⟩ (.bool true)).same D _ HK6.out rfl
            have X1 := HV6.out.set (.bool true)
            refine ⟨by simp, .inl ⟨_, _, rfl, run_takeDeferred hK', ?_⟩⟩
            have hk5 := cell_kept X1.cell (grownBy_putObj' _ D (.deferred none)) (fun r e => by cases e; exact ⟨_, hK', rfl⟩)
            refine ⟨.bool true, ?_, rfl, (HB6.out.setCell (p := ⟨w.heap.size, 0, none⟩) (Nat.le_refl _) _).trans (belowK_b (w := w) (Nat.le_refl _) _ D _ _ (by have := HB5.out.size; simp at hD; omega) hK' rfl rfl)⟩
            simp [results, Tryd.f10, go_sem, hk5]

theorem parts_walk (w : World) (s : ByteArray) (hs : s.size ≤ 1048576) (hT : Lib.Utf8Tabs 0 1 w) :
    Calls Tryd.prog 10 #[.string s] w fun e w' => e = .returned (.bool true) ∧ Below w.heap.size w w' := callsIn_wide.1 (uparts_in w s hs hT)

end Go.Proofs.YthkehgmeaedflaaDoor
