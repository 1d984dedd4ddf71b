/-
  The walk of the law UtfReads.
-/
import Derived.Test.YthkehgmeaedflaaDoorRAsk
import Derived.Test.YthkehgmeaedflaaDoorPairs
import Derived.Test.YthkehgmeaedflaaDoorFresh
import Derived.Test.YthkehgmeaedflaaDoorStep
import Derived.Test.YthkehgmeaedflaaDoorLives
import Derived.Deep.CutBlock
import Derived.IntWalk
import Derived.Test.YthkehgmeaedflaaDoorRound
import Derived.Test.YthkehgmeaedflaaDoorPiece
namespace Go.Proofs.YthkehgmeaedflaaDoor
open Go.RowKit Go.Shelf
set_option linter.unusedVariables false

theorem eq_fn44 (w : World) (f : Fn) (ts bs : Array Value) : (binOp .eql 44 (.func f ts bs) .nilFunc).run Tryd.prog w = .ok (.bool false) w := eq_fn w f ts bs 44 _ _ _ Tryd.underlying44
attribute [local go_sem] Oper.semAt_some eq_fn44

theorem spots_at {s : ByteArray} {k p : Nat} (h : (placesFrom s 0)[k]? = some p) : (spotsFrom s 0)[k]? = some (p, (Utf8.decode s p).1) := by
  have h1 : (spotsFrom s 0).map Prod.fst = placesFrom s 0 := rfl
  have h2 : (spotsFrom s 0).map (fun x => (x.2 : Int)) = (placesFrom s 0).map (runeAt s) := (runeAt_all s s.size 0).symm
  have hk : k < (placesFrom s 0).length := (List.getElem?_eq_some_iff.1 h).1
  have hl : (spotsFrom s 0).length = (placesFrom s 0).length := by rw [← h1, List.length_map]
  obtain ⟨y, hy⟩ : ∃ y, (spotsFrom s 0)[k]? = some y := ⟨_, List.getElem?_eq_getElem (by omega)⟩
  have e1 : y.1 = p := by
    have := congrArg (fun l => l[k]?) h1
    simp only [List.getElem?_map, hy, h] at this
    simpa using this
  have e2 : (y.2 : Int) = ((Utf8.decode s p).1 : Int) := by
    have := congrArg (fun l => l[k]?) h2
    simp only [List.getElem?_map, hy, h] at this
    simpa [runeAt] using this
  rw [hy]
  congr 1
  exact Prod.ext e1 (by omega)
theorem spots_len (s : ByteArray) : (spotsFrom s 0).length = (placesFrom s 0).length := by
  have h1 : (spotsFrom s 0).map Prod.fst = placesFrom s 0 := rfl
  rw [← h1, List.length_map]
/-- A list turned, one element more. -/
theorem reverse_next {α : Type} {L : List α} {k : Nat} {x : α} (h : L[L.length - 1 - k]? = some x) (hk : k < L.length) : L.reverse.take (k + 1) = L.reverse.take k ++ [x] := by
  rw [List.take_add_one, List.getElem?_reverse (by simpa using hk), h]
  rfl

theorem Cells.new_drewR (w : World) (l : List Value) (e : TypeId) : Cells ((w.alloc (.cells l.toArray e)).drew) (some ⟨w.heap.size, 0, none⟩) l := (Cells.new w l e).below ((Below.refl _ _).drew)

theorem boxed_underR {w w' : World} {B N : Nat} {t : TypeId} {v : Value} (h : Boxed w B t v) (hb : Below N w w') (hB : B < N) : Boxed w' B t v := (hb.block B hB).trans h

set_option maxRecDepth 100000 in
set_option maxHeartbeats 8000000 in
theorem reads_in (w : World) (s : ByteArray) (hs : s.size ≤ 1048576) (few : Int) (hT : Lib.Utf8Tabs 0 1 w) :
    CallsIn Fence.wide 5 Tryd.prog 8 #[.string s, .int .i64 few] w fun e W' => e = .returned (.bool true) ∧ Below w.heap.size w W' := by
  obtain ⟨i0, hi, hz0, hz1, hz2⟩ := info_parts info37
  have HT := Lib.hid hT
  have h2w := tabs_at hT
  have hle := places_le s
  have HSA := Lib.hid (fun k p h => spots_at (s := s) (k := k) (p := p) h)
  have HSL := Lib.hid (spots_len s)
  obtain ⟨L, hL⟩ : ∃ L, L = placesFrom s 0 := ⟨_, rfl⟩
  have HRS := Lib.hid (fun w => rspots_any w s (by omega))
  rw [← hL] at HRS HSA HSL hle
  have HLE := Lib.hid hL
  clear hT hL
  have hn : L.length ≤ 1048576 := by omega
  refine callsIn_of_wp_marks Tryd.func8 rfl trivial ?_ rfl
  simp only [Tryd.ntmps8, List.size_toArray, List.length_cons, List.length_nil, Nat.reduceAdd, Nat.reduceSub, Array.replicate_succ, Array.replicate_zero, List.push_toArray, List.append_toArray, List.nil_append, List.cons_append]
  refine wpIn_wide.2 ?_
  go_wp2_with fail
  have b0 := Boxed.new w 4 (.bool false)
  have hbw : Below w.heap.size w (w.alloc (.cells #[.bool false] 4)) := (Below.refl _ _).alloc (Nat.le_refl _) _
  refine (HRS.out _).mono ?_
  rintro e w1 ⟨a1, c1, rfl, hown1, hb1⟩
  have B1 := Lib.hid ((b0.kept (below_grown hb1) (by simp)).alloc (.cells #[.slice a1 L.length c1] 38))
  have HB1 := Lib.hid ((hbw.trans (hb1.mono (by simp))).alloc (by have := hb1.size; simp at this; omega) (.cells #[.slice a1 L.length c1] 38))
  have BT := Lib.hid (Boxed.new w1 38 (.slice a1 L.length c1))
  have HO1 := Lib.hid (hown1.alloc (.cells #[.slice a1 L.length c1] 38))
  have hlt1 : w.heap.size < w1.heap.size := by have := hb1.size; simp at this; omega
  clear hb1 b0 hbw hown1 HRS
  go_wp2_with fail
  have hTb : w1.heap.size < (w1.alloc (.cells #[.slice a1 L.length c1] 38)).heap.size := by simp
  obtain ⟨Tb, hTT⟩ : ∃ Tb, Tb = w1.heap.size := ⟨_, rfl⟩
  rw [← hTT] at BT hTb hlt1 ⊢
  generalize w1.alloc (.cells #[.slice a1 L.length c1] 38) = w2 at *
  clear hTT
  have hlen : (spotsFrom s 0).length = L.length := HSL.out
  go_loopw [6, 7, 8] (fun v u i wr => ∃ (k : Nat) (a b : Option Addr) (c d : Nat), k ≤ L.length ∧ i = .int .i64 k ∧ v = .slice a k c ∧ u = .slice b k d ∧ Own wr w2.heap.size 2 a k c (((spotsFrom s 0).take k).flatMap pairL) ∧ Own wr w2.heap.size 2 b k d (((spotsFrom s 0).reverse.take k).flatMap pairL) ∧ Hid (b = none ∨ blockOf b ≠ blockOf a) ∧ Below w2.heap.size w2 wr) (fun _ _ i _ => L.length - (intOf i).toNat)
  case atStart => exact ⟨0, none, none, 0, 0, Nat.zero_le _, rfl, rfl, rfl, Own.nil _ _ _, Own.nil _ _ _, Lib.hid (.inl rfl), Below.refl _ _⟩
  case round =>
    obtain ⟨k, a, b, c, d, hk, rfl, rfl, rfl, hA, hC, PAR, hb⟩ := hrel
    have HB := Lib.hid hb
    have hct := (BT.out.kept (below_grown hb) (by simp)).cell
    have h0 : (0 : Int) ≤ (k : Int) := by omega
    clear hb
    by_cases hlt : k < L.length
    · have h1 : (k : Int) < (L.length : Int) := by omega
      obtain ⟨j, hj⟩ : ∃ j, k + 1 + j = L.length := ⟨L.length - (k + 1), by omega⟩
      obtain ⟨p, hp⟩ : ∃ p, L[k]? = some p := ⟨_, List.getElem?_eq_getElem hlt⟩
      obtain ⟨q, hq⟩ : ∃ q, L[j]? = some q := ⟨_, List.getElem?_eq_getElem (by omega)⟩
      have HP := Lib.hid (HSA.out k p hp)
      have HQ := Lib.hid (HSA.out j q hq)
      obtain ⟨g, hg, p0, p1, p2, p3⟩ := spot_cells HO1.out hp
      obtain ⟨g', hg', q0, q1, q2, q3⟩ := spot_cells HO1.out hq
      rw [hg] at hg'
      simp only [Option.some.injEq, Addr.mk.injEq] at hg'
      obtain ⟨rfl, _⟩ := hg'
      subst hg
      obtain ⟨rp, hrp⟩ : ∃ r, r = (Utf8.decode s p).1 := ⟨_, rfl⟩
      obtain ⟨rq, hrq⟩ : ∃ r, r = (Utf8.decode s q).1 := ⟨_, rfl⟩
      rw [← hrp] at p2 HP
      rw [← hrq] at q2 HQ
      have HS := Lib.hid (fun W (h : Below w2.heap.size w2 W) => show (W.cell? ⟨Tb, 0, none⟩ = some (.slice (some ⟨g, 0, none⟩) L.length c1) ∧ W.cell? ⟨g, k * 4, none⟩ = some (.int .i64 p) ∧ W.cell? ⟨g, k * 4 + 2, none⟩ = some (.int .i32 rp)) ∧ (W.cell? ⟨Tb, 0, none⟩ = some (.slice (some ⟨g, 0, none⟩) L.length c1) ∧ W.cell? ⟨g, j * 4, none⟩ = some (.int .i64 q) ∧ W.cell? ⟨g, j * 4 + 2, none⟩ = some (.int .i32 rq)) from by
        have e : ∀ {x : Addr} {v : Value}, w2.cell? x = some v → W.cell? x = some v := fun {x} {v} hx => (h.cell (World.block_lt_of_cell? w2 x hx)).trans hx
        exact ⟨⟨e BT.out.cell, e p0, e p2⟩, ⟨e BT.out.cell, e q0, e q2⟩⟩)
      have hkk := HS.out _ HB.out
      obtain ⟨⟨_, hc1, hc2⟩, _⟩ := hkk
      have HJ := Lib.hid hj
      have hkb : k + 1 ≤ 1048576 := by omega
      clear p0 p1 p2 p3 q0 q1 q2 q3 hp hq hrp hrq
      go_wp2_with fail
      go_region_held3 (fun w' => w'.cell? ⟨Tb, 0, none⟩ = some (.slice (some ⟨g, 0, none⟩) L.length c1) ∧ w'.cell? ⟨g, k * 4, none⟩ = some (.int .i64 p) ∧ w'.cell? ⟨g, k * 4 + 2, none⟩ = some (.int .i32 rp)) (first | go_keep | exact (HS.out _ HB4.out).1)
        ((refine step_app (by rfl) _ _ 34 34 (by rfl) 37 i0 (.agg #[.int .i64 0, .int .i32 0]) 2 16 Tryd.underlying34 hi hz0 hz1 hz2 rfl (by simp [Value.cells, Value.oneCell']) w2.heap.size _ _ _ _ (by rfl) ((hA.alloc _).drew) _ 1 [.int .i64 (p : Int), .int .i32 (rp : Int)] (by rfl) (Src.ofCells Tryd.underlying34 _ _ _ _ rfl (Cells.new_drewR _ _ _) (by simp [Value.oneCell']) (by decide)) (by simp [maxLen]; omega) (by omega) (by have := HB.out.size; simp; omega) ?_; intro a4 c4 w4 hown4 hap4; have HO4 := Lib.hid hown4; have HY4 := Lib.hid (hap4.other ((hC.alloc _).drew) PAR.out); have PA4 := Lib.hid (hap4.apart ((hC.alloc _).drew) PAR.out); have HB4 := Lib.hid ((HB.out.alloc HB.out.size _).drew.trans (hap4.below ((hA.alloc _).drew) (by have := HB.out.size; simp; omega))); clear hown4 hap4 hA hC))
      have hct4 := (HS.out _ HB4.out).1.1
      clear hct hc1 hc2
      go_wp2_with fail
      have e9 : (L.length : Int) - 1 - (k : Int) = (j : Int) := by omega
      simp only [e9]
      have hj0 : (0 : Int) ≤ (j : Int) := by omega
      have hj1 : (j : Int) < (L.length : Int) := by omega
      clear e9
      obtain ⟨_, _, hq1, hq2⟩ := HS.out _ HB4.out
      go_region_held3 (fun w' => w'.cell? ⟨Tb, 0, none⟩ = some (.slice (some ⟨g, 0, none⟩) L.length c1) ∧ w'.cell? ⟨g, j * 4, none⟩ = some (.int .i64 q) ∧ w'.cell? ⟨g, j * 4 + 2, none⟩ = some (.int .i32 rq)) (first | go_keep | exact (HS.out _ HB5.out).2)
        ((refine step_app (by rfl) _ _ 34 34 (by rfl) 37 i0 (.agg #[.int .i64 0, .int .i32 0]) 2 16 Tryd.underlying34 hi hz0 hz1 hz2 rfl (by simp [Value.cells, Value.oneCell']) w2.heap.size _ _ _ _ (by rfl) ((HY4.out.alloc _).drew) _ 1 [.int .i64 (q : Int), .int .i32 (rq : Int)] (by rfl) (Src.ofCells Tryd.underlying34 _ _ _ _ rfl (Cells.new_drewR _ _ _) (by simp [Value.oneCell']) (by decide)) (by simp [maxLen]; omega) (by omega) (by have := HB4.out.size; simp; omega) ?_; intro a5 c5 w5 hown5 hap5; have HO5 := Lib.hid hown5; have HX5 := Lib.hid (hap5.other ((HO4.out.alloc _).drew) (apart_symm HO4.out PA4.out)); have PA5 := Lib.hid (apart_symm hown5 (hap5.apart ((HO4.out.alloc _).drew) (apart_symm HO4.out PA4.out))); have HB5 := Lib.hid ((HB4.out.alloc HB4.out.size _).drew.trans (hap5.below ((HY4.out.alloc _).drew) (by have := HB4.out.size; simp; omega))); clear hown5 hap5))
      clear hct4 hq1 hq2
      go_wp2_with fail
      go_roundw
      case rel => exact ⟨k + 1, a4, a5, c4, c5, by omega, by go_num, rfl, rfl, by have := HX5.out; rw [List.take_add_one, HP.out]; simpa [pairL] using this, by have := HO5.out; rw [reverse_next (by rw [hlen, show L.length - 1 - k = j by omega]; exact HQ.out) (by omega)]; simpa [pairL] using this, PA5, HB5.out⟩
      case measure => simp [intOf]; omega
    · obtain rfl : k = L.length := by omega
      rw [List.take_of_length_le (by omega)] at hA
      rw [List.take_of_length_le (by rw [List.length_reverse]; omega)] at hC
      have K1 := Lib.hid hA
      have K2 := Lib.hid hC
      have hB2 := HB1.out.trans (HB.out.mono HB1.out.size)
      have BR := Lib.hid (B1.out.kept (below_grown HB.out) (by simp))
      have BT2 := Lib.hid (BT.out.kept (below_grown HB.out) (by simp))
      have HO2 := Lib.hid (HO1.out.below HB.out)
      have HBW := Lib.hid hB2
      clear hA hC hB2 B1 HB1 BT HO1 HB PAR hlt hk
      go_wp2_with fail
      have HCT := Lib.hid (fun W (h : Below wr.heap.size wr W) => (BT2.out.kept (below_grown h) (by simp)).cell)
      have A1 := fun W hT => all_on W s (-1) (by omega) hT
      rw [show fewOf (spotsFrom s 0) (-1) = spotsFrom s 0 from rfl, hlen] at A1
      have A2 := fun W hT => all_back W s (-1) (by omega) hT
      rw [show fewOf (spotsFrom s 0).reverse (-1) = (spotsFrom s 0).reverse from rfl, List.length_reverse, hlen] at A2
      have S1 := fun W x cx y cy hx hy => samePairs_any W x cx y cy (spotsFrom s 0) (by omega) hx hy
      rw [hlen] at S1
      have S2 := fun W x cx y cy hx hy => samePairs_any W x cx y cy (spotsFrom s 0).reverse (by rw [List.length_reverse]; omega) hx hy
      rw [List.length_reverse, hlen] at S2
      have C0 := fun W => count_any W s (by omega)
      rw [← HLE.out] at C0
      have HA1 := Lib.hid A1
      have HA2 := Lib.hid A2
      have HS1 := Lib.hid S1
      have HS2 := Lib.hid S2
      have HC0 := Lib.hid C0
      have HT2 := Lib.hid (fun W (h : Below wr.heap.size wr W) => tabs_below HT.out (after HBW.out h))
      have HLN := Lib.hid hlen
      clear A1 A2 S1 S2 C0 hlen
      go_cut [74] from 8 (fun s74 wx => s74 = .bool false ∧ Hid (Below wr.heap.size wr wx))
      case first =>
        have HBX := Lib.hid ((Below.refl wr.heap.size wr).drew)
        have hnn : ((L.length : Int) != (L.length : Int)) = false := by simp
        go_region_held3 (fun w' => w'.cell? ⟨Tb, 0, none⟩ = some (.slice a1 L.length c1)) (first | assumption | go_keep | exact HCT.out _ HBX.out)
          (first
            | (go_at_call 22; (with_reducible refine (HA1.out _ (HT2.out _ HBX.out)).mono ?_); rintro e wA ⟨aA, cA, rfl, hoA, hbA⟩; have HOA := Lib.hid hoA.toCells; have HBX := Lib.hid (after HBX.out hbA); clear hoA hbA)
            | (go_at_call 24; (with_reducible refine (HS1.out _ _ _ _ _ HOA.out (K1.out.toCells.below HBX.out)).mono ?_); rintro e wB ⟨rfl, hbB⟩; have HBX := Lib.hid (after HBX.out hbB); clear hbB)
            | (go_at_call 22; (with_reducible refine (HA2.out _ (HT2.out _ HBX.out)).mono ?_); rintro e wC ⟨aC, cC, rfl, hoC, hbC⟩; have HOC := Lib.hid hoC.toCells; have HBX := Lib.hid (after HBX.out hbC); clear hoC hbC)
            | (go_at_call 24; (with_reducible refine (HS2.out _ _ _ _ _ HOC.out (K2.out.toCells.below HBX.out)).mono ?_); rintro e wD ⟨rfl, hbD⟩; have HBX := Lib.hid (after HBX.out hbD); clear hbD)
            | (go_at_call 21; (with_reducible refine (HC0.out _).mono ?_); rintro e wE ⟨rfl, hbE⟩; have HBX := Lib.hid (after HBX.out hbE); clear hbE))
        have HBF := Lib.hid HBX.out
        go_wp2
        go_meet
        case rel => exact ⟨rfl, HBF⟩
      case rest =>
        obtain ⟨rfl, HB9⟩ := hcut
        clear HA1 HA2 HS1 HS2 HC0 hct
        go_upto_region 11 with (fail)
        go_cut [104] from 8 (fun s104 wx => s104 = .bool false ∧ Hid (Below wr.heap.size wr wx))
        case first =>
          have HBX := Lib.hid HB9.out.drew
          by_cases hlo : few < 0
          · have hd : decide ((0 : Int) ≤ few) = false := by simp; omega
            clear hlo
            go_quiet (fail)
            have HBF := Lib.hid (below_drewN HB9.out nq)
            go_wp2
            go_meet
            case rel => exact ⟨rfl, HBF⟩
          · obtain ⟨f, rfl⟩ := Int.eq_ofNat_of_zero_le (Int.not_lt.1 hlo)
            have hd : decide ((0 : Int) ≤ (f : Int)) = true := by simp
            by_cases hhi : f < L.length
            · have hd2 : decide ((f : Int) < (L.length : Int)) = true := by simp; omega
              have hd3 : decide (f < L.length) = true := by simp; omega
              have hfw : ∀ M : List (Nat × Nat), fewOf M (f : Int) = M.take (f + 1) := fun M => by unfold fewOf; rw [if_neg (by omega), Int.toNat_natCast]
              have A1 := fun W hT => all_on W s (f : Int) (by omega) hT
              rw [hfw, List.length_take, HLN.out, Nat.min_eq_left (by omega)] at A1
              have A2 := fun W hT => all_back W s (f : Int) (by omega) hT
              rw [hfw, List.length_take, List.length_reverse, HLN.out, Nat.min_eq_left (by omega)] at A2
              have S1 := fun W x cx y cy hx hy => samePairs_any W x cx y cy ((spotsFrom s 0).take (f + 1)) (by rw [List.length_take, HLN.out]; omega) hx hy
              rw [List.length_take, HLN.out, Nat.min_eq_left (by omega)] at S1
              have S2 := fun W x cx y cy hx hy => samePairs_any W x cx y cy ((spotsFrom s 0).reverse.take (f + 1)) (by rw [List.length_take, List.length_reverse, HLN.out]; omega) hx hy
              rw [List.length_take, List.length_reverse, HLN.out, Nat.min_eq_left (by omega)] at S2
              have HA1 := Lib.hid A1
              have HA2 := Lib.hid A2
              have HS1 := Lib.hid S1
              have HS2 := Lib.hid S2
              have E1 := K1.out.toCells.take ((f + 1) * 2)
              rw [← pairs_take] at E1
              have E2 := K2.out.toCells.take ((f + 1) * 2)
              rw [← pairs_take] at E2
              have HE1 := Lib.hid E1
              have HE2 := Lib.hid E2
              have hk1 : (f : Int) + 1 ≤ (c : Int) := by have := K1.out.le; omega
              have hk2 : (f : Int) + 1 ≤ (d : Int) := by have := K2.out.le; omega
              have h01 : (0 : Int) ≤ (f : Int) + 1 := by omega
              have hwr := IntWalk.i64_in ((f : Int) + 1) (by omega)
              have htn : ((f : Int) + 1).toNat = f + 1 := by omega
              clear A1 A2 S1 S2 E1 E2 hlo hhi hfw
              go_region_held3 (fun _ => True) (first | trivial)
                (first
            | (go_at_call 22; (with_reducible refine (HA1.out _ (HT2.out _ HBX.out)).mono ?_); rintro e wA ⟨aA, cA, rfl, hoA, hbA⟩; have HOA := Lib.hid hoA.toCells; have HBX := Lib.hid (after HBX.out hbA); clear hoA hbA)
            | (go_at_call 24; (with_reducible refine (HS1.out _ _ _ _ _ HOA.out (HE1.out.below HBX.out)).mono ?_); rintro e wB ⟨rfl, hbB⟩; have HBX := Lib.hid (after HBX.out hbB); clear hbB)
            | (go_at_call 22; (with_reducible refine (HA2.out _ (HT2.out _ HBX.out)).mono ?_); rintro e wC ⟨aC, cC, rfl, hoC, hbC⟩; have HOC := Lib.hid hoC.toCells; have HBX := Lib.hid (after HBX.out hbC); clear hoC hbC)
            | (go_at_call 24; (with_reducible refine (HS2.out _ _ _ _ _ HOC.out (HE2.out.below HBX.out)).mono ?_); rintro e wD ⟨rfl, hbD⟩; have HBX := Lib.hid (after HBX.out hbD); clear hbD))
              have HBF := Lib.hid HBX.out
              clear hwr htn
              go_wp2
              go_meet
              case rel => exact ⟨rfl, HBF⟩
            · have hd3 : decide (f < L.length) = false := by simp; omega
              clear hlo hhi
              go_quiet (fail)
              have HBF := Lib.hid (below_drewN HB9.out nq)
              go_wp2
              go_meet
              case rel => exact ⟨rfl, HBF⟩
        case rest =>
          obtain ⟨rfl, HB11⟩ := hcut
          have BR3 := Lib.hid (BR.out.kept (below_grown HB11.out) (by simp))
          have BT3 := Lib.hid (BT2.out.kept (below_grown HB11.out) (by simp))
          have HO3 := Lib.hid (HO2.out.below HB11.out)
          have HB12 := Lib.hid (after HBW.out HB11.out)
          clear BR BT2 HO2 HBW HB11 HB9 K1 K2 HCT HT2 HLN hi hz0 hz1 hz2 HSA HSL
          go_wp2_with (go_at_call 25; refine (spots_any _ _).mono ?_; rintro e w' ⟨rfl, rfl⟩)
          have hrl : w.heap.size < wc.heap.size := (Array.getElem?_eq_some_iff.1 BR3.out).1
          have htl : Tb < wc.heap.size := (Array.getElem?_eq_some_iff.1 BT3.out).1
          have b0 := (Boxed.new wc 3 (.int .i64 0)).alloc (.cells #[.string s] 9)
          have b1 := Boxed.new (wc.alloc (.cells #[.int .i64 0] 3)) 9 (.string s)
          simp only [World.size_alloc] at b1
          have hB0 : Below wc.heap.size wc ((wc.alloc (.cells #[.int .i64 0] 3)).alloc (.cells #[.string s] 9)) := ((Below.refl _ wc).alloc (Nat.le_refl _) _).alloc (by simp) _
          have hT0 := tabs_below HT.out (after HB12.out hB0)
          have h2r : 2 ≤ wc.heap.size := tabs_at (tabs_below HT.out HB12.out)
          refine (wpIn_wide (n := 5)).1 ?_
          refine wpIn_rangeFunc_ownH rfl (by omega) (gf := 56) (lb := #[.pointer (some ⟨wc.heap.size + 1, 0, none⟩)]) rfl trivial (enters_of Tryd.func56 (by kernel_rfl) rfl)
            (spots_stops (5 - 1) (by omega) (wc.heap.size + 1) s _ (by omega) (by simp) b1.cell hT0) (fun h k => h.trans k) (keepsS_b _ (by simp) (tabs_at hT0)) (Below.refl _ _) (fun _ => rfl)
            (fun pre W => (Boxed W wc.heap.size 3 (.int .i64 (pre.length : Nat)) ∧ Boxed W (wc.heap.size + 1) 9 (.string s)) ∧ Below wc.heap.size wc W) (fun (_ : Code) (pre : List Nat) (_ : World) => ∃ (pre' : List Nat) (x : Nat), pre = pre' ++ [x] ∧ ¬ L[pre'.length]? = some x)
            (OwnFrom.and (Own.from (fun _ A B row hs hg hr => ⟨boxed_own _ _ (fun _ : Unit => _) () A B row hs.1 hg hr, boxed_own _ _ (fun _ : Unit => _) () A B row hs.2 hg hr⟩) _) (ownFrom_below (Nat.le_refl _) (by simp; omega))) (fun _ _ _ _ _ hs _ _ => hs)
            ⟨⟨b0, b1⟩, hB0⟩
            (fun x a' W => ∃ Bx, wc.heap.size + 1 < Bx ∧ SpotBox W Bx s x ∧ a' = { tmps := #[.string s, .int .i64 few, undef, undef, .pointer (some ⟨w.heap.size, 0, none⟩), .pointer (some ⟨Tb, 0, none⟩), .slice a L.length c, .slice b L.length d, u8, u9, .pointer (some ⟨wc.heap.size, 0, none⟩), .func (.func 56) #[] #[.pointer (some ⟨wc.heap.size + 1, 0, none⟩)], .pointer (some ⟨Bx, 0, none⟩), u13, u14, u15, u16, u17, u18, u19, u20, u21, u22, u23, u24, u25, u26, u27, u28, u29, u30, u31, u32, u33, u34, u35, u36, u37, u38, u39, u40, u41, u42, u43, u44, u45, u46, u47, u48, u49, u50, u51, u52, u53, u54, u55, u56, u57, u58, u59, u60, u61, u62, u63, u64, u65, u66, u67, u68, u69, u70, u71, u72, u73, u74, u75, u76, u77, u78, u79, u80, u81, u82, u83, u84, u85, u86, u87, u88, u89, u90, u91, u92, u93, u94, u95, u96, u97, u98, u99, u100, u101, u102, u103, .bool false, .string s, .func (.func 56) #[] #[.pointer (some ⟨wc.heap.size + 1, 0, none⟩)], .func (.func 56) #[] #[.pointer (some ⟨wc.heap.size + 1, 0, none⟩)], .bool false, .func (.func 56) #[] #[.pointer (some ⟨wc.heap.size + 1, 0, none⟩)], spotE s x, u111, u112, u113, u114, u115, u116, u117, u118, u119, u120, u121, u122, u123, u124, u125, u126, u127, u128, u129, u130, u131, u132, u133, u134, u135, u136, u137, u138, u139, u140, u141, u142, u143, u144, u145, u146, u147, u148, u149, u150, u151, u152, u153, u154, u155, u156, u157, u158, u159, u160, u161, u162, u163, u164, u165, u166], defers := [] })
            (fun x a' _ X Y row hs hg hr => by obtain ⟨Bx, h1, h2, h3⟩ := hs; exact ⟨Bx, h1, spotBox_own Bx s x () X Y row h2 hg (fun r e => (hr r e).2), h3⟩)
            ?assign ?body ?done ?stop
          case assign =>
            rintro l pre x W K ⟨⟨hv, hbu⟩, hB⟩ hK
            have hsz := hB.size
            have hE : spotE s x = .agg #[.int .i64 x, .int .i64 (Utf8.decode s x).2, .int .i32 (Utf8.decode s x).1, .int .i64 (codeOf s x)] := rfl
            have hbul := hbu.lt
            gi_wp2
            exact hK _ _ ((KeepsOthers.alloc _ _).from _) (KeepsS.below ((Below.refl _ _).alloc (Nat.le_refl _) _)) ⟨⟨hv.alloc _, hbu.alloc _⟩, hB.alloc hB.size _⟩ ⟨W.heap.size, hbul, World.alloc_heap_new W _, rfl⟩
          case body =>
            rintro l pre x a' W hl ⟨r0, hr0⟩ ⟨⟨hv, hbu⟩, hB⟩ ⟨Bx, hBx, bX, rfl⟩ hlt
            obtain ⟨x0, x1, x2, x3⟩ := bX.cell
            have hc := hv.cell
            have hf := hv.frozen
            have hrc := (boxed_underR BR3.out hB hrl).cell
            have hrf := (boxed_underR BR3.out hB hrl).frozen
            have htc := (boxed_underR BT3.out hB htl).cell
            have HV := Lib.hid hv
            have HBU := Lib.hid hbu
            have HPW := Lib.hid (HO3.out.below hB)
            have HBB := Lib.hid hB
            have hp0 : (0 : Int) ≤ (pre.length : Int) := by omega
            have hpm : pre.length ≤ 1048576 := by rw [← HLE.out] at hlt; omega
            clear hv hbu hB hlt hB0 hT0 b0 b1 bX hr0
            by_cases hg : L[pre.length]? = some x
            · have hlt : (pre.length : Int) < (L.length : Int) := by have := (List.getElem?_eq_some_iff.1 hg).1; omega
              have hge : decide (L.length ≤ pre.length) = false := by simp; omega
              obtain ⟨g, rfl, q0, q1, q2, q3⟩ := spot_cells HPW.out hg
              generalize (Utf8.decode s x).1 = r at *
              generalize (Utf8.decode s x).2 = wd at *
              generalize codeOf s x = cd at *
              clear hg
              gi_wp2
              refine round_quiet (by kernel_rfl) (by kernel_rfl) (by kernel_rfl) ?_
              iterate 12 (gi_big_quiet_step (fail))
              refine wpQuietIn_nil ?_
              intro _ hw'
              obtain ⟨nq, hw''⟩ := hw'
              subst hw''
              have bd := below_drewN (Below.refl W.heap.size W) nq
              have HV2 := Lib.hid (HV.out.kept (below_grown bd) (by simp))
              have HBU2 := Lib.hid (HBU.out.kept (below_grown bd) (by simp))
              have HBB2 := Lib.hid (below_drewN HBB.out nq)
              have hko := KeepsOthers.of_grownBy (below_grown bd) (fun j o e => by cases e)
              have HKO := Lib.hid hko
              have HKS := Lib.hid (KeepsS.below (b := wc.heap.size + 1) bd)
              have HRS := Lib.hid ((boxed_underR BR3.out HBB.out hrl).kept (below_grown bd) (by simp))
              clear hc hf hrc hrf htc x0 x1 x2 x3 hko bd
              generalize W.drewN nq = W2 at *
              have hc := HV2.out.cell
              have hf := HV2.out.frozen
              gi_wp2
              refine ⟨(HKO.out.trans (KeepsOthers.setCell _ _ _)).from _, HKS.out.setCell HV2.out h2r (by omega) _, ⟨?_, HBU2.out.other (by omega) _⟩, HBB2.out.setCell (p := ⟨wc.heap.size, 0, none⟩) (Nat.le_refl _) _⟩
              have := HV2.out.set (.int .i64 ((pre.length : Int) + 1))
              rw [show (((pre ++ [x]).length : Nat) : Int) = (pre.length : Int) + 1 by simp]
              exact this
            · have HG := Lib.hid hg
              by_cases hlt : pre.length < L.length
              · obtain ⟨y, hy⟩ : ∃ y, L[pre.length]? = some y := ⟨_, List.getElem?_eq_getElem hlt⟩
                obtain ⟨g, rfl, q0, q1, q2, q3⟩ := spot_cells HPW.out hy
                have hli : (pre.length : Int) < (L.length : Int) := by omega
                have hge : decide (L.length ≤ pre.length) = false := by simp; omega
                have hxy : ¬ x = y := fun h => hg (by rw [h]; exact hy)
                have hxy2 : ((x : Int) == (y : Int)) = false := by simp; omega
                clear hg hy
                generalize (Utf8.decode s x).1 = r at *
                generalize (Utf8.decode s x).2 = wd at *
                generalize codeOf s x = cd at *
                generalize (Utf8.decode s y).1 = r' at *
                generalize (Utf8.decode s y).2 = wd' at *
                generalize codeOf s y = cd' at *
                gi_wp2
                refine round_quiet (by kernel_rfl) (by kernel_rfl) (by kernel_rfl) ?_
                iterate 12 (gi_big_quiet_step (fail))
                refine wpQuietIn_nil ?_
                intro _ hw'
                obtain ⟨nq, hw''⟩ := hw'
                subst hw''
                clear q0 q1 q2 q3
                have bd := below_drewN (Below.refl W.heap.size W) nq
                have HV2 := Lib.hid (HV.out.kept (below_grown bd) (by simp))
                have HBU2 := Lib.hid (HBU.out.kept (below_grown bd) (by simp))
                have HBB2 := Lib.hid (below_drewN HBB.out nq)
                have hko := KeepsOthers.of_grownBy (below_grown bd) (fun j o e => by cases e)
                have HKO := Lib.hid hko
                have HKS := Lib.hid (KeepsS.below (b := wc.heap.size + 1) bd)
                have HRS := Lib.hid ((boxed_underR BR3.out HBB.out hrl).kept (below_grown bd) (by simp))
                clear hc hf hrc hrf htc x0 x1 x2 x3 hko bd
                generalize W.drewN nq = W2 at *
                have hc := HRS.out.cell
                have hf := HRS.out.frozen
                gi_wp2
                exact ⟨(HKO.out.trans (KeepsOthers.setCell _ _ _)).from _, pre, x, rfl, HG.out⟩

              · have hli : (L.length : Int) ≤ (pre.length : Int) := by omega
                have hge : decide (L.length ≤ pre.length) = true := by simp; omega
                clear hg
                gi_wp2
                refine round_quiet (by kernel_rfl) (by kernel_rfl) (by kernel_rfl) ?_
                iterate 12 (gi_big_quiet_step (fail))
                refine wpQuietIn_nil ?_
                intro _ hw'
                obtain ⟨nq, hw''⟩ := hw'
                subst hw''
                have bd := below_drewN (Below.refl W.heap.size W) nq
                have HV2 := Lib.hid (HV.out.kept (below_grown bd) (by simp))
                have HBU2 := Lib.hid (HBU.out.kept (below_grown bd) (by simp))
                have HBB2 := Lib.hid (below_drewN HBB.out nq)
                have hko := KeepsOthers.of_grownBy (below_grown bd) (fun j o e => by cases e)
                have HKO := Lib.hid hko
                have HKS := Lib.hid (KeepsS.below (b := wc.heap.size + 1) bd)
                have HRS := Lib.hid ((boxed_underR BR3.out HBB.out hrl).kept (below_grown bd) (by simp))
                clear hc hf hrc hrf htc x0 x1 x2 x3 hko bd
                generalize W.drewN nq = W2 at *
                have hc := HRS.out.cell
                have hf := HRS.out.frozen
                gi_wp2
                exact ⟨(HKO.out.trans (KeepsOthers.setCell _ _ _)).from _, pre, x, rfl, HG.out⟩

          case stop =>
            rintro D k pre W hD hpre ⟨pre', x, rfl, hbad⟩ hK
            refine (hbad ?_).elim
            obtain ⟨r, hr⟩ := hpre
            rw [HLE.out, ← hr]
            simp
          case done =>
            rintro D ys W hD rfl ⟨⟨hv, hbu⟩, hB⟩ hK
            rw [← HLE.out] at hv
            have HV := Lib.hid hv
            have HK := Lib.hid hK
            have HR := Lib.hid (boxed_underR BR3.out hB hrl)
            have HTB := Lib.hid (boxed_underR BT3.out hB htl)
            have HOW := Lib.hid (HO3.out.below hB)
            have HB13 := Lib.hid (after HB12.out hB)
            clear hB0 hT0 b0 b1 hK hB hv hbu HB12 BR3 BT3 HO3 h2r
            have hvc := HV.out.cell
            have htc := HTB.out.cell
            by_cases hn0 : L.length = 0
            · have hs0 : s.size = 0 := by
                rcases Nat.eq_zero_or_pos s.size with h | h
                · exact h
                · rw [HLE.out, placesFrom_more s 0 h] at hn0
                  simp at hn0
              have F1 := fun W (_ : Lib.Utf8Tabs 0 1 W) => first_none W s hs0
              have F2 := fun W (_ : Lib.Utf8Tabs 0 1 W) => last_none W s hs0
              unfold noSpot at F1 F2
              have hm5 : (L.length : Int) ≤ 0 := by omega
              have hTl := World.block_lt_of_cell? W _ htc
              have hVl := World.block_lt_of_cell? W _ hvc
              simp only at hTl hVl
              have n1 : W.heap.size ≠ Tb := by omega
              have n2 : W.heap.size + 1 ≠ Tb := by omega
              have n3 : W.heap.size ≠ wc.heap.size := by omega
              have n4 : W.heap.size + 1 ≠ wc.heap.size := by omega
              have HF1 := Lib.hid F1
              have HF2 := Lib.hid F2
              clear F1 F2 hn0 hs0 HLE
              go_wp2_with fail
              have hbk1 : ((W.alloc (.cells #[.int .i64 0, .int .i64 0, .int .i32 0, .int .i64 0] 41)).alloc (.cells #[.int .i64 0, .int .i64 0, .int .i32 0, .int .i64 0] 41)).heap[W.heap.size]? = some (.cells #[.int .i64 0, .int .i64 0, .int .i32 0, .int .i64 0] 41 (0, 0)) := (Below.heap_alloc _ _ _ (by simp)).trans (World.alloc_heap_new W _)
              have hbk2 : ((W.alloc (.cells #[.int .i64 0, .int .i64 0, .int .i32 0, .int .i64 0] 41)).alloc (.cells #[.int .i64 0, .int .i64 0, .int .i32 0, .int .i64 0] 41)).heap[W.heap.size + 1]? = some (.cells #[.int .i64 0, .int .i64 0, .int .i32 0, .int .i64 0] 41 (0, 0)) := by
                have := World.alloc_heap_new (W.alloc (.cells #[.int .i64 0, .int .i64 0, .int .i32 0, .int .i64 0] 41)) (.cells #[.int .i64 0, .int .i64 0, .int .i32 0, .int .i64 0] 41)
                rwa [World.size_alloc] at this
              have hb3 : Below W.heap.size W ((W.alloc (.cells #[.int .i64 0, .int .i64 0, .int .i32 0, .int .i64 0] 41)).alloc (.cells #[.int .i64 0, .int .i64 0, .int .i32 0, .int .i64 0] 41)) := ((Below.refl _ _).alloc (Nat.le_refl _) _).alloc (by simp) _
              have hl1 : W.heap.size + 1 < ((W.alloc (.cells #[.int .i64 0, .int .i64 0, .int .i32 0, .int .i64 0] 41)).alloc (.cells #[.int .i64 0, .int .i64 0, .int .i32 0, .int .i64 0] 41)).heap.size := by simp
              generalize (W.alloc (.cells #[.int .i64 0, .int .i64 0, .int .i32 0, .int .i64 0] 41)).alloc (.cells #[.int .i64 0, .int .i64 0, .int .i32 0, .int .i64 0] 41) = W3 at *
              obtain ⟨s10, s11, s12, s13⟩ := block4 hbk1
              obtain ⟨s20, s21, s22, s23⟩ := block4 hbk2
              have BV3 := HV.out.kept (below_grown hb3) (by simp)
              have BT3 := HTB.out.kept (below_grown hb3) (by simp)
              have HR3 := Lib.hid (HR.out.kept (below_grown hb3) (by simp))
              have HK3 := Lib.hid ((hb3.block D (Array.getElem?_eq_some_iff.1 HK.out).1).trans HK.out)
              have HB14 := Lib.hid (after HB13.out hb3)
              have hv0 := BV3.cell
              have ht0 := BT3.cell
              have HS := Lib.hid (fun w' (h : Below W3.heap.size W3 w') => show w'.cell? ⟨wc.heap.size, 0, none⟩ = some (.int .i64 (L.length : Nat)) ∧ w'.cell? ⟨Tb, 0, none⟩ = some (.slice a1 L.length c1) ∧ w'.cell? ⟨W.heap.size, 0, none⟩ = some (.int .i64 0) ∧ w'.cell? ⟨W.heap.size, 1, none⟩ = some (.int .i64 0) ∧ w'.cell? ⟨W.heap.size, 2, none⟩ = some (.int .i32 0) ∧ w'.cell? ⟨W.heap.size, 3, none⟩ = some (.int .i64 0) ∧ w'.cell? ⟨W.heap.size + 1, 0, none⟩ = some (.int .i64 0) ∧ w'.cell? ⟨W.heap.size + 1, 1, none⟩ = some (.int .i64 0) ∧ w'.cell? ⟨W.heap.size + 1, 2, none⟩ = some (.int .i32 0) ∧ w'.cell? ⟨W.heap.size + 1, 3, none⟩ = some (.int .i64 0) from by
                have e : ∀ {x : Addr} {v : Value}, W3.cell? x = some v → w'.cell? x = some v := fun {x} {v} hx => (h.cell (World.block_lt_of_cell? W3 x hx)).trans hx
                exact ⟨e hv0, e ht0, e s10, e s11, e s12, e s13, e s20, e s21, e s22, e s23⟩)
              have HT3 := Lib.hid (fun W' (h : Below W3.heap.size W3 W') => tabs_below HT.out (after HB14.out h))
              have HBX := Lib.hid ((Below.refl W3.heap.size W3).drew)
              have HRN := Lib.hid (fun w => runes_any w s (by omega))
              have HRR := Lib.hid (fun w => rrunes_any w s (by omega))
              have hrl2 : w.heap.size < W.heap.size := (Array.getElem?_eq_some_iff.1 HR.out).1
              have hnn : ((L.length : Int) == (L.length : Int)) = true := by simp
              have hns : (textRunes s).length ≤ 17592186044416 := by have := textRunes_le s; omega
              have m1 : w.heap.size ≠ wc.heap.size := by omega
              have m2 : w.heap.size ≠ Tb := by have := (Array.getElem?_eq_some_iff.1 HTB.out).1; omega
              have m3 : w.heap.size ≠ W.heap.size := by omega
              have m4 : w.heap.size ≠ W.heap.size + 1 := by omega
              clear hbk1 hbk2 hb3 hvc htc BV3 BT3 n1 n2 n3 n4
              go_region_held3 (fun w' => w'.cell? ⟨wc.heap.size, 0, none⟩ = some (.int .i64 (L.length : Nat)) ∧ w'.cell? ⟨Tb, 0, none⟩ = some (.slice a1 L.length c1) ∧ w'.cell? ⟨W.heap.size, 0, none⟩ = some (.int .i64 0) ∧ w'.cell? ⟨W.heap.size, 1, none⟩ = some (.int .i64 0) ∧ w'.cell? ⟨W.heap.size, 2, none⟩ = some (.int .i32 0) ∧ w'.cell? ⟨W.heap.size, 3, none⟩ = some (.int .i64 0) ∧ w'.cell? ⟨W.heap.size + 1, 0, none⟩ = some (.int .i64 0) ∧ w'.cell? ⟨W.heap.size + 1, 1, none⟩ = some (.int .i64 0) ∧ w'.cell? ⟨W.heap.size + 1, 2, none⟩ = some (.int .i32 0) ∧ w'.cell? ⟨W.heap.size + 1, 3, none⟩ = some (.int .i64 0)) (first | go_keep | exact HS.out _ HBX.out)
                (first
                  | (go_at_call 26; (with_reducible refine (HF1.out _ (HT3.out _ HBX.out)).mono ?_); rintro e vA ⟨rfl, hvA⟩; have HBX := Lib.hid (after HBX.out hvA); clear hvA)
                  | (go_at_call 27; (with_reducible refine (HF2.out _ (HT3.out _ HBX.out)).mono ?_); rintro e vB ⟨rfl, hvB⟩; have HBX := Lib.hid (after HBX.out hvB); clear hvB)
                  | (go_at_call 17; (with_reducible refine (HRN.out _).mono ?_); rintro e vD ⟨p2, d2, rfl, ho2, hv2⟩; have HQB := Lib.hid (HQ1.out.below hv2); have HQ2 := Lib.hid ho2; have HBX := Lib.hid (after HBX.out hv2); have HZ2 := Lib.hid hv2.size; clear hv2 ho2)
                  | (go_at_call 17; (with_reducible refine (HRN.out _).mono ?_); rintro e vC ⟨p1, d1, rfl, ho1, hv1⟩; have HQ1 := Lib.hid ho1; have HM := Lib.hid HBX.out.size; have HZ1 := Lib.hid hv1.size; have HBX := Lib.hid (after HBX.out hv1); clear hv1 ho1)
                  | (go_at_call 29; (with_reducible refine (HRR.out _).mono ?_); rintro e vE ⟨p3, d3, rfl, ho3, hv3⟩; have HF := Lib.hid (fresh_any vE _ _ p1 p2 p3 d1 d2 d3 (textRunes s) hns (Nat.le_trans HZ1.out (Nat.le_trans HZ2.out hv3.size)) (HQB.out.below hv3) ((HQ2.out.mono HZ1.out).below hv3) ho3 (later_apart HQ1.out HQ2.out (Nat.le_refl _)) (later_apart HQB.out ho3 (Nat.le_refl _)) (later_apart HQ2.out ho3 (Nat.le_refl _))); have HBX := Lib.hid (after HBX.out hv3); clear hv3 ho3)
                  | (go_at_call 28; (with_reducible refine HF.out.mono ?_); rintro e vF ⟨rfl, hvF⟩; have HBX := Lib.hid (HBX.out.trans (hvF.mono HM.out)); clear hvF)
                  | (go_at_call 16; (with_reducible refine (lives_any _ (HT3.out _ HBX.out)).mono ?_); rintro e vG ⟨rfl, hvG⟩; have HBX := Lib.hid (after HBX.out hvG); clear hvG; have HRG := Lib.hid (HR3.out.kept (below_grown HBX.out) (by simp)); have hrc := HRG.out.cell; have hrf := HRG.out.frozen; obtain ⟨k0, k1, k2, k3, k4, k5, k6, k7, k8, k9⟩ := HS.out _ HBX.out))
              have HBF := Lib.hid HBX.out
              have HRF := Lib.hid HRG.out
              go_wp2_with fail
              have HK7 := Lib.hid ((HBF.out.block D (Array.getElem?_eq_some_iff.1 HK3.out).1).trans HK3.out)
              have HB7 := Lib.hid (after HB14.out HBF.out)
              have hK' := (KeepsOthers.setCell vG ⟨w.heap.size, 0, none⟩ (.bool true)).same D _ HK7.out rfl
              have X1 := HRF.out.set (.bool true)
              refine ⟨by simp, .inl ⟨_, _, rfl, run_takeDeferred hK', ?_⟩⟩
              have hk5 := cell_kept X1.cell (grownBy_putObj' _ D (.deferred none)) (fun r e => by cases e; exact ⟨_, hK', rfl⟩)
              refine ⟨.bool true, ?_, rfl, (HB7.out.setCell (p := ⟨w.heap.size, 0, none⟩) (Nat.le_refl _) _).trans (belowK_b (w := w) (Nat.le_refl _) _ D _ _ (by simp at hD; omega) hK' rfl rfl)⟩
              simp [results, Tryd.f8, go_sem, hk5]
            · have hs0 : 0 < s.size := by
                rcases Nat.eq_zero_or_pos s.size with h | h
                · rw [HLE.out, placesFrom_end s 0 (by omega)] at hn0
                  exact absurd rfl hn0
                · exact h
              have hl0 : L[0]? = some 0 := by rw [HLE.out, placesFrom_more s 0 hs0]; rfl
              have hl1 := lastOf_is s hs0
              rw [← HLE.out] at hl1
              have F1 := fun W hT => first_any W s hs0 (by omega) hT
              have F2 := fun W hT => last_any W s hs0 (by omega) hT
              unfold spotE spotV at F1 F2
              obtain ⟨g, hg, q0, q1, q2, q3⟩ := spot_cells HOW.out hl0
              obtain ⟨g', hg', p0, p1, p2, p3⟩ := spot_cells HOW.out hl1
              rw [hg] at hg'
              simp only [Option.some.injEq, Addr.mk.injEq] at hg'
              obtain ⟨rfl, _⟩ := hg'
              subst hg
              obtain ⟨m, hm⟩ : ∃ m, m + 1 = L.length := ⟨L.length - 1, by omega⟩
              have hm1 : L.length - 1 = m := by omega
              rw [hm1] at p0 p1 p2 p3
              have hm2 : (L.length : Int) - 1 = (m : Int) := by omega
              have hm3 : (0 : Int) ≤ (m : Int) := by omega
              have hm4 : (m : Int) < (L.length : Int) := by omega
              have hm5 : (0 : Int) < (L.length : Int) := by omega
              generalize lastOf s = y at *
              generalize (Utf8.decode s 0).1 = r at *
              generalize (Utf8.decode s 0).2 = wd at *
              generalize codeOf s 0 = cd at *
              generalize (Utf8.decode s y).1 = r' at *
              generalize (Utf8.decode s y).2 = wd' at *
              generalize codeOf s y = cd' at *
              have HF1 := Lib.hid F1
              have HF2 := Lib.hid F2
              have hTl := World.block_lt_of_cell? W _ htc
              have hVl := World.block_lt_of_cell? W _ hvc
              simp only at hTl hVl
              have n1 : W.heap.size ≠ Tb := by omega
              have n2 : W.heap.size + 1 ≠ Tb := by omega
              have n3 : W.heap.size ≠ wc.heap.size := by omega
              have n4 : W.heap.size + 1 ≠ wc.heap.size := by omega
              have hGl := World.block_lt_of_cell? W _ q0
              simp only at hGl
              have n5 : W.heap.size ≠ g := by omega
              have n6 : W.heap.size + 1 ≠ g := by omega
              clear F1 F2 hl0 hl1 hn0 hm hm1 HLE
              have HTB2 := Lib.hid hTl
              go_wp2_with fail
              have hbk1 : ((W.alloc (.cells #[.int .i64 0, .int .i64 wd, .int .i32 r, .int .i64 cd] 41)).alloc (.cells #[.int .i64 y, .int .i64 wd', .int .i32 r', .int .i64 cd'] 41)).heap[W.heap.size]? = some (.cells #[.int .i64 0, .int .i64 wd, .int .i32 r, .int .i64 cd] 41 (0, 0)) := (Below.heap_alloc _ _ _ (by simp)).trans (World.alloc_heap_new W _)
              have hbk2 : ((W.alloc (.cells #[.int .i64 0, .int .i64 wd, .int .i32 r, .int .i64 cd] 41)).alloc (.cells #[.int .i64 y, .int .i64 wd', .int .i32 r', .int .i64 cd'] 41)).heap[W.heap.size + 1]? = some (.cells #[.int .i64 y, .int .i64 wd', .int .i32 r', .int .i64 cd'] 41 (0, 0)) := by
                have := World.alloc_heap_new (W.alloc (.cells #[.int .i64 0, .int .i64 wd, .int .i32 r, .int .i64 cd] 41)) (.cells #[.int .i64 y, .int .i64 wd', .int .i32 r', .int .i64 cd'] 41)
                rwa [World.size_alloc] at this
              have hb3 : Below W.heap.size W ((W.alloc (.cells #[.int .i64 0, .int .i64 wd, .int .i32 r, .int .i64 cd] 41)).alloc (.cells #[.int .i64 y, .int .i64 wd', .int .i32 r', .int .i64 cd'] 41)) := ((Below.refl _ _).alloc (Nat.le_refl _) _).alloc (by simp) _
              have hl1 : W.heap.size + 1 < ((W.alloc (.cells #[.int .i64 0, .int .i64 wd, .int .i32 r, .int .i64 cd] 41)).alloc (.cells #[.int .i64 y, .int .i64 wd', .int .i32 r', .int .i64 cd'] 41)).heap.size := by simp
              generalize (W.alloc (.cells #[.int .i64 0, .int .i64 wd, .int .i32 r, .int .i64 cd] 41)).alloc (.cells #[.int .i64 y, .int .i64 wd', .int .i32 r', .int .i64 cd'] 41) = W3 at *
              obtain ⟨s10, s11, s12, s13⟩ := block4 hbk1
              obtain ⟨s20, s21, s22, s23⟩ := block4 hbk2
              have BV3 := HV.out.kept (below_grown hb3) (by simp)
              have BT3 := HTB.out.kept (below_grown hb3) (by simp)
              have HR3 := Lib.hid (HR.out.kept (below_grown hb3) (by simp))
              have HK3 := Lib.hid ((hb3.block D (Array.getElem?_eq_some_iff.1 HK.out).1).trans HK.out)
              have HB14 := Lib.hid (after HB13.out hb3)
              have hv0 := BV3.cell
              have ht0 := BT3.cell
              have HS := Lib.hid (fun w' (h : Below W3.heap.size W3 w') => show w'.cell? ⟨wc.heap.size, 0, none⟩ = some (.int .i64 (L.length : Nat)) ∧ w'.cell? ⟨Tb, 0, none⟩ = some (.slice (some ⟨g, 0, none⟩) L.length c1) ∧ w'.cell? ⟨W.heap.size, 0, none⟩ = some (.int .i64 0) ∧ w'.cell? ⟨W.heap.size, 1, none⟩ = some (.int .i64 wd) ∧ w'.cell? ⟨W.heap.size, 2, none⟩ = some (.int .i32 r) ∧ w'.cell? ⟨W.heap.size, 3, none⟩ = some (.int .i64 cd) ∧ w'.cell? ⟨W.heap.size + 1, 0, none⟩ = some (.int .i64 y) ∧ w'.cell? ⟨W.heap.size + 1, 1, none⟩ = some (.int .i64 wd') ∧ w'.cell? ⟨W.heap.size + 1, 2, none⟩ = some (.int .i32 r') ∧ w'.cell? ⟨W.heap.size + 1, 3, none⟩ = some (.int .i64 cd') from by
                have e : ∀ {x : Addr} {v : Value}, W3.cell? x = some v → w'.cell? x = some v := fun {x} {v} hx => (h.cell (World.block_lt_of_cell? W3 x hx)).trans hx
                exact ⟨e hv0, e ht0, e s10, e s11, e s12, e s13, e s20, e s21, e s22, e s23⟩)
              have HT3 := Lib.hid (fun W' (h : Below W3.heap.size W3 W') => tabs_below HT.out (after HB14.out h))
              have HBX := Lib.hid ((Below.refl W3.heap.size W3).drew)
              have HRN := Lib.hid (fun w => runes_any w s (by omega))
              have HRR := Lib.hid (fun w => rrunes_any w s (by omega))
              have hrl2 : w.heap.size < W.heap.size := (Array.getElem?_eq_some_iff.1 HR.out).1
              have hnn : ((L.length : Int) == (L.length : Int)) = true := by simp
              have hns : (textRunes s).length ≤ 17592186044416 := by have := textRunes_le s; omega
              have m1 : w.heap.size ≠ wc.heap.size := by omega
              have m2 : w.heap.size ≠ Tb := by have := (Array.getElem?_eq_some_iff.1 HTB.out).1; omega
              have m3 : w.heap.size ≠ W.heap.size := by omega
              have m4 : w.heap.size ≠ W.heap.size + 1 := by omega
              clear hbk1 hbk2 hb3 hvc htc BV3 BT3 n1 n2 n3 n4 n5 n6 q0 q1 q2 q3 p0 p1 p2 p3
              go_region_held3 (fun w' => w'.cell? ⟨wc.heap.size, 0, none⟩ = some (.int .i64 (L.length : Nat)) ∧ w'.cell? ⟨Tb, 0, none⟩ = some (.slice (some ⟨g, 0, none⟩) L.length c1) ∧ w'.cell? ⟨W.heap.size, 0, none⟩ = some (.int .i64 0) ∧ w'.cell? ⟨W.heap.size, 1, none⟩ = some (.int .i64 wd) ∧ w'.cell? ⟨W.heap.size, 2, none⟩ = some (.int .i32 r) ∧ w'.cell? ⟨W.heap.size, 3, none⟩ = some (.int .i64 cd) ∧ w'.cell? ⟨W.heap.size + 1, 0, none⟩ = some (.int .i64 y) ∧ w'.cell? ⟨W.heap.size + 1, 1, none⟩ = some (.int .i64 wd') ∧ w'.cell? ⟨W.heap.size + 1, 2, none⟩ = some (.int .i32 r') ∧ w'.cell? ⟨W.heap.size + 1, 3, none⟩ = some (.int .i64 cd')) (first | go_keep | exact HS.out _ HBX.out)
                (first
                  | (go_at_call 26; (with_reducible refine (HF1.out _ (HT3.out _ HBX.out)).mono ?_); rintro e vA ⟨rfl, hvA⟩; have HBX := Lib.hid (after HBX.out hvA); clear hvA)
                  | (go_at_call 27; (with_reducible refine (HF2.out _ (HT3.out _ HBX.out)).mono ?_); rintro e vB ⟨rfl, hvB⟩; have HBX := Lib.hid (after HBX.out hvB); clear hvB)
                  | (go_at_call 17; (with_reducible refine (HRN.out _).mono ?_); rintro e vD ⟨p2, d2, rfl, ho2, hv2⟩; have HQB := Lib.hid (HQ1.out.below hv2); have HQ2 := Lib.hid ho2; have HBX := Lib.hid (after HBX.out hv2); have HZ2 := Lib.hid hv2.size; clear hv2 ho2)
                  | (go_at_call 17; (with_reducible refine (HRN.out _).mono ?_); rintro e vC ⟨p1, d1, rfl, ho1, hv1⟩; have HQ1 := Lib.hid ho1; have HM := Lib.hid HBX.out.size; have HZ1 := Lib.hid hv1.size; have HBX := Lib.hid (after HBX.out hv1); clear hv1 ho1)
                  | (go_at_call 29; (with_reducible refine (HRR.out _).mono ?_); rintro e vE ⟨p3, d3, rfl, ho3, hv3⟩; have HF := Lib.hid (fresh_any vE _ _ p1 p2 p3 d1 d2 d3 (textRunes s) hns (Nat.le_trans HZ1.out (Nat.le_trans HZ2.out hv3.size)) (HQB.out.below hv3) ((HQ2.out.mono HZ1.out).below hv3) ho3 (later_apart HQ1.out HQ2.out (Nat.le_refl _)) (later_apart HQB.out ho3 (Nat.le_refl _)) (later_apart HQ2.out ho3 (Nat.le_refl _))); have HBX := Lib.hid (after HBX.out hv3); clear hv3 ho3)
                  | (go_at_call 28; (with_reducible refine HF.out.mono ?_); rintro e vF ⟨rfl, hvF⟩; have HBX := Lib.hid (HBX.out.trans (hvF.mono HM.out)); clear hvF)
                  | (go_at_call 16; (with_reducible refine (lives_any _ (HT3.out _ HBX.out)).mono ?_); rintro e vG ⟨rfl, hvG⟩; have HBX := Lib.hid (after HBX.out hvG); clear hvG; have HRG := Lib.hid (HR3.out.kept (below_grown HBX.out) (by simp)); have hrc := HRG.out.cell; have hrf := HRG.out.frozen; obtain ⟨k0, k1, k2, k3, k4, k5, k6, k7, k8, k9⟩ := HS.out _ HBX.out))
              have HBF := Lib.hid HBX.out
              have HRF := Lib.hid HRG.out
              go_wp2_with fail
              have HK7 := Lib.hid ((HBF.out.block D (Array.getElem?_eq_some_iff.1 HK3.out).1).trans HK3.out)
              have HB7 := Lib.hid (after HB14.out HBF.out)
              have hK' := (KeepsOthers.setCell vG ⟨w.heap.size, 0, none⟩ (.bool true)).same D _ HK7.out rfl
              have X1 := HRF.out.set (.bool true)
              refine ⟨by simp, .inl ⟨_, _, rfl, run_takeDeferred hK', ?_⟩⟩
              have hk5 := cell_kept X1.cell (grownBy_putObj' _ D (.deferred none)) (fun r e => by cases e; exact ⟨_, hK', rfl⟩)
              refine ⟨.bool true, ?_, rfl, (HB7.out.setCell (p := ⟨w.heap.size, 0, none⟩) (Nat.le_refl _) _).trans (belowK_b (w := w) (Nat.le_refl _) _ D _ _ (by simp at hD; omega) hK' rfl rfl)⟩
              simp [results, Tryd.f8, go_sem, hk5]

theorem reads_walk (w : World) (s : ByteArray) (hs : s.size ≤ 1048576) (few : Int) (hfew : (Lit.int .i64 few).wf = true) (hT : Lib.Utf8Tabs 0 1 w) :
    Calls Tryd.prog 8 #[.string s, .int .i64 few] w fun e w' => e = .returned (.bool true) ∧ Below w.heap.size w w' := callsIn_wide.1 (reads_in w s hs few hT)

end Go.Proofs.YthkehgmeaedflaaDoor
