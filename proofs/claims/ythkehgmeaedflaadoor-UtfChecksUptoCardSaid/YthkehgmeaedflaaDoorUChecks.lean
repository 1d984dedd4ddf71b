/-
  The walk of the law UtfChecks.
-/
import Derived.Test.YthkehgmeaedflaaDoorPartsW
import Derived.Test.YthkehgmeaedflaaDoorRPieces
import Derived.Test.YthkehgmeaedflaaDoorStrict
import Derived.Test.YthkehgmeaedflaaDoorFresh
import Derived.Test.YthkehgmeaedflaaDoorEncodes
import Derived.Test.YthkehgmeaedflaaDoorLives
import Derived.Deep.CutBlock
namespace Go.Proofs.YthkehgmeaedflaaDoor
open Go.RowKit Go.Shelf
set_option linter.unusedVariables false

theorem eq_fn54c (w : World) (f : Fn) (ts bs : Array Value) : (binOp .eql 54 (.func f ts bs) .nilFunc).run Tryd.prog w = .ok (.bool false) w := eq_fn w f ts bs 54 _ _ _ Tryd.underlying54
attribute [local go_sem] Oper.semAt_some eq_fn54c

/-- Two cells of a row of parts. -/
theorem pieceL_at (s : ByteArray) (L : List Nat) (k : Nat) (x : Nat) (h : L[k]? = some x) (j : Nat) (hj : j < 2) : (L.flatMap (pieceL s))[k * 2 + j]? = (pieceL s x)[j]? := by
  induction L generalizing k with
  | nil => simp at h
  | cons y L ih =>
    cases k with
    | zero =>
      simp at h
      subst h
      rw [List.flatMap_cons, Nat.zero_mul, Nat.zero_add, List.getElem?_append_left (by simp [pieceL]; omega)]
    | succ k =>
      rw [List.flatMap_cons, List.getElem?_append_right (by simp [pieceL]; omega)]
      have := ih k (by simpa using h)
      rw [← this]
      congr 1
      simp [pieceL]
      omega
theorem piece_cells {w : World} {B n c k : Nat} {a : Option Addr} {s : ByteArray} {L : List Nat} {x : Nat} (h : Own w B 2 a n c (L.flatMap (pieceL s))) (hx : L[k]? = some x) : ∃ g, a = some ⟨g, 0, none⟩ ∧ w.cell? ⟨g, k * 2, none⟩ = some (.string (partS s x)) ∧ w.cell? ⟨g, k * 2 + 1, none⟩ = some (.int .i32 (runeAt s x)) := by
  have hk : k < L.length := (List.getElem?_eq_some_iff.1 hx).1
  have hl := h.len
  rw [pieceL_len] at hl
  obtain ⟨g, hg, _, _, q3, _⟩ := h.addr (by have := h.le; omega)
  refine ⟨g, hg, q3 _ _ ?_, q3 _ _ ?_⟩
  · have := pieceL_at s L k x hx 0 (by omega)
    rw [Nat.add_zero] at this
    rw [this]
    rfl
  · rw [pieceL_at s L k x hx 1 (by omega)]
    rfl

theorem block4f {W : World} {g : Nat} {a b c d : Value} (h : W.heap[g]? = some (.cells #[a, b, c, d] 41 (0, 0))) : W.frozen? ⟨g, 0, none⟩ = false ∧ W.frozen? ⟨g, 1, none⟩ = false ∧ W.frozen? ⟨g, 2, none⟩ = false ∧ W.frozen? ⟨g, 3, none⟩ = false := by
  refine ⟨?_, ?_, ?_, ?_⟩ <;> simp [World.frozen?, h]
/-- A block that four stores into another one leave. -/
theorem set4_other {W : World} {g k : Nat} {o : Obj} (h : W.heap[k]? = some o) (hne : g ≠ k) (x y z u : Value) : ((((W.setCell ⟨g, 0, none⟩ x).setCell ⟨g, 1, none⟩ y).setCell ⟨g, 2, none⟩ z).setCell ⟨g, 3, none⟩ u).heap[k]? = some o :=
  (Below.heap_setCell _ ⟨g, 3, none⟩ _ k (Ne.symm hne)).trans ((Below.heap_setCell _ ⟨g, 2, none⟩ _ k (Ne.symm hne)).trans ((Below.heap_setCell _ ⟨g, 1, none⟩ _ k (Ne.symm hne)).trans ((Below.heap_setCell _ ⟨g, 0, none⟩ _ k (Ne.symm hne)).trans h)))

/-- What the law asks of a part that is told. -/
def goodC (s : ByteArray) (L : List Nat) (k x : Nat) : Prop := ∃ y, L[k]? = some y ∧ partS s x = partS s y ∧ runeAt s x = runeAt s y

/-- Boxed, where nothing below a bound turns. -/
theorem boxed_under {w w' : World} {B N : Nat} {t : TypeId} {v : Value} (h : Boxed w B t v) (hb : Below N w w') (hB : B < N) : Boxed w' B t v := (hb.block B hB).trans h

set_option maxRecDepth 100000 in
set_option maxHeartbeats 8000000 in
theorem uchecks_in (w : World) (s : ByteArray) (hs : s.size ≤ 1048576) (hT : Lib.Utf8Tabs 0 1 w) :
    CallsIn Fence.wide 5 Tryd.prog 11 #[.string s] w fun e W' => e = .returned (.bool true) ∧ Below w.heap.size w W' := by
  obtain ⟨i0, hi, hz0, hz1, hz2⟩ := info_parts info21
  have h2w := tabs_at hT
  have HT := Lib.hid hT
  have hAl := textRunes_le s
  have HCH := Lib.hid (fun w hT => check_any w s (by omega) hT)
  have HRC := Lib.hid (fun w => rcheck_any w s (by omega))
  have HST := Lib.hid (fun w hT => strict_any w s (by omega) hT)
  have HCE := Lib.hid (fun h => check_nonzero (s := s) h)
  obtain ⟨C, hC⟩ : ∃ C, C = checkOf s := ⟨_, rfl⟩
  unfold StrictP at HST
  rw [← hC] at HCH HRC HST HCE
  obtain ⟨c0, z⟩ := C
  simp only at HCH HRC HST HCE
  clear hT hC
  refine callsIn_of_wp_marks Tryd.func11 rfl trivial ?_ rfl
  simp only [Tryd.ntmps11, List.size_toArray, List.length_cons, List.length_nil, Nat.reduceAdd, Nat.reduceSub, Array.replicate_succ, Array.replicate_zero, List.push_toArray, List.append_toArray, List.nil_append, List.cons_append]
  refine wpIn_wide.2 ?_
  go_wp2_with fail
  have b0 := Boxed.new w 4 (.bool false)
  have hbw : Below w.heap.size w (w.alloc (.cells #[.bool false] 4)) := (Below.refl _ _).alloc (Nat.le_refl _) _
  refine (HCH.out _ (tabs_below HT.out hbw)).mono ?_
  rintro e w1 ⟨rfl, hb1⟩
  have B1 := Lib.hid (b0.kept (below_grown hb1) (by simp))
  have HB1 := Lib.hid (hbw.trans (hb1.mono (by simp)))
  clear hb1 b0 hbw
  go_wp2_with fail
  refine (HRC.out _).mono ?_
  rintro e w2 ⟨rfl, hb2⟩
  have B2 := Lib.hid (B1.out.kept (below_grown hb2) (by simp))
  have HB2 := Lib.hid (after HB1.out hb2)
  clear hb2 B1
  go_wp2_with fail
  refine (HST.out _ (tabs_below HT.out HB2.out)).mono ?_
  rintro e w3 ⟨a1, n1, k1, p1, rfl, hb3, hcase1⟩
  have HC1 := Lib.hid hcase1
  have HX3 := Lib.hid hb3
  have HB3 := Lib.hid (after HB2.out hb3)
  clear hb3 hcase1
  go_wp2_with fail
  refine (HST.out _ (tabs_below HT.out HB3.out)).mono ?_
  rintro e w4 ⟨a2, n2, k2, p2, rfl, hb4, hcase2⟩
  have HC2 := Lib.hid hcase2
  have HX4 := Lib.hid hb4
  have HB4 := Lib.hid (after HB3.out hb4)
  clear hb4 hcase2
  go_upto_region 5 with (fail)
  go_cut [60] from 19 (fun s60 wx => s60 = .bool false ∧ w4 = wx)
  case first =>
    rcases HC1.out with ⟨hz, _, rfl, _⟩ | ⟨hz, _, _, _, g1, rfl, _⟩
    · rcases HC2.out with ⟨_, _, rfl, _⟩ | ⟨hz2, _⟩
      · have e1 : (((c0 : Nat) : Int) != ((c0 : Nat) : Int)) = false := by simp
        have e2 : (((z : Nat) : Int) != ((z : Nat) : Int)) = false := by simp
        have e3 : (((z : Nat) : Int) == 0) = true := by simp [hz]
        clear HC1 HC2 hz
        go_wp2
        go_meet
        case rel => exact ⟨rfl, rfl⟩
      · exact absurd hz hz2
    · rcases HC2.out with ⟨hz2, _⟩ | ⟨_, _, _, _, g2, rfl, _⟩
      · exact absurd hz2 hz
      · have e1 : (((c0 : Nat) : Int) != ((c0 : Nat) : Int)) = false := by simp
        have e2 : (((z : Nat) : Int) != ((z : Nat) : Int)) = false := by simp
        have e3 : (((z : Nat) : Int) == 0) = false := by simp; omega
        clear HC1 HC2 hz
        go_wp2
        go_meet
        case rel => exact ⟨rfl, rfl⟩
  case rest =>
    obtain ⟨rfl, rfl⟩ := hcut
    go_upto_if 62 with (fail)
    go_cut [] from 3 (fun wx => Hid (Below w2.heap.size w4 wx))
    case first =>
      rcases HC1.out with ⟨hz, hn1, _, ho1⟩ | ⟨hz, rfl, rfl, rfl, g1, rfl, hg1, hl1, hs1⟩
      · rcases HC2.out with ⟨_, hn2, _, ho2⟩ | ⟨hz2, _⟩
        · have e3 : (((z : Nat) : Int) == 0) = true := by simp [hz]
          clear hz
          subst hn1
          subst hn2
          have O1 := Lib.hid ho1
          have O2 := Lib.hid ho2
          clear HC1 HC2 ho1 ho2 HCE
          go_wp2_with fail
          refine (rrunes_any _ s (by omega)).mono ?_
          rintro e w5 ⟨a3, k3, rfl, hown3, hb5⟩
          have F := fresh_any w5 w2.heap.size w4.heap.size a1 a2 a3 k1 k2 k3 (textRunes s) (by omega) (by have := HX3.out.size; have := HX4.out.size; have := hb5.size; omega) ((O1.out.below HX4.out).below hb5) ((O2.out.mono HX3.out.size).below hb5) hown3
            (later_apart O1.out O2.out (Nat.le_refl _)) (later_apart (O1.out.below HX4.out) hown3 (Nat.le_refl _)) (later_apart O2.out hown3 (Nat.le_refl _))
          have HF := Lib.hid F
          have HB5 := Lib.hid (hb5.mono (show w2.heap.size ≤ w4.heap.size by have := HX3.out.size; have := HX4.out.size; omega))
          clear F hown3 hb5
          go_wp2_with fail
          refine HF.out.mono ?_
          rintro e w6 ⟨rfl, hb6⟩
          have HB6 := Lib.hid (HB5.out.trans hb6)
          clear hb6
          go_wp2
          go_meet
          case rel => exact HB6
        · exact absurd hz hz2
      · rcases HC2.out with ⟨hz2, _⟩ | ⟨_, rfl, rfl, rfl, g2, rfl, hg2, hl2, hs2⟩
        · exact absurd hz2 hz
        · obtain ⟨x, hx, hcx, hcs⟩ := HCE.out hz
          simp only [Prod.mk.injEq] at hcs
          obtain ⟨rfl, rfl⟩ := hcs
          have hxs := place_lt hx
          have hat := fun W => rat_any s c0 W hxs (by omega)
          unfold SpotR spotE spotV at hat
          unfold SpotBox spotV at hs1 hs2
          obtain ⟨r, hr⟩ : ∃ r, r = (Utf8.decode s c0).1 := ⟨_, rfl⟩
          obtain ⟨wd, hwd⟩ : ∃ wd, wd = (Utf8.decode s c0).2 := ⟨_, rfl⟩
          rw [← hr, ← hwd] at hat hs1 hs2
          have HAT := Lib.hid hat
          have HS1 := Lib.hid hs1
          have HS2 := Lib.hid hs2
          have e3 : (((codeOf s c0 : Nat) : Int) == 0) = false := by simp; omega
          generalize codeOf s c0 = cd at *
          clear HC1 HC2 HCE hz hcx hx hat hs1 hs2 hr hwd
          go_wp2_with fail
          refine (HAT.out _).mono ?_
          rintro e w5 ⟨rfl, hb5⟩
          go_wp2_with fail
          have hbk3 : (w5.alloc (.cells #[.int .i64 c0, .int .i64 wd, .int .i32 r, .int .i64 cd] 41)).heap[w5.heap.size]? = some (.cells #[.int .i64 c0, .int .i64 wd, .int .i32 r, .int .i64 cd] 41 (0, 0)) := World.alloc_heap_new w5 _
          have hb51 : Below w4.heap.size w4 (w5.alloc (.cells #[.int .i64 c0, .int .i64 wd, .int .i32 r, .int .i64 cd] 41)) := hb5.alloc hb5.size _
          have hbk2 := (hb51.block g2 hl2).trans HS2.out
          have hbk1 := (hb51.block g1 (Nat.lt_of_lt_of_le hl1 HX4.out.size)).trans ((HX4.out.block g1 hl1).trans HS1.out)
          have hg5 := hb5.size
          generalize hG3 : w5.heap.size = g3 at *
          generalize w5.alloc (.cells #[.int .i64 c0, .int .i64 wd, .int .i32 r, .int .i64 cd] 41) = w6 at *
          have hx4 := HX4.out.size
          have hx3 := HX3.out.size
          have h12 : g1 ≠ g2 := by omega
          have h13 : g1 ≠ g3 := by omega
          have hm : w2.heap.size ≤ w4.heap.size := by omega
          have HB6 := Lib.hid (hb51.mono hm)
          obtain ⟨c10, c11, c12, c13⟩ := block4 hbk1
          obtain ⟨c20, c21, c22, c23⟩ := block4 hbk2
          obtain ⟨c30, c31, c32, c33⟩ := block4 hbk3
          have hg1' : w2.heap.size ≤ g1 := hg1
          have HBK1 := Lib.hid hbk1
          have HBK2 := Lib.hid hbk2
          have HBK3 := Lib.hid hbk3
          clear hbk1 hbk2 hbk3 hb51 hb5 HS1 HS2 hG3 hg5 hx4 hx3 hm HAT
          go_quiet (fail)
          have hd1 : (w6.drewN nq).heap[g1]? = some (.cells #[.int .i64 c0, .int .i64 wd, .int .i32 r, .int .i64 cd] 41 (0, 0)) := by rw [World.heap_drewN]; exact HBK1.out
          have hd2 : (w6.drewN nq).heap[g2]? = some (.cells #[.int .i64 c0, .int .i64 wd, .int .i32 r, .int .i64 cd] 41 (0, 0)) := by rw [World.heap_drewN]; exact HBK2.out
          have hd3 : (w6.drewN nq).heap[g3]? = some (.cells #[.int .i64 c0, .int .i64 wd, .int .i32 r, .int .i64 cd] 41 (0, 0)) := by rw [World.heap_drewN]; exact HBK3.out
          have HB7 := Lib.hid (below_drewN HB6.out nq)
          clear c10 c11 c12 c13 c20 c21 c22 c23 c30 c31 c32 c33 HBK1 HBK2 HBK3 HB6
          generalize w6.drewN nq = w7 at *
          obtain ⟨c10, c11, c12, c13⟩ := block4 hd1
          obtain ⟨f10, f11, f12, f13⟩ := block4f hd1
          have HD1 := Lib.hid hd1
          have HD2 := Lib.hid hd2
          have HD3 := Lib.hid hd3
          clear hd1 hd2 hd3
          go_wp2_with fail
          have e2 := set4_other HD2.out h12 (.int .i64 (-5)) (.int .i64 0) (.int .i32 0) (.int .i64 0)
          have e3' := set4_other HD3.out h13 (.int .i64 (-5)) (.int .i64 0) (.int .i32 0) (.int .i64 0)
          have HB8 := Lib.hid ((((HB7.out.setCell (p := ⟨g1, 0, none⟩) hg1' (.int .i64 (-5))).setCell (p := ⟨g1, 1, none⟩) hg1' (.int .i64 0)).setCell (p := ⟨g1, 2, none⟩) hg1' (.int .i32 0)).setCell (p := ⟨g1, 3, none⟩) hg1' (.int .i64 0))
          clear c10 c11 c12 c13 f10 f11 f12 f13 HD1 HD2 HD3 HB7
          generalize (((w7.setCell ⟨g1, 0, none⟩ (.int .i64 (-5))).setCell ⟨g1, 1, none⟩ (.int .i64 0)).setCell ⟨g1, 2, none⟩ (.int .i32 0)).setCell ⟨g1, 3, none⟩ (.int .i64 0) = w8 at *
          obtain ⟨c20, c21, c22, c23⟩ := block4 e2
          obtain ⟨c30, c31, c32, c33⟩ := block4 e3'
          clear e2 e3'
          go_quiet (fail)
          have HB9 := Lib.hid (below_drewN HB8.out nq)
          clear c20 c21 c22 c23 c30 c31 c32 c33
          go_wp2
          go_meet
          case rel => exact HB9
    case rest =>
      have hm2 : w2.heap.size ≤ w4.heap.size := by have := HX3.out.size; have := HX4.out.size; omega
      have hB5 : Below w.heap.size w wc := HB4.out.trans (hcut.out.mono HB2.out.size)
      have B4 : Boxed w4 w.heap.size 4 (.bool false) := (B2.out.kept (below_grown HX3.out) (by simp)).kept (below_grown HX4.out) (by simp)
      have hlt2 : w.heap.size < w2.heap.size := (Array.getElem?_eq_some_iff.1 B2.out).1
      have BC := Lib.hid (boxed_under B4 hcut.out hlt2)
      have HB5 := Lib.hid hB5
      clear hm2 hB5 B4 hcut hlt2 HC1 HC2 HCE HST HRC HCH B2 HB1 HB2 HB3 HB4 HX3 HX4
      have hPl := pieces_le s
      obtain ⟨L, hL⟩ : ∃ L, L = piecesFrom s 0 := ⟨_, rfl⟩
      have HRP := Lib.hid (fun w => rpieces_any w s (by omega))
      rw [← hL] at HRP hPl
      have HLL := Lib.hid hL
      clear hL
      have hn : L.length ≤ 1048576 := by omega
      go_wp2_with fail
      refine (HRP.out _).mono ?_
      rintro e w7 ⟨a4, k4, rfl, hown4, hb7⟩
      have BT := Lib.hid (Boxed.new w7 61 (.slice a4 L.length k4))
      have HO4 := Lib.hid (hown4.alloc (.cells #[.slice a4 L.length k4] 61))
      have BR := Lib.hid ((BC.out.kept (below_grown hb7) (by simp)).alloc (.cells #[.slice a4 L.length k4] 61))
      have HB8 := Lib.hid ((after HB5.out hb7).alloc (after HB5.out hb7).size (.cells #[.slice a4 L.length k4] 61))
      have hTb : w7.heap.size < (w7.alloc (.cells #[.slice a4 L.length k4] 61)).heap.size := by simp
      clear hb7 hown4 BC HB5
      go_wp2_with fail
      obtain ⟨Tb, hTT⟩ : ∃ Tb, Tb = w7.heap.size := ⟨_, rfl⟩
      rw [← hTT] at BT hTb ⊢
      generalize w7.alloc (.cells #[.slice a4 L.length k4] 61) = w8 at *
      clear hTT
      go_loopw [13, 14] (fun v i wr => ∃ (k : Nat) (a : Option Addr) (c : Nat), k ≤ L.length ∧ i = .int .i64 k ∧ v = .slice a k c ∧ Own wr w8.heap.size 1 a k c (((L.take k).map (runeAt s)).map (Value.int .i32)) ∧ Below w8.heap.size w8 wr) (fun _ i _ => L.length - (intOf i).toNat)
      case atStart => exact ⟨0, none, 0, Nat.zero_le _, rfl, rfl, Own.nil _ _ _, Below.refl _ _⟩
      case round =>
        obtain ⟨k, a, c, hk, rfl, rfl, hown, hb⟩ := hrel
        have HB := Lib.hid hb
        have hct := (BT.out.kept (below_grown hb) (by simp)).cell
        have h0 : (0 : Int) ≤ (k : Int) := by omega
        clear hb
        by_cases hlt : k < L.length
        · obtain ⟨x, hx⟩ : ∃ x, L[k]? = some x := ⟨_, List.getElem?_eq_getElem hlt⟩
          obtain ⟨g, rfl, q0, q1⟩ := piece_cells (HO4.out.below HB.out) hx
          have h1 : (k : Int) < (L.length : Int) := by omega
          have HX := Lib.hid hx
          clear hx q0
          go_wp2_with (at_builtin; refine wpList_app rfl _ _ 26 26 rfl 21 i0 (.int .i32 0) 1 4 Tryd.underlying26 hi hz0 hz1 hz2 rfl (by simp [Value.cells, Value.oneCell']) w8.heap.size _ _ _ _ rfl (hown.alloc _) _ 1 [.int .i32 (runeAt s x)] rfl (Src.ofCells Tryd.underlying26 _ _ _ _ rfl (Cells.new _ _ _) (by simp [Value.oneCell']) (by decide)) (by simp [maxLen]; omega) (by omega) (by have := HB.out.size; simp; omega) ?_; intro a5 c5 w9 hown5 hap5; have hb5 := Lib.hid ((HB.out.alloc HB.out.size _).trans (hap5.below (hown.alloc _) (by have := HB.out.size; simp; omega))); have HO5 := Lib.hid hown5; clear hown5 hap5 hown)
          go_roundw
          case rel => exact ⟨k + 1, a5, c5, by omega, by go_num, rfl, by have := HO5.out; rw [List.take_add_one, HX.out]; simpa using this, hb5.out⟩
          case measure => simp [intOf]; omega
        · obtain rfl : k = L.length := by omega
          rw [List.take_of_length_le (Nat.le_refl _)] at hown
          have HW := Lib.hid hown
          clear hown hlt hk
          have hb8 := HB8.out.trans (HB.out.mono HB8.out.size)
          have BR2 := Lib.hid (BR.out.kept (below_grown HB.out) (by simp))
          have BT2 := Lib.hid (BT.out.kept (below_grown HB.out) (by simp))
          have HP2 := Lib.hid (HO4.out.below HB.out)
          have HB10 := Lib.hid hb8
          clear hb8 HB BR BT HO4 HB8 hTb
          go_wp2_with (go_at_call 36; refine (piecesF_any _ _).mono ?_; rintro e w' ⟨rfl, rfl⟩)
          have hrl : w.heap.size < wr.heap.size := (Array.getElem?_eq_some_iff.1 BR2.out).1
          have htl : Tb < wr.heap.size := (Array.getElem?_eq_some_iff.1 BT2.out).1
          have b0 := (Boxed.new wr 3 (.int .i64 0)).alloc (.cells #[.string s] 9)
          have b1 := Boxed.new (wr.alloc (.cells #[.int .i64 0] 3)) 9 (.string s)
          simp only [World.size_alloc] at b1
          have hB0 : Below wr.heap.size wr ((wr.alloc (.cells #[.int .i64 0] 3)).alloc (.cells #[.string s] 9)) := ((Below.refl _ wr).alloc (Nat.le_refl _) _).alloc (by simp) _
          have hT0 := tabs_below HT.out (after HB10.out hB0)
          have h2r : 2 ≤ wr.heap.size := tabs_at (tabs_below HT.out HB10.out)
          refine (wpIn_wide (n := 5)).1 ?_
          refine wpIn_rangeFunc_ownG rfl (by omega) (gf := 61) (lb := #[.pointer (some ⟨wr.heap.size + 1, 0, none⟩)]) rfl trivial (enters_of Tryd.func61 (by kernel_rfl) rfl)
            (pieces_stops (5 - 1) (by omega) (wr.heap.size + 1) s _ (by omega) (by simp) b1.cell hT0) (fun h k => h.trans k) (keepsQ_b _ (by simp) (tabs_at hT0)) (Below.refl _ _) (fun _ => rfl)
            (fun pre W => (Boxed W wr.heap.size 3 (.int .i64 (pre.length : Nat)) ∧ Boxed W (wr.heap.size + 1) 9 (.string s)) ∧ Below wr.heap.size wr W) (fun (_ : Code) (pre : List Nat) (_ : World) => ∃ (pre' : List Nat) (x : Nat), pre = pre' ++ [x] ∧ ¬ goodC s L pre'.length x)
            (OwnFrom.and (Own.from (fun _ A B row hs hg hr => ⟨boxed_own _ _ (fun _ : Unit => _) () A B row hs.1 hg hr, boxed_own _ _ (fun _ : Unit => _) () A B row hs.2 hg hr⟩) _) (ownFrom_below (Nat.le_refl _) (by simp; omega))) (fun _ _ _ _ _ hs _ _ => hs)
            ⟨⟨b0, b1⟩, hB0⟩
            (fun x => { tmps := #[.string s, undef, .pointer (some ⟨w.heap.size, 0, none⟩), u3, u4, u5, u6, u7, u8, u9, u10, u11, .pointer (some ⟨Tb, 0, none⟩), .slice a L.length c, .int .i64 L.length, .pointer (some ⟨wr.heap.size, 0, none⟩), .func (.func 61) #[] #[.pointer (some ⟨wr.heap.size + 1, 0, none⟩)], .string (partS s x), .int .i32 (runeAt s x), u19, u20, u21, u22, u23, u24, u25, u26, u27, u28, u29, u30, u31, u32, u33, u34, u35, u36, u37, u38, u39, u40, u41, u42, u43, u44, u45, u46, u47, u48, u49, u50, u51, u52, u53, u54, u55, u56, u57, u58, u59, u60, u61, u62, u63, u64, u65, u66, u67, u68, u69, u70, u71, u72, u73, u74, u75, u76, u77, u78, u79, u80, u81, u82, u83, u84, u85, u86, u87, u88, u89, u90, u91, u92, u93, u94, u95, u96, u97, u98, u99, .string s, .slice a4 L.length k4, .int .i64 L.length, .slice a4 L.length k4, .int .i64 L.length, .bool false, u106, u107, u108, u109, u110, u111, u112, u113, u114, u115, .string s, .func (.func 61) #[] #[.pointer (some ⟨wr.heap.size + 1, 0, none⟩)], .func (.func 61) #[] #[.pointer (some ⟨wr.heap.size + 1, 0, none⟩)], .bool false, .func (.func 61) #[] #[.pointer (some ⟨wr.heap.size + 1, 0, none⟩)], .string (partS s x), .int .i32 (runeAt s x), u123, u124, u125, u126, u127, u128, u129, u130, u131, u132, u133, u134, u135, u136, u137, u138, u139, u140, u141, u142, u143, u144, u145, u146, u147, u148, u149, u150, u151, u152, u153, u154, u155, u156, u157, u158, u159, u160, u161, u162, u163, u164, u165, u166, u167, u168, u169], defers := [] }) ?assign ?body ?done ?stop
          case assign =>
            intro l x W K hK
            gi_wp2
            exact hK
          case body =>
            rintro l pre x W ⟨⟨hv, hbu⟩, hB⟩ hlt
            have hc := hv.cell
            have hf := hv.frozen
            have hrc := (boxed_under BR2.out hB hrl).cell
            have hrf := (boxed_under BR2.out hB hrl).frozen
            have htc := (boxed_under BT2.out hB htl).cell
            have HV := Lib.hid hv
            have HBU := Lib.hid hbu
            have HPW := Lib.hid (HP2.out.below hB)
            have HBB := Lib.hid hB
            have hp0 : (0 : Int) ≤ (pre.length : Int) := by omega
            have hpm : pre.length ≤ 1048576 := by rw [← HLL.out] at hlt; omega
            clear hv hbu hB hlt hB0 hT0 b0 b1
            by_cases hg : goodC s L pre.length x
            · obtain ⟨y, hy, e1, e2⟩ := hg
              have hlt : (pre.length : Int) < (L.length : Int) := by have := (List.getElem?_eq_some_iff.1 hy).1; omega
              obtain ⟨g, rfl, q0, q1⟩ := piece_cells HPW.out hy
              rw [e1, e2]
              generalize partS s y = p at *
              generalize runeAt s y = r at *
              clear e1 e2 hy
              have hrr : (r != r) = false := by simp
              gi_wp2
              have h2r' := h2r
              refine ⟨(KeepsOthers.setCell _ _ _).from _, (KeepsQ.refl _ _).setCell HV.out (by decide) h2r (by omega) _, ⟨?_, HBU.out.other (by omega) _⟩, HBB.out.setCell (p := ⟨wr.heap.size, 0, none⟩) (Nat.le_refl _) _⟩
              have := HV.out.set (.int .i64 ((pre.length : Int) + 1))
              rw [show (((pre ++ [x]).length : Nat) : Int) = (pre.length : Int) + 1 by simp]
              exact this
            · have HG := Lib.hid hg
              by_cases hlt : pre.length < L.length
              · obtain ⟨y, hy⟩ : ∃ y, L[pre.length]? = some y := ⟨_, List.getElem?_eq_getElem hlt⟩
                obtain ⟨g, rfl, q0, q1⟩ := piece_cells HPW.out hy
                have hli : (pre.length : Int) < (L.length : Int) := by omega
                have hne : ¬ (partS s x = partS s y ∧ runeAt s x = runeAt s y) := fun h => hg ⟨y, hy, h.1, h.2⟩
                clear hg hy
                generalize partS s x = p at *
                generalize runeAt s x = r at *
                generalize partS s y = q at *
                generalize runeAt s y = v at *
                by_cases hpq : p = q
                · subst hpq
                  have hrv : (r != v) = true := by simp; exact fun h => hne ⟨rfl, h⟩
                  clear hne
                  gi_wp2
                  exact ⟨(KeepsOthers.setCell _ _ _).from _, pre, x, rfl, HG.out⟩
                · have hpl : ¬ p.toList = q.toList := fun h => hpq (bytes_ext (by rw [← Lib.toList_data, ← Lib.toList_data, h]))
                  have hpl2 : (!p.toList == q.toList) = true := by simp [hpl]
                  clear hne hpq
                  gi_wp2
                  all_goals first | exact ⟨(KeepsOthers.setCell _ _ _).from _, pre, x, rfl, HG.out⟩ | (exfalso; simp_all)
              · have hli : (L.length : Int) ≤ (pre.length : Int) := by omega
                clear hg
                gi_wp2
                exact ⟨(KeepsOthers.setCell _ _ _).from _, pre, x, rfl, HG.out⟩
          case stop =>
            rintro D k pre W hD hpre ⟨pre', x, rfl, hbad⟩ hK
            refine (hbad ⟨x, ?_, rfl, rfl⟩).elim
            obtain ⟨r, hr⟩ := hpre
            rw [HLL.out, ← hr]
            simp
          case done =>
            rintro D ys W hD rfl ⟨⟨hv, hbu⟩, hB⟩ hK
            rw [← HLL.out] at hv
            have HV := Lib.hid hv
            have HK := Lib.hid hK
            have HR := Lib.hid (boxed_under BR2.out hB hrl)
            have HTB := Lib.hid (boxed_under BT2.out hB htl)
            have HW2 := Lib.hid (HW.out.below hB)
            have HB11 := Lib.hid (after HB10.out hB)
            clear hB0 hT0 b0 b1 hK hB hv hbu HB10 HP2 BR2 BT2 HW htl h2r
            have hvc := HV.out.cell
            have htc := HTB.out.cell
            have hl : partsOf s = L.map (runeAt s) := by unfold partsOf; rw [HLL.out]
            have P := fun W hT => parts_any W s (by omega) hT
            rw [hl, List.length_map] at P
            have HPP := Lib.hid P
            have hnn : ((L.length : Int) == (L.length : Int)) = true := by simp
            clear P hl
            go_wp2_with fail
            refine (HPP.out _ (tabs_below HT.out HB11.out)).mono ?_
            rintro e v1 ⟨p1, d1, rfl, ho1, hv1⟩
            have HQ1 := Lib.hid ho1
            have HW3 := Lib.hid (HW2.out.below hv1)
            have HX1 := Lib.hid (after HB11.out hv1)
            have HV1 := Lib.hid (HV.out.kept (below_grown hv1) (by simp))
            have HZ1 := Lib.hid hv1
            clear ho1 hv1
            go_wp2_with fail
            refine (HPP.out _ (tabs_below HT.out HX1.out)).mono ?_
            rintro e v2 ⟨p2, d2, rfl, ho2, hv2⟩
            have F := fresh_any v2 W.heap.size w8.heap.size p1 p2 a d1 d2 c (L.map (runeAt s)) (by rw [List.length_map]; omega) (Nat.le_trans HZ1.out.size hv2.size)
              (by rw [List.length_map]; exact HQ1.out.below hv2) (by rw [List.length_map]; exact ho2.mono HZ1.out.size) (by rw [List.length_map]; exact HW3.out.below hv2)
              (later_apart HQ1.out ho2 (Nat.le_refl _)) (apart_symm HW2.out (later_apart HW2.out HQ1.out (Nat.le_refl _))) (apart_symm HW2.out (later_apart HW3.out ho2 (Nat.le_refl _)))
            rw [List.length_map] at F
            have HF := Lib.hid F
            have HX2 := Lib.hid (after HX1.out hv2)
            have HZ2 := Lib.hid (after HZ1.out hv2)
            clear F ho2 hv2
            go_wp2_with fail
            refine HF.out.mono ?_
            rintro e v3 ⟨rfl, hv3⟩
            have HZ3 := Lib.hid (HZ2.out.trans hv3)
            clear hv3 HF HPP HQ1 HW3 HV1 HX1 HX2 HZ2 HZ1 hvc htc
            go_wp2_with fail
            refine (mend_any _ s (by omega)).mono ?_
            rintro e v4 ⟨rfl, hv4⟩
            have HZ4 := Lib.hid (after HZ3.out hv4)
            clear hv4
            go_wp2_with fail
            refine (rrunes_any _ s (by omega)).mono ?_
            rintro e v5 ⟨p3, d3, rfl, ho3, hv5⟩
            have HZ5 := Lib.hid (after HZ4.out hv5)
            have HE := Lib.hid (rencode_any v5 p3 d3 (textRunes s) (by omega) ho3.toCells)
            clear hv5 ho3
            have hmd : mendS s = runesBytes (textRunes s) := rfl
            rw [hmd]
            clear hmd
            go_wp2_with fail
            refine HE.out.mono ?_
            rintro e v6 ⟨rfl, hv6⟩
            have HZ6 := Lib.hid (after HZ5.out hv6)
            clear hv6
            go_wp2_with fail
            refine (lives_any _ (tabs_below HT.out (after HB11.out HZ6.out))).mono ?_
            rintro e v7 ⟨rfl, hv7⟩
            have HZ7 := Lib.hid (after HZ6.out hv7)
            clear hv7
            have HV7 := Lib.hid (HR.out.kept (below_grown HZ7.out) (by simp))
            have HK7 := Lib.hid ((HZ7.out.block D (Array.getElem?_eq_some_iff.1 HK.out).1).trans HK.out)
            have HB7 := Lib.hid (after HB11.out HZ7.out)
            have hc7 := HV7.out.cell
            have hf7 := HV7.out.frozen
            go_wp2_with fail
            have hK' := (KeepsOthers.setCell v7 ⟨w.heap.size, 0, none⟩ (.bool true)).same D _ HK7.out rfl
            have X1 := HV7.out.set (.bool true)
            refine ⟨by simp, .inl ⟨_, _, rfl, run_takeDeferred hK', ?_⟩⟩
            have hk5 := cell_kept X1.cell (grownBy_putObj' _ D (.deferred none)) (fun r e => by cases e; exact ⟨_, hK', rfl⟩)
            refine ⟨.bool true, ?_, rfl, (HB7.out.setCell (p := ⟨w.heap.size, 0, none⟩) (Nat.le_refl _) _).trans (belowK_b (w := w) (Nat.le_refl _) _ D _ _ (by simp at hD; omega) hK' rfl rfl)⟩
            simp [results, Tryd.f11, go_sem, hk5]

theorem checks_walk (w : World) (s : ByteArray) (hs : s.size ≤ 1048576) (hT : Lib.Utf8Tabs 0 1 w) :
    Calls Tryd.prog 11 #[.string s] w fun e w' => e = .returned (.bool true) ∧ Below w.heap.size w w' := callsIn_wide.1 (uchecks_in w s hs hT)

end Go.Proofs.YthkehgmeaedflaaDoor
