/-
  The walk of the law UtfGo.
-/
import Derived.Test.YthkehgmeaedflaaDoorAll
import Derived.Test.YthkehgmeaedflaaDoorUBack
namespace Go.Proofs.YthkehgmeaedflaaDoor
open Go.RowKit

theorem pairL_at (L : List (Nat × Nat)) (k : Nat) (x : Nat × Nat) (h : L[k]? = some x) (j : Nat) (hj : j < 2) : (L.flatMap pairL)[k * 2 + j]? = (pairL x)[j]? := by
  induction L generalizing k with
  | nil => simp at h
  | cons y L ih =>
    cases k with
    | zero =>
      simp at h
      subst h
      rw [List.flatMap_cons, Nat.zero_mul, Nat.zero_add, List.getElem?_append_left (by simp [pairL]; omega)]
    | succ k =>
      rw [List.flatMap_cons, List.getElem?_append_right (by simp [pairL]; omega)]
      have := ih k (by simpa using h)
      rw [← this]
      congr 1
      simp [pairL]
      omega

/-- Two cells of a row of pairs. -/
theorem pair_cells {w : World} {B n c k : Nat} {a : Option Addr} {L : List (Nat × Nat)} {x : Nat × Nat} (h : Own w B 2 a n c (L.flatMap pairL)) (hx : L[k]? = some x) : ∃ g, a = some ⟨g, 0, none⟩ ∧ w.cell? ⟨g, k * 2, none⟩ = some (.int .i64 (x.1 : Int)) ∧ w.cell? ⟨g, k * 2 + 1, none⟩ = some (.int .i32 (x.2 : Int)) := by
  have hk : k < L.length := (List.getElem?_eq_some_iff.1 hx).1
  have hl := h.len
  rw [pairL_len] at hl
  obtain ⟨g, hg, _, _, q3, _⟩ := h.addr (by have := h.le; omega)
  refine ⟨g, hg, q3 _ _ ?_, q3 _ _ ?_⟩
  · have := pairL_at L k x hx 0 (by omega)
    rw [Nat.add_zero] at this
    rw [this]
    rfl
  · rw [pairL_at L k x hx 1 (by omega)]
    rfl

theorem iter_below {W : World} {s : ByteArray} {pos : Nat} {B : Nat} {w : World} (h : Below B w W) (hB : B ≤ W.heap.size) : Below B w (W.iter s pos) := h.alloc hB _

set_option maxRecDepth 100000 in
set_option maxHeartbeats 8000000 in
theorem go_walk (w : World) (s : ByteArray) (hs : s.size ≤ 1048576) (a : Option Addr) (c : Nat) (xs : List Int) (hle : xs.length ≤ c) (hc : c ≤ 1048576) (hr : Cells w a (xs.map (Value.int .i32))) (hwf : ∀ x ∈ xs, (Lit.int .i32 x).wf = true) (hT : Lib.Utf8Tabs 0 1 w) :
    Calls Tryd.prog 7 #[.string s, .slice a xs.length c] w fun e w' => e = .returned (.bool true) ∧ Below w.heap.size w w' := by
  have hn : xs.length ≤ 1048576 := by omega
  obtain ⟨i0, hi, hz0, hz1, hz2⟩ := info_parts info21
  have A1 := all_on w s (-1) (by omega) hT
  rw [show fewOf (spotsFrom s 0) (-1) = spotsFrom s 0 from rfl] at A1
  have HA1 := Lib.hid A1
  have hsl : (spotsFrom s 0).length ≤ s.size := spotsN_le s s.size 0
  have htl := textRunes_le s
  have HTL := Lib.hid (show (textRunes s).length = (spotsFrom s 0).length by simp [textRunes])
  have HR := Lib.hid hr
  have HT := Lib.hid hT
  clear hr hT A1 hwf hle hc
  go_enter Tryd.func7, Tryd.ntmps7
  go_wp2_with fail
  refine HA1.out.mono ?_
  rintro e w1 ⟨a1, c1, rfl, hown1, hb1⟩
  have HO1 := Lib.hid hown1
  have HB1 := Lib.hid hb1
  obtain ⟨B, hB⟩ : ∃ B, B = w1.heap.size := ⟨_, rfl⟩
  have hit0 := World.iter_heap w1 s 0
  have hbl0 : Below w1.heap.size w1 (w1.iter s 0) := (Below.refl _ _).alloc (Nat.le_refl _) _
  rw [← hB] at hit0 hbl0
  have HIT0 := Lib.hid hit0
  have HBL0 := Lib.hid hbl0
  have HBE := Lib.hid hB
  clear hown1 hb1 HA1 hit0 hbl0
  go_wp2_with fail
  rw [← hB]
  clear hB
  go_loopw [5] (fun i wr => ∃ (pos : Nat) (pre : List (Nat × Nat)), pre ++ spotsFrom s pos = spotsFrom s 0 ∧ i = .int .i64 (pre.length : Nat) ∧ wr.heap[B]? = some (.stringIter s pos) ∧ Below B w1 wr) (fun _ wr => s.size - wr.iterPos B)
  case atStart => exact ⟨0, [], rfl, rfl, HIT0.out, HBL0.out⟩
  case round =>
    obtain ⟨pos, pre, hpre, rfl, hit, hbl⟩ := hrel
    have hpl : pre.length ≤ (spotsFrom s 0).length := by
      rw [← hpre]
      simp
    have hBs : B < wr.heap.size := (Array.getElem?_eq_some_iff.1 hit).1
    have hown : Own wr w.heap.size 2 a1 (spotsFrom s 0).length c1 ((spotsFrom s 0).flatMap pairL) := HO1.out.below (by rw [← HBE.out]; exact hbl)
    by_cases hlt : pos < s.size
    · have hnx := fun ty => Lib.run_next_any_at (P := Tryd.prog) wr B s pos ty hit hlt
      have hmore := spotsFrom_more s pos hlt
      have hw := decode_width s pos
      have hpos : wr.iterPos B = pos := by simp [World.iterPos, hit]
      have hgx : (spotsFrom s 0)[pre.length]? = some (pos, (Utf8.decode s pos).1) := by
        rw [← hpre, hmore, List.getElem?_append_right (Nat.le_refl _)]
        simp
      have hpl2 : pre.length < (spotsFrom s 0).length := (List.getElem?_eq_some_iff.1 hgx).1
      have hbl1 := Lib.below_iterAt hbl (show B ≤ B by omega) s (pos + (Utf8.decode s pos).2)
      have hit1 := Lib.iterAt_heap wr B s pos (pos + (Utf8.decode s pos).2) hit
      have hown1 : Own (wr.iterAt B s (pos + (Utf8.decode s pos).2)) w.heap.size 2 a1 (spotsFrom s 0).length c1 ((spotsFrom s 0).flatMap pairL) := HO1.out.below (by rw [← HBE.out]; exact hbl1)
      generalize wr.iterAt B s (pos + (Utf8.decode s pos).2) = W1 at *
      obtain ⟨g, rfl, hc0, hc1⟩ := pair_cells hown1 hgx
      have H1 := Lib.hid hpre
      have H2 := Lib.hid hmore
      have H3 := Lib.hid hpos
      have H4 := Lib.hid hit1
      have H5 := Lib.hid hbl1
      have hk0 : (0 : Int) ≤ (pre.length : Int) := by omega
      have hk1 : (pre.length : Int) < ((spotsFrom s 0).length : Int) := by omega
      clear hpre hmore hpos hit1 hbl1 hown hown1 hgx hit hbl
      go_wp2
      go_roundw
      case rel => exact ⟨pos + (Utf8.decode s pos).2, pre ++ [(pos, (Utf8.decode s pos).1)], by rw [List.append_assoc, ← H1.out, H2.out]; rfl, by simp, H4.out, H5.out⟩
      case measure =>
        have h1 : W1.iterPos B = pos + (Utf8.decode s pos).2 := by simp [World.iterPos, H4.out]
        rw [h1, H3.out]
        omega
    · have hnx := fun ty => Lib.run_next_end_at (P := Tryd.prog) wr B s pos ty hit hlt
      rw [spotsFrom_end s pos hlt, List.append_nil] at hpre
      subst hpre
      have hbW : Below w.heap.size w wr := HB1.out.trans (hbl.mono (by rw [HBE.out]; exact HB1.out.size))
      have HBW := Lib.hid hbW
      have hRN := HTL.out
      have CR := fun W => runes_any W s (by omega)
      rw [hRN] at CR
      have HCR := Lib.hid CR
      clear hit hbl hown hbW hBs hpl CR HIT0 HBL0 HO1
      go_wp2_with (with_reducible refine wpList_runes rfl _ 9 26 21 rfl Tryd.underlying9 Tryd.underlying26 Tryd.underlying21 s rfl (by omega) ?_; intro g2 c2 w2 hown2 hb2; have HO2 := Lib.hid hown2; have HB2 := Lib.hid (after HBW.out hb2); clear hown2 hb2)
      clear hRN
      refine (HCR.out w2).mono ?_
      rintro e w3 ⟨a3, c3, rfl, hown3, hb3⟩
      have HO3 := Lib.hid hown3.toCells
      have HO2' := Lib.hid (HO2.out.below hb3).toCells
      have HB3 := Lib.hid (after HB2.out hb3)
      clear hown3 hb3 HO2
      go_wp2_with fail
      go_loopw [11] (fun i wr => ∃ k : Nat, k ≤ (spotsFrom s 0).length ∧ i = .int .i64 k ∧ Below w3.heap.size w3 wr) (fun i _ => (spotsFrom s 0).length - (intOf i).toNat)
      case atStart => exact ⟨0, Nat.zero_le _, rfl, Below.refl _ _⟩
      case round =>
        obtain ⟨k, hk, rfl, hb⟩ := hrel
        have HB := Lib.hid hb
        clear hb
        have hk0 : (0 : Int) ≤ (k : Int) := by omega
        by_cases hlt : k < (spotsFrom s 0).length
        · obtain ⟨b1, o1, x, hp1, hx, hc1⟩ := (HO2'.out.below HB.out).at (k := k) (by rw [HTL.out]; exact hlt)
          obtain ⟨b2, o2, y, rfl, hy, hc2⟩ := (HO3.out.below HB.out).at (k := k) (by rw [HTL.out]; exact hlt)
          rw [hx] at hy
          simp only [Option.some.injEq] at hy
          subst hy
          simp only [Option.some.injEq, Addr.mk.injEq] at hp1
          obtain ⟨rfl, rfl, _⟩ := hp1
          have hlt2 : (k : Int) < ((spotsFrom s 0).length : Int) := by omega
          have hxx : (x != x) = false := by simp
          rw [Nat.zero_add] at hc1
          clear hx
          go_wp2
          go_quiet (fail)
          go_wp2
          go_roundw
          case rel => exact ⟨k + 1, by omega, by go_num, below_drewN HB.out _⟩
          case measure => simp [intOf]; omega
        · obtain rfl : k = (spotsFrom s 0).length := by omega
          have hB5 := HB3.out.trans (HB.out.mono HB3.out.size)
          have hbz := hB5.size
          have HR5 := Lib.hid (HR.out.below hB5)
          have HB5 := Lib.hid hB5
          clear HO2' HO3 HB hB5 hlt
          go_wp2_with (at_builtin; refine wpList_app rfl _ _ 26 26 rfl 21 i0 (.int .i32 0) 1 4 Tryd.underlying26 hi hz0 hz1 hz2 rfl (by simp [Value.cells, Value.oneCell']) w.heap.size _ _ _ _ rfl (Own.nil _ _ _) _ _ _ rfl (Src.ofCells Tryd.underlying26 _ _ _ _ (by simp) HR5.out (ints_one _ _) (by decide)) (by simp [maxLen]; omega) (by omega) hbz ?_; intro a6 c6 w6 hown6 hap6; rw [Nat.zero_add, List.nil_append] at hown6; have HB6 := Lib.hid (HB5.out.trans (hap6.below (Own.nil wr w.heap.size 1) hbz)); have HO6 := Lib.hid hown6; clear hap6 hown6)
          have hcv := run_text (P := Tryd.prog) (w := w6.drew) 26 9 21 Tryd.underlying26 Tryd.underlying21 Tryd.underlying9 a6 xs.length c6 xs rfl HO6.out.drew.toCells
          have HE := Lib.hid (encode_any w6.drew a6 c6 xs HO6.out.drew.toCells)
          have HB7 := Lib.hid HB6.out.drew
          go_region_with (first | (go_at_call 19; refine HE.out.mono ?_; rintro e w7 ⟨rfl, rfl⟩) | (go_at_call 16; refine (lives_any _ (tabs_below HT.out HB7.out)).mono ?_; rintro e w8 ⟨rfl, hb8⟩))
          all_goals
            go_wp2
            go_ret
            exact ⟨rfl, after HB7.out hb8⟩

end Go.Proofs.YthkehgmeaedflaaDoor
