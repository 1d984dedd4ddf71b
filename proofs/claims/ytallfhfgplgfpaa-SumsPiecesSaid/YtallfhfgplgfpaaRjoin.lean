/-
  Sums joined by the reference: walked.
-/
import Derived.Test.YtallfhfgplgfpaaJoins
import Derived.Deep.MidRow
import Derived.Deep.RegionHeld3
import Derived.Deep.CutRange
import Derived.Deep.Cut
namespace Go.Proofs.Ytallfhfgplgfpaa
open Go.RowKit

theorem rst_zero (x : BitVec 32) : Crc.rst x 0#32 = Crc.stp x := by
  rw [Crc.rst_eq _ _ (by decide), BitVec.xor_zero]

theorem rstep_zero (x : BitVec 32) (w : World) :
    Calls Try.prog 46 #[.int .u32 x.toNat, .int .u32 0] w fun e w' => e = .returned (.int .u32 (Crc.stp x).toNat) ∧ w = w' := by
  have := rstep_any x 0#32 w
  rw [rst_zero] at this
  exact this

theorem afterG {B : Nat} {w wr w1 wx : World} (h : Below B w wr) (h1 : Below wr.heap.size wr w1) (h2 : Below w1.heap.size w1 wx) (hB : B ≤ wr.heap.size) : Below B w wx :=
  (h.trans (h1.mono hB)).trans (h2.mono (Nat.le_trans hB h1.size))

theorem heap_set {w : World} {N j : Nat} {arr : Array Value} {t : TypeId} (h1 : w.heap[N]? = some (.cells arr t)) (v : Value) : (w.setCell ⟨N, j, none⟩ v).heap[N]? = some (.cells (arr.setIfInBounds j v) t) := by
  rw [setCell_eq_setRow w N j arr _ (0, 0) _ h1, setRow_heap w N _ _ _ _ h1]

theorem cell_set {w : World} {g g2 k j : Nat} {u v : Value} (h : w.cell? ⟨g, j, none⟩ = some u) (hne : g ≠ g2) : (w.setCell ⟨g2, k, none⟩ v).cell? ⟨g, j, none⟩ = some u := by
  rw [World.cell?_setCell_other _ _ _ _ (fun e => hne (by simpa using (congrArg Addr.block e).symm))]
  exact h

theorem range_set {w : World} {g g2 k o : Nat} {l : List Value} {v : Value} (h : w.rangeAt g o l) (hne : g ≠ g2) : (w.setCell ⟨g2, k, none⟩ v).rangeAt g o l :=
  fun j u hu => cell_set (h j u hu) hne

theorem range_mat {w : World} {g N : Nat} {t : TypeId} (h : w.heap[g]? = some (.cells (mat N).toArray t)) : w.rangeAt g 0 (mat N) := fun j v hv => by
  rw [Nat.zero_add, cell_of_row _ _ j _ t (0, 0) h, List.getElem?_toArray]
  exact hv

set_option maxRecDepth 20000 in
set_option maxHeartbeats 2000000 in
theorem rjoin_any (a b : BitVec 32) (n : Nat) (w : World) (hn : n ≤ 9223372036854775807) :
    Calls Try.prog 44 #[.int .u32 a.toNat, .int .u32 b.toNat, .int .i64 n] w fun e w' => e = .returned (.int .u32 (joinOf a b n).toNat) ∧ Below w.heap.size w w' := by
  go_enter Try.func44, Try.ntmps44
  go_wp2
  go_loopw [8] (fun i wx => ∃ k : Nat, k ≤ 32 ∧ i = .int .i64 k ∧ w.alloc (.cells (fill 8 k).toArray 91) = wx) (fun i _ => 32 - (intOf i).toNat)
  case atStart => exact ⟨0, by omega, rfl, rfl⟩
  case round =>
    obtain ⟨k, hk, rfl, rfl⟩ := hrel
    by_cases hlt : k < 32
    · have h1 : (k : Int) < 32 := by omega
      go_wp2
      go_loopw [9, 10] (fun r i wx => ∃ j : Nat, j ≤ 8 ∧ i = .int .i64 j ∧ r = .int .u32 (Crc.stps j (BitVec.twoPow 32 k)).toNat ∧ w.alloc (.cells (fill 8 k).toArray 91) = wx) (fun _ i _ => 8 - (intOf i).toNat)
      case atStart => exact ⟨0, by omega, rfl, by rw [two_walk k hlt]; rfl, rfl⟩
      case round =>
        obtain ⟨j, hj, rfl, rfl, rfl⟩ := hrel
        by_cases hlj : j < 8
        · obtain ⟨x, hx⟩ : ∃ x, x = Crc.stps j (BitVec.twoPow 32 k) := ⟨_, rfl⟩
          rw [← hx]
          have HX := Lib.hid hx
          clear hx
          go_wp2_with (go_at_call 46; refine (rstep_zero x _).mono ?_; rintro e w' ⟨rfl, rfl⟩)
          go_roundw
          case rel => exact ⟨j + 1, by omega, by go_num, by rw [HX.out, Crc.stps_succ], by trivial⟩
          case measure => simp [intOf]; omega
        · obtain rfl : j = 8 := by omega
          have hl := fill_length 8 k hk
          have hf : (w.alloc (.cells (fill 8 k).toArray 91)).frozen? ⟨w.heap.size, k, none⟩ = false := frozen_of_row _ _ k _ 91 (heap_alloc_last w _)
          have hc : ((w.alloc (.cells (fill 8 k).toArray 91)).cell? ⟨w.heap.size, k, none⟩).isSome = true := by
            rw [cell_of_row _ _ k _ 91 (0, 0) (heap_alloc_last w _), List.getElem?_toArray, List.getElem?_eq_getElem (by omega)]
            rfl
          obtain ⟨u, hu⟩ := Option.isSome_iff_exists.1 hc
          have HL := Lib.hid hl
          clear hl hc
          go_wp2
          go_roundw
          case rel => exact ⟨k + 1, by omega, by go_num, by rw [show Value.int IntKind.u32 ((Crc.stps 8 (BitVec.twoPow 32 k)).toNat : Int) = u32V (Crc.stps 8 (BitVec.twoPow 32 k)) from rfl, fill_set_next 8 k hlt]⟩
          case measure => simp [intOf]; omega
    · obtain rfl : k = 32 := by omega
      rw [fill_end, show (((32 : Nat) : Int)) = 32 from rfl]
      have hg0 : (w.alloc (.cells (mat 8).toArray 91)).heap[w.heap.size]? = some (.cells (mat 8).toArray 91) := heap_alloc_last w _
      have hb0 : Below w.heap.size w (w.alloc (.cells (mat 8).toArray 91)) := (Below.refl _ _).alloc (Nat.le_refl _) _
      have hlt0 : w.heap.size < (w.alloc (.cells (mat 8).toArray 91)).heap.size := by simp
      obtain ⟨g, hg⟩ : ∃ g, g = w.heap.size := ⟨_, rfl⟩
      rw [← hg] at hg0 hb0 hlt0 ⊢
      generalize w.alloc (.cells (mat 8).toArray 91) = w0 at *
      have HG := Lib.hid hg
      have HG0 := Lib.hid hg0
      have HB0 := Lib.hid hb0
      clear hg hg0 hb0
      go_wp2
      go_loopw [0, 2] (fun x m wx => ∃ (E nn : Nat) (y : BitVec 32), nn ≤ 9223372036854775807 ∧ x = .int .u32 y.toNat ∧ m = .int .i64 nn ∧ Crc.stps (E * nn) y = Crc.stps (8 * n) a ∧ wx.heap[g]? = some (.cells (mat E).toArray 91) ∧ Below g w wx ∧ g < wx.heap.size) (fun _ m _ => (intOf m).toNat)
      case atStart => exact ⟨8, n, a, by omega, rfl, rfl, rfl, HG0.out, HB0.out, hlt0⟩
      case round =>
        obtain ⟨E, nn, y, hnn, rfl, rfl, hst, hrow, hbel, hgs⟩ := hrel
        have HST := Lib.hid hst
        have HROW := Lib.hid hrow
        have HBEL := Lib.hid hbel
        clear hst hrow hbel
        by_cases hz : nn = 0
        · subst hz
          go_wp2
          go_ret
          have e := HST.out
          rw [Nat.mul_zero] at e
          refine ⟨?_, by rw [← HG.out]; exact HBEL.out⟩
          rw [xor_walk]
          unfold joinOf
          rw [← e]
          rfl
        · have hz2 : (0 : Int) < (nn : Int) := by omega
          have hz3 : nn / 2 < nn := by omega
          have hz4 : decide (0 < nn) = true := by simp; omega
          clear hz
          obtain ⟨y2, hy2⟩ : ∃ y2, y2 = if nn % 2 = 1 then Crc.stps E y else y := ⟨_, rfl⟩
          have hst2 : Hid (Crc.stps ((E + E) * (nn / 2)) y2 = Crc.stps (8 * n) a) := by
            show _ = _
            rw [hy2]
            split
            · rename_i ho; rw [join_odd E nn y ho, HST.out]
            · rename_i ho; rw [join_even E nn y (by omega), HST.out]
          by_cases hodd : nn % 2 = 1
          · rw [if_pos hodd] at hy2
            have HY2 := Lib.hid hy2
            have ht : ((nn : Int) % 2 == 1) = true := by simp; omega
            clear hy2 hodd
            go_wp2_with (first
              | (with_reducible refine wpList_load_row rfl 91 _ rfl g rfl 91 (mat E).toArray (0, 0) _ HROW.out Try.underlying91 rfl (info91 _) ?_)
              | (go_at_call 63; refine (by_any E y _).mono ?_; rintro e w1 ⟨rfl, hb1⟩))
            rw [← HY2.out]
            have hrow1 : w1.heap[g]? = some (.cells (mat E).toArray 91) := by rw [hb1.block g hgs]; exact HROW.out
            have hgs1 : g < w1.heap.size := Nat.lt_of_lt_of_le hgs hb1.size
            have HB1 := Lib.hid hb1
            have HROW1 := Lib.hid hrow1
            have HGS1 := Lib.hid hgs1
            clear hb1 hrow1 hgs1 ht
            go_loopw [12] (fun i wx => ∃ k : Nat, k ≤ 32 ∧ i = .int .i64 k ∧ wx.heap[w1.heap.size]? = some (.cells (fill (E + E) k).toArray 91) ∧ Below w1.heap.size w1 wx) (fun i _ => 32 - (intOf i).toNat)
            case atStart => exact ⟨0, by omega, rfl, heap_alloc_last w1 _, (Below.refl _ _).alloc (Nat.le_refl _) _⟩
            case round =>
              obtain ⟨k, hk, rfl, hrow2, hbel2⟩ := hrel
              obtain ⟨g2, hg2⟩ : ∃ g2, g2 = w1.heap.size := ⟨_, rfl⟩
              rw [← hg2] at hrow2 ⊢
              have hne : g ≠ g2 := by have := HGS1.out; omega
              have hg2s : g2 < wr.heap.size := by
                rcases Nat.lt_or_ge g2 wr.heap.size with h | h
                · exact h
                · rw [Array.getElem?_eq_none h] at hrow2; cases hrow2
              have hrow3 : wr.heap[g]? = some (.cells (mat E).toArray 91) := by rw [hbel2.block g HGS1.out]; exact HROW1.out
              have hgs2 : g < wr.heap.size := Nat.lt_of_lt_of_le HGS1.out hbel2.size
              have HROW2 := Lib.hid hrow2
              have HROW3 := Lib.hid hrow3
              have HBEL2 := Lib.hid hbel2
              have HG2 := Lib.hid hg2
              by_cases hlt : k < 32
              · have h0 : (0 : Int) ≤ (k : Int) := by omega
                have h1 : (k : Int) < 32 := by omega
                have hl := fill_length (E + E) k hk
                have hf : wr.frozen? ⟨g2, k, none⟩ = false := frozen_of_row _ _ k _ 91 hrow2
                have hc : (wr.cell? ⟨g2, k, none⟩).isSome = true := by
                  rw [cell_of_row _ _ k _ 91 (0, 0) hrow2, List.getElem?_toArray, List.getElem?_eq_getElem (by omega)]
                  rfl
                obtain ⟨u, hu⟩ := Option.isSome_iff_exists.1 hc
                have hcm := mat_cell hrow3 hlt
                have hra := range_mat hrow3
                have hu91 := Try.underlying91
                have hin := info91 E
                have hln := mat_length E
                rw [List.size_toArray] at hin
                clear hl hc hrow2 hrow3 hbel2 hg2
                go_wp2
                go_region_held3 (fun w' => w'.rangeAt g 0 (mat E) ∧ w'.cell? ⟨g, k, none⟩ = some (.int .u32 (Crc.stps E (BitVec.twoPow 32 k)).toNat)) (first | (constructor <;> assumption) | (refine ⟨range_set ?_ hne, cell_set ?_ hne⟩ <;> assumption))
                  (first
                    | (go_at_call 63; refine (by_any E (Crc.stps E (BitVec.twoPow 32 k)) _).mono ?_; rintro e w' ⟨rfl, hb3⟩; have hu3 := (hb3.cell (p := ⟨g2, k, none⟩) hg2s).trans hu; have hf3 := (hb3.frozen (p := ⟨g2, k, none⟩) hg2s).trans hf; have hc3 := (hb3.cell (p := ⟨g, k, none⟩) hgs2).trans hcm; have hr3 : w'.rangeAt g 0 (mat E) := fun j v hv => (hb3.cell (p := ⟨g, 0 + j, none⟩) hgs2).trans (hra j v hv)))
                have hb4 : Below wr.heap.size wr w' := ((Below.refl _ wr).drew).trans hb3
                have HB4 := Lib.hid hb4
                clear hb3 hb4 hu3 hf3 hc3 hr3 hra hcm hu hf hin hln hu91
                rename_i hHeld
                clear hHeld
                go_wp2
                go_roundw
                case rel =>
                  have hx : w'.heap[g2]? = some (.cells (fill (E + E) k).toArray 91) := by rw [HB4.out.block g2 hg2s]; exact HROW2.out
                  refine ⟨k + 1, by omega, by go_num, ?_, ?_⟩
                  · have := heap_set (j := k) hx (u32V (Crc.stps (E + E) (BitVec.twoPow 32 k)))
                    rw [List.setIfInBounds_toArray, fill_set_next (E + E) k hlt] at this
                    rw [← Crc.stps_add]
                    exact this
                  · rw [HG2.out]
                    exact (HBEL2.out.trans (HB4.out.mono HBEL2.out.size)).setCell (p := ⟨w1.heap.size, k, none⟩) (Nat.le_refl _) _
                case measure => simp [intOf]; omega
              · obtain rfl : k = 32 := by omega
                rw [fill_end] at hrow2
                have HROW4 := Lib.hid hrow2
                have hst3 := setRow_heap wr g _ (mat (E + E)).toArray 91 (0, 0) hrow3
                have HST3 := Lib.hid hst3
                clear hst3 hrow2 hrow3 hbel2 hg2
                go_wp2_with (first
                  | (with_reducible refine wpList_load_row rfl 91 _ rfl g2 rfl 91 (mat (E + E)).toArray (0, 0) _ HROW4.out Try.underlying91 rfl (info91 _) ?_)
                  | (with_reducible refine wpList_store_row rfl 91 _ _ rfl g (mat (E + E)).toArray rfl rfl 91 _ HROW3.out (info91 _) (same_size _ _) (all_mat _) ?_))
                go_roundw
                case rel => exact ⟨E + E, nn / 2, y2, by omega, rfl, by go_num, hst2.out, HST3.out, below_setRow (afterG HBEL.out HB1.out HBEL2.out (by omega)) _ _ (Nat.le_refl _), by rw [setRow_size]; exact hgs2⟩
                case measure => simp [intOf]; omega
          · rw [if_neg hodd] at hy2
            have ht : ((nn : Int) % 2 == 1) = false := by simp; omega
            obtain rfl := hy2
            clear hodd
            go_wp2
            have hb1 : Below wr.heap.size wr wr := Below.refl _ _
            obtain ⟨w1, hw1⟩ : ∃ w1, wr = w1 := ⟨_, rfl⟩
            rw [hw1] at hb1 ⊢
            have hb1' : Below wr.heap.size wr w1 := by rw [hw1]; exact hb1
            clear hb1
            have hb1 := hb1'
            clear hb1' hw1
            have hrow1 : w1.heap[g]? = some (.cells (mat E).toArray 91) := by rw [hb1.block g hgs]; exact HROW.out
            have hgs1 : g < w1.heap.size := Nat.lt_of_lt_of_le hgs hb1.size
            have HB1 := Lib.hid hb1
            have HROW1 := Lib.hid hrow1
            have HGS1 := Lib.hid hgs1
            clear hb1 hrow1 hgs1 ht
            go_loopw [12] (fun i wx => ∃ k : Nat, k ≤ 32 ∧ i = .int .i64 k ∧ wx.heap[w1.heap.size]? = some (.cells (fill (E + E) k).toArray 91) ∧ Below w1.heap.size w1 wx) (fun i _ => 32 - (intOf i).toNat)
            case atStart => exact ⟨0, by omega, rfl, heap_alloc_last w1 _, (Below.refl _ _).alloc (Nat.le_refl _) _⟩
            case round =>
              obtain ⟨k, hk, rfl, hrow2, hbel2⟩ := hrel
              obtain ⟨g2, hg2⟩ : ∃ g2, g2 = w1.heap.size := ⟨_, rfl⟩
              rw [← hg2] at hrow2 ⊢
              have hne : g ≠ g2 := by have := HGS1.out; omega
              have hg2s : g2 < wr.heap.size := by
                rcases Nat.lt_or_ge g2 wr.heap.size with h | h
                · exact h
                · rw [Array.getElem?_eq_none h] at hrow2; cases hrow2
              have hrow3 : wr.heap[g]? = some (.cells (mat E).toArray 91) := by rw [hbel2.block g HGS1.out]; exact HROW1.out
              have hgs2 : g < wr.heap.size := Nat.lt_of_lt_of_le HGS1.out hbel2.size
              have HROW2 := Lib.hid hrow2
              have HROW3 := Lib.hid hrow3
              have HBEL2 := Lib.hid hbel2
              have HG2 := Lib.hid hg2
              by_cases hlt : k < 32
              · have h0 : (0 : Int) ≤ (k : Int) := by omega
                have h1 : (k : Int) < 32 := by omega
                have hl := fill_length (E + E) k hk
                have hf : wr.frozen? ⟨g2, k, none⟩ = false := frozen_of_row _ _ k _ 91 hrow2
                have hc : (wr.cell? ⟨g2, k, none⟩).isSome = true := by
                  rw [cell_of_row _ _ k _ 91 (0, 0) hrow2, List.getElem?_toArray, List.getElem?_eq_getElem (by omega)]
                  rfl
                obtain ⟨u, hu⟩ := Option.isSome_iff_exists.1 hc
                have hcm := mat_cell hrow3 hlt
                have hra := range_mat hrow3
                have hu91 := Try.underlying91
                have hin := info91 E
                have hln := mat_length E
                rw [List.size_toArray] at hin
                clear hl hc hrow2 hrow3 hbel2 hg2
                go_wp2
                go_region_held3 (fun w' => w'.rangeAt g 0 (mat E) ∧ w'.cell? ⟨g, k, none⟩ = some (.int .u32 (Crc.stps E (BitVec.twoPow 32 k)).toNat)) (first | (constructor <;> assumption) | (refine ⟨range_set ?_ hne, cell_set ?_ hne⟩ <;> assumption))
                  (first
                    | (go_at_call 63; refine (by_any E (Crc.stps E (BitVec.twoPow 32 k)) _).mono ?_; rintro e w' ⟨rfl, hb3⟩; have hu3 := (hb3.cell (p := ⟨g2, k, none⟩) hg2s).trans hu; have hf3 := (hb3.frozen (p := ⟨g2, k, none⟩) hg2s).trans hf; have hc3 := (hb3.cell (p := ⟨g, k, none⟩) hgs2).trans hcm; have hr3 : w'.rangeAt g 0 (mat E) := fun j v hv => (hb3.cell (p := ⟨g, 0 + j, none⟩) hgs2).trans (hra j v hv)))
                have hb4 : Below wr.heap.size wr w' := ((Below.refl _ wr).drew).trans hb3
                have HB4 := Lib.hid hb4
                clear hb3 hb4 hu3 hf3 hc3 hr3 hra hcm hu hf hin hln hu91
                rename_i hHeld
                clear hHeld
                go_wp2
                go_roundw
                case rel =>
                  have hx : w'.heap[g2]? = some (.cells (fill (E + E) k).toArray 91) := by rw [HB4.out.block g2 hg2s]; exact HROW2.out
                  refine ⟨k + 1, by omega, by go_num, ?_, ?_⟩
                  · have := heap_set (j := k) hx (u32V (Crc.stps (E + E) (BitVec.twoPow 32 k)))
                    rw [List.setIfInBounds_toArray, fill_set_next (E + E) k hlt] at this
                    rw [← Crc.stps_add]
                    exact this
                  · rw [HG2.out]
                    exact (HBEL2.out.trans (HB4.out.mono HBEL2.out.size)).setCell (p := ⟨w1.heap.size, k, none⟩) (Nat.le_refl _) _
                case measure => simp [intOf]; omega
              · obtain rfl : k = 32 := by omega
                rw [fill_end] at hrow2
                have HROW4 := Lib.hid hrow2
                have hst3 := setRow_heap wr g _ (mat (E + E)).toArray 91 (0, 0) hrow3
                have HST3 := Lib.hid hst3
                clear hst3 hrow2 hrow3 hbel2 hg2
                go_wp2_with (first
                  | (with_reducible refine wpList_load_row rfl 91 _ rfl g2 rfl 91 (mat (E + E)).toArray (0, 0) _ HROW4.out Try.underlying91 rfl (info91 _) ?_)
                  | (with_reducible refine wpList_store_row rfl 91 _ _ rfl g (mat (E + E)).toArray rfl rfl 91 _ HROW3.out (info91 _) (same_size _ _) (all_mat _) ?_))
                go_roundw
                case rel => exact ⟨E + E, nn / 2, y2, by omega, rfl, by go_num, hst2.out, HST3.out, below_setRow (afterG HBEL.out HB1.out HBEL2.out (by omega)) _ _ (Nat.le_refl _), by rw [setRow_size]; exact hgs2⟩
                case measure => simp [intOf]; omega

end Go.Proofs.Ytallfhfgplgfpaa
